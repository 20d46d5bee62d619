/- Pd14 · Pd04 · Pd3 · Pd24 (joined by merge4.py) -/
import Derived.Test.YtnmmnlffobnbfaaGreatDoorMD
import Derived.Test.YtnmmnlffobnbfaaGreatDoorMJ
import Derived.Laws.BytesArg
import Derived.Laws.Strings
import Derived.Laws.CopyOwn
import Derived.Lib.MakeNoZero
import Derived.Test.YtnmmnlffobnbfaaGreatDoorME
/- cbc: bytes.Equal, bytes.Repeat of one byte -/
namespace Go.Proofs.YtnmmnlffobnbfaaGreatDoor
open Go.RowKit

set_option maxRecDepth 100000 in
set_option maxHeartbeats 1000000 in
theorem eql_any (w : World) (pa pb : Option Addr) (an ac bn bc : Nat) (X Y : List UInt8) (hX : RowAt w pa X) (hY : RowAt w pb Y) (hx : X.length = an) (hy : Y.length = bn) :
    Calls Tryz.prog 176 #[.slice pa an ac, .slice pb bn bc] w fun e w' => e = .returned (.bool (X == Y)) ∧ w = w' := by
  have k1 := str_row (c := ac) hX hx
  have k2 := str_row (c := bc) hY hy
  have hb := str_eq X Y
  have hb := hid hb
  generalize str X = s at *
  generalize str Y = t at *
  go_enter Tryz.func176, Tryz.ntmps176
  go_wp2_with fail
  go_ret
  exact ⟨by rw [← hb.out]; rfl, rfl⟩

set_option maxRecDepth 100000 in
set_option maxHeartbeats 1000000 in
theorem mul64_1 (w : World) (n : Nat) (h1 : 1 ≤ n) (h16 : n ≤ 16 ∨ n = 64) :
    Calls Tryz.prog 216 #[.int .u64 1, .int .u64 n] w fun e w' => e = .returned (.tuple #[.int .u64 0, .int .u64 n]) ∧ w = w' := by
  have h : n = 1 ∨ n = 2 ∨ n = 3 ∨ n = 4 ∨ n = 5 ∨ n = 6 ∨ n = 7 ∨ n = 8 ∨ n = 9 ∨ n = 10 ∨ n = 11 ∨ n = 12 ∨ n = 13 ∨ n = 14 ∨ n = 15 ∨ n = 16 ∨ n = 64 := by omega
  rcases h with rfl | rfl | rfl | rfl | rfl | rfl | rfl | rfl | rfl | rfl | rfl | rfl | rfl | rfl | rfl | rfl | rfl
  all_goals
    go_enter Tryz.func216, Tryz.ntmps216
    go_wp2_with fail
    go_ret2
    exact ⟨rfl, rfl⟩
set_option maxRecDepth 100000 in
set_option maxHeartbeats 1000000 in
theorem mul1_any (w : World) (n : Nat) (h1 : 1 ≤ n) (h16 : n ≤ 16 ∨ n = 64) :
    Calls Tryz.prog 197 #[.int .u64 1, .int .u64 n] w fun e w' => e = .returned (.tuple #[.int .u64 0, .int .u64 n]) ∧ w = w' := by
  go_enter Tryz.func197, Tryz.ntmps197
  go_wp2_with fail
  refine (mul64_1 w n h1 h16).mono ?_
  rintro e w1 ⟨rfl, rfl⟩
  go_wp2_with fail
  go_ret2
  exact ⟨rfl, rfl⟩
theorem size5b : (Tryz.prog.info? 5).map (·.size) = some 1 := by kernel_rfl
theorem bys_rep_succ (k : Nat) (x : UInt8) (c : Nat) (hc : c ≤ k) (rest : List Value) :
    splice (bys (List.replicate k x) ++ rest) k (List.take c (List.drop 0 (bys (List.replicate k x) ++ rest))) = bys (List.replicate (k + c) x) ++ rest.drop c := by
  have h1 : List.take c (List.drop 0 (bys (List.replicate k x) ++ rest)) = bys (List.replicate c x) := by
    rw [List.drop_zero, List.take_append_of_le_length (by rw [bys_length]; simp; exact hc)]
    simp [bys, Nat.min_eq_left hc]
  rw [h1]
  unfold splice
  have h2 : (bys (List.replicate k x)).length = k := by rw [bys_length]; simp
  have h3 : (bys (List.replicate c x)).length = c := by rw [bys_length]; simp
  rw [List.take_append_of_le_length (by omega), List.take_of_length_le (by omega), h3, List.drop_append, List.drop_of_length_le (by omega), h2]
  simp only [List.nil_append, Nat.add_sub_cancel_left]
  rw [← List.append_assoc]
  congr 1
  simp [bys]

end Go.Proofs.YtnmmnlffobnbfaaGreatDoor

/- cbc: bytes.Repeat of one byte -/
namespace Go.Proofs.YtnmmnlffobnbfaaGreatDoor
open Go.RowKit

set_option maxRecDepth 100000 in
set_option maxHeartbeats 600000 in
theorem repeat_any (w : World) (b cap : Nat) (x : UInt8) (T : TypeId) (hb : Blk w b [.int .u8 (bv x)] T) (n : Nat) (h1 : 1 ≤ n) (h16 : n ≤ 16 ∨ n = 64) :
    Calls Tryz.prog 177 #[.slice (some ⟨b, 0, none⟩) 1 cap, .int .i64 n] w fun e w' => e = .returned (.slice (some ⟨w.heap.size, 0, none⟩) n n) ∧ (∃ rest, Blk w' w.heap.size (bys (List.replicate n x) ++ rest) tU8) ∧ Below w.heap.size w w' := by
  obtain ⟨cs, hrun, hle, _⟩ := Lib.run_makeNoZero (P := Tryz.prog) w #[3] 23 5 under33b n (by omega)
  have hcall : (callFunc 198 #[.int .i64 n]).run Tryz.prog w = .ok (.value (.slice (some ⟨w.heap.size, 0, none⟩) n cs.size)) (w.drew.drew.alloc (.cells cs 5)) := by
    rw [run_callFunc_extern Tryz.func198 (by kernel_rfl) (by kernel_rfl) (by kernel_rfl) (e := Extern.BytealgMakeNoZero.makeNoZero #[3] #[23]) (by kernel_rfl), hrun]
    rfl
  clear hrun
  have hbl := hb.lt
  have e0 : cs = cs.toList.toArray := by simp
  have hg : Blk (w.drew.drew.alloc (.cells cs 5)) w.heap.size cs.toList tU8 := by
    have := Blk.new w.drew.drew cs.toList tU8
    rw [← e0] at this
    exact this
  have hb1 : Blk (w.drew.drew.alloc (.cells cs 5)) b [.int .u8 (bv x)] T := hb.drew.drew.alloc _
  have hB : Below w.heap.size w (w.drew.drew.alloc (.cells cs 5)) := (((Below.refl _ _).drew).drew).alloc (Nat.le_refl _) _
  have hcl : n ≤ cs.toList.length := by simpa using hle
  clear hb
  go_enter Tryz.func177, Tryz.ntmps177
  go_wp2_with fail
  refine (mul1_any _ n h1 h16).mono ?_
  rintro e w1 ⟨rfl, rfl⟩
  have hmin : Nat.min 1 n = 1 := Nat.min_eq_left h1
  go_wp2_with (refine wpList_copy_blk rfl (.tmp 58) (.tmp 59) 23 23 rfl 5 under33b size5b w.heap.size 0 n n b 0 1 cap rfl rfl cs.toList [.int .u8 (bv x)] tU8 T hg hb1 1 hmin.symm (by omega) (by simp) (bys_one [x]) ?_; intro w2 hg2 hch2 hs2)
  have hB2 : Below w.heap.size w w2 := hB.trans (hch2.below (by simp) (fun k hk => by simp at hk; omega))
  have hg3 : Blk w2 w.heap.size (bys (List.replicate 1 x) ++ cs.toList.drop 1) tU8 := by
    have e : splice cs.toList 0 (List.take 1 (List.drop 0 [Value.int .u8 (bv x)])) = bys (List.replicate 1 x) ++ cs.toList.drop 1 := by simp [splice, bys]
    rw [← e]; exact hg2
  have hrl : 1 + (cs.toList.drop 1).length = cs.toList.length := by rw [List.length_drop]; omega
  generalize cs.toList.drop 1 = rest0 at *
  generalize cs.toList.length = C at *
  clear hg2 hch2 hs2 hg hb1 hB hcall e0 hle
  go_loopw [10, 11] (fun i _ wr => ∃ (k : Nat) (rest : List Value), 1 ≤ k ∧ k ≤ n ∧ i = .int .i64 k ∧ Blk wr w.heap.size (bys (List.replicate k x) ++ rest) tU8 ∧ k + rest.length = C ∧ Below w.heap.size w wr) (fun i _ _ => n - (intOf i).toNat)
  case atStart => exact ⟨1, rest0, by omega, h1, rfl, hg3, hrl, hB2⟩
  case round =>
    obtain ⟨k, rest, hk1, hkn, rfl, hblk, hC, hBr⟩ := hrel
    clear hg3 hrl hB2
    by_cases hlt : k < n
    · obtain ⟨c, hc⟩ : ∃ c, Nat.min k (n - k) = c := ⟨_, rfl⟩
      have q1 : (k : Int) < (n : Int) := by omega
      have q2 : ¬ ((n : Int) ≤ (k : Int)) := by omega
      have hblkd := hid hblk.drew
      have hcr : c ≤ rest.length := by rw [← hc]; exact Nat.le_trans (Nat.min_le_right _ _) (by omega)
      have hck : c ≤ k := by rw [← hc]; exact Nat.min_le_left _ _
      have hc1 : 1 ≤ c := by rw [← hc]; exact Nat.le_min.2 ⟨hk1, by omega⟩
      have hcn : c ≤ n - k := by rw [← hc]; exact Nat.min_le_right _ _
      go_wp2_with fail
      have hcs : (bys (List.replicate c x)).length = c := by rw [bys_length]; simp
      have hfit : k + (bys (List.replicate c x)).length ≤ (bys (List.replicate k x) ++ rest).length := by rw [hcs, List.length_append, bys_length]; simp; omega
      have hsrc : ∀ j v, (bys (List.replicate c x))[j]? = some v → wr.drew.cell? ((⟨w.heap.size, 0, none⟩ : Addr).add j) = some v := fun j v hv => by
        rw [Addr.add_mid, Nat.zero_add]
        have hj : j < c := by
          rcases Nat.lt_or_ge j c with h | h
          · exact h
          · rw [List.getElem?_eq_none (by omega)] at hv; cases hv
        refine hblkd.out.cellAt ?_
        rw [List.getElem?_append_left (by rw [bys_length]; simp; omega), ← hv]
        simp [bys, hj, show j < k by omega]
      have hsp : splice (bys (List.replicate k x) ++ rest) k (bys (List.replicate c x)) = bys (List.replicate (k + c) x) ++ rest.drop c := by
        rw [← bys_rep_succ k x c hck rest]
        congr 1
        rw [List.drop_zero, List.take_append_of_le_length (by rw [bys_length]; simp; exact hck)]
        simp [bys, Nat.min_eq_left hck]
      have hnk : ¬ n = k := Nat.ne_of_gt hlt
      have e1 : 1 ≤ k + c := by omega
      have e2 : k + c ≤ n := by omega
      have e3 : k + c + (rest.drop c).length = C := by rw [List.length_drop]; omega
      have e4 : n - (k + c) < n - k := by omega
      have Hsp := hid hsp
      have Hcs := hid hcs
      have Hfit := hid hfit
      have Hsrc := hid hsrc
      have hwk : IntKind.i64.wrap ((k : Int) + (c : Int)) = ((k + c : Nat) : Int) := by rw [IntKind.wrap_i64]; omega
      clear hsp hcs hfit hsrc
      have hcopy0 := run_copy_row (P := Tryz.prog) wr.drew 23 23 3 5 w.heap.size k (n - k) (n - k) ⟨w.heap.size, 0, none⟩ k n (bys (List.replicate k x) ++ rest).toArray tU8 (bys (List.replicate c x)) under33b size5b hblkd.out (by rw [Hcs.out, ← hc]) Hsrc.out (by simpa using Hfit.out) (bys_one _)
      obtain ⟨w4, hw4⟩ : ∃ w4, wr.drew.setRow w.heap.size (splice (bys (List.replicate k x) ++ rest) k (bys (List.replicate c x))).toArray = w4 := ⟨_, rfl⟩
      have hg4 : Blk w4 w.heap.size (splice (bys (List.replicate k x) ++ rest) k (bys (List.replicate c x))) tU8 := by rw [← hw4]; exact hblkd.out.setRow _
      have hb4 : Below w.heap.size w w4 := by rw [← hw4]; exact below_setRow hBr.drew (Nat.le_refl _) _
      have hcopy : (Builtin.copy_ #[23, 23] 3 #[.slice (some ⟨w.heap.size, k, none⟩) (n - k) (n - k), .slice (some ⟨w.heap.size, 0, none⟩) k n]).run Tryz.prog wr.drew = .ok (.int .i64 c) w4 := by
        rw [hcopy0, ← hw4]
        simp only [splice, Hcs.out, List.append_assoc]
        rfl
      rw [Hsp.out] at hg4
      have Hg4 := hid hg4
      clear hcopy0 hw4 hg4
      refine tk_region (fun _ => True) (by kernel_rfl) (fun c a d v w h => by cases d <;> exact h) trivial (fun hPF hHeld => ?_)
      refine tk 0 (.some 67) _ _ rfl rfl (by kernel_rfl) (by kernel_rfl) (by kernel_rfl) hPF rfl (fun w' hw' => by (go_simp; try with_reducible rfl)) hHeld ?_
      simp only [Act.put, List.setIfInBounds_toArray, List.set_cons_zero, List.set_cons_succ]
      refine tk 1 (.some 68) _ _ rfl rfl (by kernel_rfl) (by kernel_rfl) (by kernel_rfl) hPF rfl (fun w' hw' => by (go_simp; try with_reducible rfl)) hHeld ?_
      simp only [Act.put, List.setIfInBounds_toArray, List.set_cons_zero, List.set_cons_succ]
      refine tk 2 (.some 69) _ _ rfl rfl (by kernel_rfl) (by kernel_rfl) (by kernel_rfl) hPF rfl (fun w' hw' => by (go_simp; try with_reducible rfl)) hHeld ?_
      simp only [Act.put, List.setIfInBounds_toArray, List.set_cons_zero, List.set_cons_succ]
      refine tk 3 (.some 70) _ _ rfl rfl (by kernel_rfl) (by kernel_rfl) (by kernel_rfl) hPF rfl (fun w' hw' => by (go_simp; try with_reducible rfl)) hHeld ?_
      simp only [Act.put, List.setIfInBounds_toArray, List.set_cons_zero, List.set_cons_succ]
      refine tk 4 (.some 71) _ _ rfl rfl (by kernel_rfl) (by kernel_rfl) (by kernel_rfl) hPF rfl (fun w' hw' => by (go_simp; try with_reducible rfl)) hHeld ?_
      simp only [Act.put, List.setIfInBounds_toArray, List.set_cons_zero, List.set_cons_succ]
      refine tk 5 (.some 72) _ _ rfl rfl (by kernel_rfl) (by kernel_rfl) (by kernel_rfl) hPF rfl (fun w' hw' => by (go_simp; try with_reducible rfl)) hHeld ?_
      simp only [Act.put, List.setIfInBounds_toArray, List.set_cons_zero, List.set_cons_succ]
      refine tk 6 (.some 73) _ _ rfl rfl (by kernel_rfl) (by kernel_rfl) (by kernel_rfl) hPF rfl (fun w' hw' => by (go_simp; try with_reducible rfl)) hHeld ?_
      simp only [Act.put, List.setIfInBounds_toArray, List.set_cons_zero, List.set_cons_succ]
      refine wpAnyH_ready (rs := [7]) (by kernel_rfl) (by simp) (AllReadyH.cons (o := _) rfl (fun K hK => ?_) AllReadyH.nil)
      go_simp
      refine hK.out _ _ trivial (fun hHeld => ?_)
      clear hK K
      try simp only [Act.put, List.setIfInBounds_toArray, List.set_cons_zero, List.set_cons_succ]
      refine tk 8 (.some 75) _ _ rfl rfl (by kernel_rfl) (by kernel_rfl) (by kernel_rfl) hPF rfl (fun w' hw' => by (go_simp; try with_reducible rfl)) hHeld ?_
      simp only [Act.put, List.setIfInBounds_toArray, List.set_cons_zero, List.set_cons_succ]
      refine tk 9 (.some 10) _ _ rfl rfl (by kernel_rfl) (by kernel_rfl) (by kernel_rfl) hPF rfl (fun w' hw' => by (go_simp; try with_reducible rfl)) hHeld ?_
      simp only [Act.put, List.setIfInBounds_toArray, List.set_cons_zero, List.set_cons_succ]
      refine wpAnyH_done (by kernel_rfl) ?_ _
      go_wp2_with fail
      go_roundw
      case rel =>
        exact ⟨k + c, rest.drop c, e1, e2, by rw [Int.natCast_add], Hg4.out, e3, hb4⟩
      case measure => simp [intOf]; rw [← Int.natCast_add, Int.toNat_natCast]; exact e4
    · obtain rfl : k = n := by omega
      go_wp2_with fail
      go_ret
      exact ⟨rfl, ⟨rest, hblk⟩, hBr⟩
end Go.Proofs.YtnmmnlffobnbfaaGreatDoor

/- cbc: Unpadded and Padded of the reference -/
namespace Go.Proofs.YtnmmnlffobnbfaaGreatDoor
open Go.RowKit

def padF (n : Nat) : List UInt8 := List.replicate (16 - n % 16) (UInt8.ofNat (16 - n % 16))
theorem padF_len (n : Nat) : (padF n).length = 16 - n % 16 := by simp [padF]
def lastB (l : List UInt8) : UInt8 := l.getD (l.length - 1) 0
/-- How many bytes stand ahead of a padding. -/
def unpadF (l : List UInt8) : Option Nat :=
  if l.length = 0 ∨ l.length % 16 ≠ 0 then none
  else if (lastB l).toNat < 1 ∨ 16 < (lastB l).toNat then none
  else if l.drop (l.length - (lastB l).toNat) = List.replicate (lastB l).toNat (lastB l) then some (l.length - (lastB l).toNat) else none
def unpadI (l : List UInt8) : Int := match unpadF l with | some n => (n : Int) | none => -1
theorem drop_rep {l : List UInt8} {x : Nat} {b : UInt8} (hx : x ≤ l.length) : l.drop (l.length - x) = List.replicate x b ↔ ∀ j, l.length - x ≤ j → j < l.length → l.getD j 0 = b := by
  constructor
  · intro h j h1 h2
    have : (l.drop (l.length - x))[j - (l.length - x)]? = some b := by rw [h, List.getElem?_replicate, if_pos (by omega)]
    rw [List.getElem?_drop, show l.length - x + (j - (l.length - x)) = j by omega] at this
    simp [List.getD, this]
  · intro h
    refine List.ext_getElem? fun k => ?_
    rw [List.getElem?_drop, List.getElem?_replicate]
    by_cases hk : k < x
    · rw [if_pos hk]
      have := h (l.length - x + k) (by omega) (by omega)
      rw [List.getElem?_eq_getElem (by omega)]
      simp [List.getD, List.getElem?_eq_getElem (show l.length - x + k < l.length by omega)] at this
      rw [this]
    · rw [if_neg hk, List.getElem?_eq_none (by omega)]

set_option maxRecDepth 100000 in
set_option maxHeartbeats 1000000 in
theorem unpadded_any (w : World) (pa : Option Addr) (n cap : Nat) (l : List UInt8) (hl : RowAt w pa l) (hn : l.length = n) (hm : n ≤ 140737488355328) :
    Calls Tryz.prog 107 #[.slice pa n cap] w fun e w' => e = .returned (.int .i64 (unpadI l)) ∧ w = w' := by
  have hmod : ((n : Int)).tmod 16 = ((n % 16 : Nat) : Int) := by rw [Int.tmod_eq_emod_of_nonneg (by omega)]; omega
  have hmod' : ((n : Int)) % 16 = ((n % 16 : Nat) : Int) := by omega
  by_cases h0 : n = 0
  · have HU := hid (show unpadI l = -1 by unfold unpadI unpadF; rw [if_pos (.inl (by omega))])
    subst h0
    go_enter Tryz.func107, Tryz.ntmps107
    go_wp2_with fail
    go_ret
    exact ⟨by rw [HU.out]; rfl, rfl⟩
  · by_cases h16 : n % 16 = 0
    · have H16 := hid h16
      obtain ⟨b, o, rfl, hb, hc⟩ := hl (n - 1) (by omega)
      have hx : l.getD (n - 1) 0 = lastB l := by unfold lastB; rw [hn]
      rw [hx] at hc
      have hc : w.cell? ⟨b, o + (n - 1), none⟩ = some (.int .u8 (bv (lastB l))) := hc
      have hd : l.drop (n - (lastB l).toNat) = List.replicate (lastB l).toNat (lastB l) ∨ True := .inr trivial
      have hU1 : (lastB l).toNat < 1 ∨ 16 < (lastB l).toNat → unpadI l = -1 := fun h => by
        unfold unpadI unpadF; rw [if_neg (by omega), if_pos h]
      have hdr : ¬ ((lastB l).toNat < 1 ∨ 16 < (lastB l).toNat) → (l.drop (l.length - (lastB l).toNat) = List.replicate (lastB l).toNat (lastB l) ↔ ∀ j, n - (lastB l).toNat ≤ j → j < n → l.getD j 0 = lastB l) := fun h => by
        rw [← hn]; exact drop_rep (by omega)
      have hU2 : ¬ ((lastB l).toNat < 1 ∨ 16 < (lastB l).toNat) → (∀ j, n - (lastB l).toNat ≤ j → j < n → l.getD j 0 = lastB l) → unpadI l = ((n - (lastB l).toNat : Nat) : Int) := fun h h' => by
        unfold unpadI unpadF; rw [if_neg (by omega), if_neg h, if_pos ((hdr h).2 h'), hn]
      have hU3 : ¬ ((lastB l).toNat < 1 ∨ 16 < (lastB l).toNat) → ¬ (∀ j, n - (lastB l).toNat ≤ j → j < n → l.getD j 0 = lastB l) → unpadI l = -1 := fun h h' => by
        unfold unpadI unpadF; rw [if_neg (by omega), if_neg h, if_neg (fun e => h' ((hdr h).1 e))]
      clear hdr hd
      have Hl := hid hl
      have HU1 := hid hU1
      have HU2 := hid hU2
      have HU3 := hid hU3
      have hbt : bv (lastB l) = ((lastB l).toNat : Int) := rfl
      have hlt := (lastB l).toNat_lt
      have Hinj := hid (fun (y : UInt8) (h : bv y = bv (lastB l)) => bv_inj h)
      generalize lastB l = x at *
      generalize hxn : x.toNat = xn at *
      rw [hbt] at hc
      clear hl hU1 hU2 hU3 hx hmod hmod'
      have hmod : ((n : Int)).tmod 16 = 0 := by rw [Int.tmod_eq_emod_of_nonneg (by omega)]; omega
      have hmod' : ((n : Int)) % 16 = 0 := by omega
      by_cases h1 : xn < 1 ∨ 16 < xn
      · have HU := hid (HU1.out h1)
        by_cases h2 : xn < 1
        · go_enter Tryz.func107, Tryz.ntmps107
          go_wp2_with fail
          go_ret
          exact ⟨by rw [HU.out]; rfl, rfl⟩
        · have h3 : 16 < xn := by omega
          clear h1
          go_enter Tryz.func107, Tryz.ntmps107
          go_wp2_with fail
          go_ret
          exact ⟨by rw [HU.out]; rfl, rfl⟩
      · have HU2 := hid (HU2.out h1)
        have HU3 := hid (HU3.out h1)
        have h2 : 1 ≤ xn := by omega
        have h3 : xn ≤ 16 := by omega
        have h4 : xn ≤ n := by have := H16.out; omega
        clear h1
        go_enter Tryz.func107, Tryz.ntmps107
        go_wp2_with fail
        go_loopw [4] (fun i wr => ∃ k : Nat, n - xn ≤ k ∧ k ≤ n ∧ i = .int .i64 k ∧ (∀ j, n - xn ≤ j → j < k → l.getD j 0 = x) ∧ w = wr) (fun i _ => n - (intOf i).toNat)
        case atStart => exact ⟨n - xn, by omega, by omega, by go_num, fun j h h' => by omega, rfl⟩
        case round =>
          obtain ⟨k, hk0, hk, rfl, hall, rfl⟩ := hrel
          have Hall := hid hall
          clear hall
          by_cases hkn : k < n
          · obtain ⟨b', o', e, _, hck⟩ := Hl.out k (by omega)
            injection e with e; injection e with e1 e2; subst e1 e2
            by_cases hy : l.getD k 0 = x
            · have Hy := hid hy
              rw [hy, hbt] at hck
              clear hy
              go_wp2_with fail
              go_roundw
              case rel =>
                refine ⟨k + 1, by omega, by omega, by go_num, fun j h h' => ?_, trivial⟩
                by_cases e : j = k
                · subst e; exact Hy.out
                · exact Hall.out j h (by omega)
              case measure => simp [intOf]; omega
            · have hne : (bv (l.getD k 0) != (xn : Int)) = true := by
                rw [bne_iff_ne, ← hbt]; exact fun e => hy (Hinj.out _ e)
              have HU := hid (HU3.out (fun h => hy (h k (by omega) hkn)))
              have hne2 : ¬ (bv (l.getD k 0) = (xn : Int)) := by rw [← hbt]; exact fun e => hy (Hinj.out _ e)
              have hy0 := bv_lo (l.getD k 0)
              have hy1 := bv_le (l.getD k 0)
              generalize bv (l.getD k 0) = y at *
              clear hy
              go_wp2_with fail
              go_ret
              exact ⟨by rw [HU.out]; rfl, rfl⟩
          · obtain rfl : k = n := by omega
            have HU := hid (HU2.out Hall.out)
            have hk : (k : Int) - (xn : Int) = ((k - xn : Nat) : Int) := by omega
            go_wp2_with fail
            go_ret
            exact ⟨by rw [HU.out, ← hk]; rfl, rfl⟩
    · have HU := hid (show unpadI l = -1 by unfold unpadI unpadF; rw [if_pos (.inr (by omega))])
      have hb : ¬ (((n % 16 : Nat) : Int) = 0) := by omega
      have hb2 : ¬ ((n : Int) = 0) := by omega
      generalize ((n % 16 : Nat) : Int) = r at *
      have hb3 : (r != 0) = true := by rw [bne_iff_ne]; exact hb
      clear h16
      go_enter Tryz.func107, Tryz.ntmps107
      go_wp2_with fail
      go_ret
      exact ⟨by rw [HU.out]; rfl, rfl⟩
end Go.Proofs.YtnmmnlffobnbfaaGreatDoor

/- cbc: Pad -/
namespace Go.Proofs.YtnmmnlffobnbfaaGreatDoor
open Go.RowKit

set_option maxRecDepth 100000 in
set_option maxHeartbeats 1000000 in
theorem pad_any (w : World) (n : Nat) (hn : n ≤ 9223372036854775807) :
    Calls Tryz.prog 131 #[.int .i64 n] w fun e w' => ∃ g, e = .returned (.slice (some ⟨g, 0, none⟩) (16 - n % 16) (16 - n % 16)) ∧ w.heap.size ≤ g ∧ (∃ rest, Blk w' g (bys (padF n) ++ rest) tU8) ∧ Below w.heap.size w w' := by
  obtain ⟨m, hm⟩ : ∃ m, 16 - n % 16 = m := ⟨_, rfl⟩
  have hm1 : 1 ≤ m := by omega
  have hm16 : m ≤ 16 := by omega
  have hpf : padF n = List.replicate m (UInt8.ofNat m) := by unfold padF; rw [hm]
  obtain ⟨r, hr⟩ : ∃ r : Int, ((n % 16 : Nat) : Int) = r := ⟨_, rfl⟩
  have h1 : (n : Int).tmod 16 = r := by rw [Int.tmod_eq_emod_of_nonneg (by omega), ← hr]; omega
  have h1' : (n : Int) % 16 = r := by omega
  have hr0 : 0 ≤ r := by omega
  have hr1 : r ≤ 15 := by omega
  have h2 : (16 : Int) - r = (m : Int) := by omega
  have h4 : bv (UInt8.ofNat m) = (m : Int) := bv_lit m (by omega)
  clear hr
  rw [hpf, hm]
  have hb := Blk.new w [.int .u8 (bv (UInt8.ofNat m))] tU8
  have hB : Below w.heap.size w (w.alloc (.cells [Value.int .u8 (bv (UInt8.ofNat m))].toArray tU8)) := (Below.refl _ _).alloc (Nat.le_refl _) _
  have hrep := repeat_any (w.alloc (.cells [Value.int .u8 (bv (UInt8.ofNat m))].toArray tU8)) w.heap.size 1 (UInt8.ofNat m) tU8 hb m hm1 (.inl hm16)
  rw [h4] at hb hB hrep
  clear hpf hm h4
  go_enter Tryz.func131, Tryz.ntmps131
  go_wp2_with fail
  refine hrep.mono ?_
  rintro e w2 ⟨rfl, ⟨rest, hblk⟩, hB2⟩
  have hBB := hB.trans (Below.mono hB2 hB.size)
  go_wp2_with fail
  go_ret
  refine ⟨w.heap.size + 1, ?_, by omega, ⟨rest, ?_⟩, hBB⟩
  · simp
  · simpa using hblk
set_option maxRecDepth 100000 in
theorem pad_neg (w : World) (n : Int) (hn : n < 0) :
    Calls Tryz.prog 131 #[.int .i64 n] w fun e w' => e = .returned (.slice none 0 0) ∧ w = w' := by
  go_enter Tryz.func131, Tryz.ntmps131
  go_wp2_with fail
  go_ret
  exact ⟨rfl, rfl⟩
theorem rowAt_pad {w : World} {g : Nat} {l : List UInt8} {rest : List Value} {T : TypeId} (h : Blk w g (bys l ++ rest) T) : RowAt w (some ⟨g, 0, none⟩) l := fun k hk => by
  refine ⟨g, 0, rfl, h.lt, ?_⟩
  rw [Nat.zero_add, h.cell, List.getElem?_append_left (by rw [bys_length]; exact hk), bys_get l k hk]

theorem rowAt_drop {w : World} {b o : Nat} {l : List UInt8} (h : RowAt w (some ⟨b, o, none⟩) l) (q : Nat) : RowAt w (some ⟨b, o + q, none⟩) (l.drop q) := fun k hk => by
  rw [List.length_drop] at hk
  obtain ⟨b', o', e, h1, h2⟩ := h (q + k) (by omega)
  injection e with e; injection e with e1 e2; subst e1 e2
  refine ⟨b, o + q, rfl, h1, ?_⟩
  rw [Nat.add_assoc, h2]
  simp [List.getD]

def unpadV (l : List UInt8) : Value := match unpadF l with | some n => .tuple #[.int .i64 n, .int .i64 0] | none => .tuple #[.int .i64 0, .int .i64 16]
set_option maxRecDepth 100000 in
set_option maxHeartbeats 2000000 in
theorem unpad_any (w : World) (pa : Option Addr) (n cap : Nat) (l : List UInt8) (hl : RowAt w pa l) (hn : l.length = n) (hm : n ≤ 140737488355328) (hcap : n ≤ cap) :
    Calls Tryz.prog 130 #[.slice pa n cap] w fun e w' => e = .returned (unpadV l) ∧ Below w.heap.size w w' := by
  have hmod : ((n : Int)).tmod 16 = ((n % 16 : Nat) : Int) := by rw [Int.tmod_eq_emod_of_nonneg (by omega)]; omega
  have hmod' : ((n : Int)) % 16 = ((n % 16 : Nat) : Int) := by omega
  by_cases h0 : n = 0
  · have HU := hid (show unpadV l = .tuple #[.int .i64 0, .int .i64 16] by unfold unpadV unpadF; rw [if_pos (.inl (by omega))])
    subst h0
    go_enter Tryz.func130, Tryz.ntmps130
    go_wp2_with fail
    go_ret2
    exact ⟨by rw [HU.out]; rfl, Below.refl _ _⟩
  · by_cases h16 : n % 16 = 0
    · have H16 := hid h16
      obtain ⟨b, o, rfl, hb, hc⟩ := hl (n - 1) (by omega)
      have hx : l.getD (n - 1) 0 = lastB l := by unfold lastB; rw [hn]
      rw [hx] at hc
      replace hc : w.cell? ⟨b, o + (n - 1), none⟩ = some (.int .u8 (bv (lastB l))) := hc
      have hU1 : (lastB l).toNat < 1 ∨ 16 < (lastB l).toNat → unpadV l = .tuple #[.int .i64 0, .int .i64 16] := fun h => by
        unfold unpadV unpadF; rw [if_neg (by omega), if_pos h]
      have hU2 : ¬ ((lastB l).toNat < 1 ∨ 16 < (lastB l).toNat) → l.drop (n - (lastB l).toNat) = List.replicate (lastB l).toNat (lastB l) → unpadV l = .tuple #[.int .i64 ((n - (lastB l).toNat : Nat) : Int), .int .i64 0] := fun h h' => by
        unfold unpadV unpadF; rw [if_neg (by omega), if_neg h, hn, if_pos h']
      have hU3 : ¬ ((lastB l).toNat < 1 ∨ 16 < (lastB l).toNat) → ¬ l.drop (n - (lastB l).toNat) = List.replicate (lastB l).toNat (lastB l) → unpadV l = .tuple #[.int .i64 0, .int .i64 16] := fun h h' => by
        unfold unpadV unpadF; rw [if_neg (by omega), if_neg h, hn, if_neg h']
      have hbt : bv (lastB l) = ((lastB l).toNat : Int) := rfl
      have hof : UInt8.ofNat (lastB l).toNat = lastB l := by simp
      have hlt := (lastB l).toNat_lt
      generalize lastB l = x at *
      generalize hxn : x.toNat = xn at *
      rw [hbt] at hc
      have HU1 := hid hU1
      have HU2 := hid hU2
      have HU3 := hid hU3
      have Hof := hid hof
      clear hU1 hU2 hU3 hx hmod hmod' hxn hbt hof
      have hmod : ((n : Int)).tmod 16 = 0 := by rw [Int.tmod_eq_emod_of_nonneg (by omega)]; omega
      have hmod' : ((n : Int)) % 16 = 0 := by omega
      have hB : Below w.heap.size w w := Below.refl _ _
      by_cases h2 : xn < 1
      · obtain rfl : xn = 0 := by omega
        have HU := hid (HU1.out (.inl h2))
        obtain ⟨m6, hm6⟩ : ∃ m6 : Int, (n : Int) - 16 = m6 := ⟨_, rfl⟩
        have hm7 : -9223372036854775808 ≤ m6 ∧ m6 ≤ 9223372036854775807 := by omega
        have hm8 : IntKind.i64.wrap m6 = m6 := by rw [IntKind.wrap_i64]; omega
        have hm9 : wrap64 m6 = m6 := by unfold wrap64; omega
        have q1 : ¬ ((n : Int) < m6) := by omega
        go_enter Tryz.func130, Tryz.ntmps130
        go_wp2_with fail
        go_quiet (fail)
        go_wp2_with fail
        go_ret2
        exact ⟨by rw [HU.out]; rfl, by first | exact hB | exact hB.drew | exact below_drewN hB _⟩
      · by_cases h3 : 16 < xn
        · have HU := hid (HU1.out (.inr h3))
          obtain ⟨m6, hm6⟩ : ∃ m6 : Int, (n : Int) - 16 = m6 := ⟨_, rfl⟩
          have hm7 : -9223372036854775808 ≤ m6 ∧ m6 ≤ 9223372036854775807 := by omega
          have hm8 : IntKind.i64.wrap m6 = m6 := by rw [IntKind.wrap_i64]; omega
          have hm9 : wrap64 m6 = m6 := by unfold wrap64; omega
          obtain ⟨nx, hnx⟩ : ∃ nx : Int, (n : Int) - (xn : Int) = nx := ⟨_, rfl⟩
          have q1 : nx < m6 := by omega
          go_enter Tryz.func130, Tryz.ntmps130
          go_wp2_with fail
          go_quiet (fail)
          go_wp2_with fail
          go_ret2
          exact ⟨by rw [HU.out]; rfl, by first | exact hB | exact hB.drew | exact below_drewN hB _⟩
        · have h4 : xn ≤ n := by have := H16.out; omega
          obtain ⟨q, hq⟩ : ∃ q, n - xn = q := ⟨_, rfl⟩
          have hqi : (n : Int) - (xn : Int) = (q : Int) := by omega
          have hq16 : 16 - q % 16 = xn := by have := H16.out; omega
          have hRq := rowAt_drop hl q
          have hql : (l.drop q).length = n - q := by rw [List.length_drop, hn]
          have hpq : padF q = List.replicate xn x := by unfold padF; rw [hq16, Hof.out]
          have HU2 := hid (HU2.out (by omega))
          have HU3 := hid (HU3.out (by omega))
          rw [hq] at HU2 HU3
          obtain ⟨m6, hm6⟩ : ∃ m6 : Int, (n : Int) - 16 = m6 := ⟨_, rfl⟩
          have hm7 : -9223372036854775808 ≤ m6 ∧ m6 ≤ 9223372036854775807 := by omega
          have hm8 : IntKind.i64.wrap m6 = m6 := by rw [IntKind.wrap_i64]; omega
          have hm9 : wrap64 m6 = m6 := by unfold wrap64; omega
          have q4 : q ≤ n := by omega
          have q1 : ¬ ((q : Int) < m6) := by omega
          have q1b : decide ((q : Int) < m6) = false := decide_eq_false q1
          have q2 : ¬ ((q : Int) = (n : Int)) := by omega
          have q2b : ((q : Int) == (n : Int)) = false := by rw [beq_eq_false_iff_ne]; exact q2
          have q3 : ¬ (cap = q) := by omega
          go_enter Tryz.func130, Tryz.ntmps130
          go_wp2_with fail
          refine tk_region (fun w' => RowAt w' (some ⟨b, o + q, none⟩) (l.drop q)) (by kernel_rfl) (fun c a d v w h => by cases d <;> exact h) hRq (fun hPF hHeld => ?_)
          refine tk 0 (.some 24) _ _ rfl rfl (by kernel_rfl) (by kernel_rfl) (by kernel_rfl) hPF rfl (fun w' hw' => by (go_simp; try with_reducible rfl)) hHeld ?_
          simp only [Act.put, List.setIfInBounds_toArray, List.set_cons_zero, List.set_cons_succ]
          refine tk 1 (.some 25) _ _ rfl rfl (by kernel_rfl) (by kernel_rfl) (by kernel_rfl) hPF rfl (fun w' hw' => by (go_simp; try with_reducible rfl)) hHeld ?_
          simp only [Act.put, List.setIfInBounds_toArray, List.set_cons_zero, List.set_cons_succ]
          refine tk 2 (.some 26) _ _ rfl rfl (by kernel_rfl) (by kernel_rfl) (by kernel_rfl) hPF rfl (fun w' hw' => by (go_simp; try with_reducible rfl)) hHeld ?_
          simp only [Act.put, List.setIfInBounds_toArray, List.set_cons_zero, List.set_cons_succ]
          refine tk 3 (.some 27) _ _ rfl rfl (by kernel_rfl) (by kernel_rfl) (by kernel_rfl) hPF rfl (fun w' hw' => by (go_simp; try with_reducible rfl)) hHeld ?_
          simp only [Act.put, List.setIfInBounds_toArray, List.set_cons_zero, List.set_cons_succ]
          refine tk 4 (.some 28) _ _ rfl rfl (by kernel_rfl) (by kernel_rfl) (by kernel_rfl) hPF rfl (fun w' hw' => by (go_simp; try with_reducible rfl)) hHeld ?_
          simp only [Act.put, List.setIfInBounds_toArray, List.set_cons_zero, List.set_cons_succ]
          refine tk 5 (.some 29) _ _ rfl rfl (by kernel_rfl) (by kernel_rfl) (by kernel_rfl) hPF rfl (fun w' hw' => by (go_simp; try with_reducible rfl)) hHeld ?_
          simp only [Act.put, List.setIfInBounds_toArray, List.set_cons_zero, List.set_cons_succ]
          refine tk 6 (.some 30) _ _ rfl rfl (by kernel_rfl) (by kernel_rfl) (by kernel_rfl) hPF rfl (fun w' hw' => by (go_simp; try with_reducible rfl)) hHeld ?_
          simp only [Act.put, List.setIfInBounds_toArray, List.set_cons_zero, List.set_cons_succ]
          refine tk 7 (.some 31) _ _ rfl rfl (by kernel_rfl) (by kernel_rfl) (by kernel_rfl) hPF rfl (fun w' hw' => by (go_simp; try with_reducible rfl)) hHeld ?_
          simp only [Act.put, List.setIfInBounds_toArray, List.set_cons_zero, List.set_cons_succ]
          refine tk 8 (.some 32) _ _ rfl rfl (by kernel_rfl) (by kernel_rfl) (by kernel_rfl) hPF rfl (fun w' hw' => by (go_simp; try with_reducible rfl)) hHeld ?_
          simp only [Act.put, List.setIfInBounds_toArray, List.set_cons_zero, List.set_cons_succ]
          refine tk 9 (.some 33) _ _ rfl rfl (by kernel_rfl) (by kernel_rfl) (by kernel_rfl) hPF rfl (fun w' hw' => by (go_simp; try with_reducible rfl)) hHeld ?_
          simp only [Act.put, List.setIfInBounds_toArray, List.set_cons_zero, List.set_cons_succ]
          refine tk 10 (.some 34) _ _ rfl rfl (by kernel_rfl) (by kernel_rfl) (by kernel_rfl) hPF rfl (fun w' hw' => by (go_simp; try with_reducible rfl)) hHeld ?_
          simp only [Act.put, List.setIfInBounds_toArray, List.set_cons_zero, List.set_cons_succ]
          refine tk 11 (.some 35) _ _ rfl rfl (by kernel_rfl) (by kernel_rfl) (by kernel_rfl) hPF rfl (fun w' hw' => by (go_simp; try with_reducible rfl)) hHeld ?_
          simp only [Act.put, List.setIfInBounds_toArray, List.set_cons_zero, List.set_cons_succ]
          refine tk 12 (.some 36) _ _ rfl rfl (by kernel_rfl) (by kernel_rfl) (by kernel_rfl) hPF rfl (fun w' hw' => by (go_simp; try with_reducible rfl)) hHeld ?_
          simp only [Act.put, List.setIfInBounds_toArray, List.set_cons_zero, List.set_cons_succ]
          refine tk 13 (.some 37) _ _ rfl rfl (by kernel_rfl) (by kernel_rfl) (by kernel_rfl) hPF rfl (fun w' hw' => by (go_simp; try with_reducible rfl)) hHeld ?_
          simp only [Act.put, List.setIfInBounds_toArray, List.set_cons_zero, List.set_cons_succ]
          refine tk 14 (.some 38) _ _ rfl rfl (by kernel_rfl) (by kernel_rfl) (by kernel_rfl) hPF rfl (fun w' hw' => by (go_simp; try with_reducible rfl)) hHeld ?_
          simp only [Act.put, List.setIfInBounds_toArray, List.set_cons_zero, List.set_cons_succ]
          refine tk 15 (.some 39) _ _ rfl rfl (by kernel_rfl) (by kernel_rfl) (by kernel_rfl) hPF rfl (fun w' hw' => by (go_simp; try with_reducible rfl)) hHeld ?_
          simp only [Act.put, List.setIfInBounds_toArray, List.set_cons_zero, List.set_cons_succ]
          refine wpAnyH_ready (rs := [16]) (by kernel_rfl) (by simp) (AllReadyH.cons (o := _) rfl (fun K hK => ?_) AllReadyH.nil)
          go_simp
          refine (pad_any _ q (by omega)).mono ?_
          rintro e w4 ⟨g, rfl, hg, ⟨rest, hblk⟩, hB4⟩
          rw [hq16]
          have hHeld := RowAt.below hHeld hB4
          have hB := hB.drew.trans (Below.mono hB4 (Nat.le_refl _))
          have hpad := rowAt_pad hblk
          refine hK.out _ _ hHeld (fun hHeld => ?_)
          clear hK K
          try simp only [Act.put, List.setIfInBounds_toArray, List.set_cons_zero, List.set_cons_succ]
          refine wpAnyH_ready (rs := [17]) (by kernel_rfl) (by simp) (AllReadyH.cons (o := _) rfl (fun K hK => ?_) AllReadyH.nil)
          go_simp
          refine (eql_any _ _ _ _ _ _ _ _ _ hHeld hpad hql (by rw [padF_len, hq16])).mono ?_
          rintro e w5 ⟨rfl, rfl⟩
          rw [hpq]
          refine hK.out _ _ hHeld (fun hHeld => ?_)
          clear hK K
          try simp only [Act.put, List.setIfInBounds_toArray, List.set_cons_zero, List.set_cons_succ]
          refine tk 18 (.some 42) _ _ rfl rfl (by kernel_rfl) (by kernel_rfl) (by kernel_rfl) hPF rfl (fun w' hw' => by (go_simp; try with_reducible rfl)) hHeld ?_
          simp only [Act.put, List.setIfInBounds_toArray, List.set_cons_zero, List.set_cons_succ]
          refine tk 19 (.some 43) _ _ rfl rfl (by kernel_rfl) (by kernel_rfl) (by kernel_rfl) hPF rfl (fun w' hw' => by (go_simp; try with_reducible rfl)) hHeld ?_
          simp only [Act.put, List.setIfInBounds_toArray, List.set_cons_zero, List.set_cons_succ]
          refine wpAnyH_done (by kernel_rfl) ?_ _
          obtain ⟨bb, hbb⟩ : ∃ bb, (l.drop q == List.replicate xn x) = bb := ⟨_, rfl⟩
          rw [hbb]
          cases bb with
          | true =>
            have HU := hid (HU2.out (by simpa using hbb))
            clear hbb
            go_wp2_with fail
            go_ret2
            exact ⟨by rw [HU.out]; rfl, hB⟩
          | false =>
            have HU := hid (HU3.out (by simpa using hbb))
            clear hbb
            go_wp2_with fail
            go_ret2
            exact ⟨by rw [HU.out]; rfl, hB⟩
    · have HU := hid (show unpadV l = .tuple #[.int .i64 0, .int .i64 16] by unfold unpadV unpadF; rw [if_pos (.inr (by omega))])
      have hb : ¬ (((n % 16 : Nat) : Int) = 0) := by omega
      have hb2 : ¬ ((n : Int) = 0) := by omega
      generalize ((n % 16 : Nat) : Int) = r at *
      have hb3 : (r != 0) = true := by rw [bne_iff_ne]; exact hb
      clear h16
      go_enter Tryz.func130, Tryz.ntmps130
      go_wp2_with fail
      go_ret2
      exact ⟨by rw [HU.out]; rfl, Below.refl _ _⟩
end Go.Proofs.YtnmmnlffobnbfaaGreatDoor
