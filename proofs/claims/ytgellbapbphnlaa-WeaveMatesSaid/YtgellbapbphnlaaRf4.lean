/- the reference of aes: Encrypt -/
import Derived.Test.YtgellbapbphnlaaRf3
namespace Go.Proofs.Ytgellbapbphnlaa
open Go.RowKit

/-- A load of a whole array in the head of a region that draws its order. -/
theorem still_load_mid {P : Program} {ops : Array Oper} {rest : List Oper} {op : Oper} {a : Act} {w : World} {Q : Act → Prop} (hgd : op.guard = none) (ty : TypeId) (x : Operand) (ho : op.op = .load ty x)
    (b o : Nat) (hx : a.eval x = .pointer (some ⟨b, o, none⟩)) (cs : List Value) (d : TypeDesc) (hc : w.rangeAt b o cs)
    (hu : P.underlying ty = some d) (hd : d.isRow = true) (hi : (P.info? ty).map (·.size) = some cs.length)
    (h : wpStill P ops w Q rest (a.put op.dst (.agg cs.toArray))) : wpStill P ops w Q (op :: rest) a := by
  refine wpStill_step fun K hK => ?_
  have hw : Region.wanted op (yielded ops a.tmps) = true := by simp [Region.wanted, hgd]
  rw [if_pos hw]
  unfold Oper.still execOp
  simp only [ho, hx, Instr.loadAt, Instr.sureAddr, Sem.run_bind, Sem.run_pure, Result.andThen_ok, run_loadVar_mid w b o ty cs d hc hu hd hi]
  exact ⟨rfl, hK _ h⟩
/-- Rows shifted, through the box: the first n cells. -/
def shN (x : List UInt8) (n : Nat) : List UInt8 := (List.range n).map (fun i => sbox (x.getD (4 * ((i / 4 + i % 4) % 4) + i % 4) 0)) ++ List.replicate (16 - n) 0
theorem shN_len (x : List UInt8) (n : Nat) (h : n ≤ 16) : (shN x n).length = 16 := by simp [shN]; omega
theorem shN_succ (x : List UInt8) (c r j : Nat) (hc : c < 4) (hr : r < 4) (hj : 4 * ((c + r) % 4) + r = j) : (shN x (4 * c + r)).set (4 * c + r) (sbox (x.getD j 0)) = shN x (4 * c + r + 1) := by
  unfold shN
  have e : List.replicate (16 - (4 * c + r)) (0 : UInt8) = 0 :: List.replicate (16 - (4 * c + r + 1)) 0 := by
    rw [← List.replicate_succ]; congr 1; omega
  rw [e, List.set_append_right _ _ (by simp)]
  have h1 : (4 * c + r) / 4 = c := by omega
  have h2 : (4 * c + r) % 4 = r := by omega
  have h3 : (c + (4 * c + r)) % 4 = (c + r) % 4 := by omega
  simp [List.range_succ, h1, h2, h3, hj]
theorem shN_all {x : List UInt8} (h : x.length = 16) : shN x 16 = sh16 (x.map sbox) := by
  obtain ⟨a0, a1, a2, a3, a4, a5, a6, a7, a8, a9, a10, a11, a12, a13, a14, a15, rfl⟩ := len16 h
  rfl
theorem shN_zero (x : List UInt8) : shN x 0 = z16 := by simp [shN, z16]
theorem addK_zip (rk s : List UInt8) (r : Nat) (hs : s.length = 16) : addK rk r s = List.zipWith (· ^^^ ·) s ((rk.drop (16 * r)).take 16) := by
  unfold addK; rw [addTo_all _ _ hs]
theorem Blk.range16 {w : World} {b : Nat} {l : List UInt8} {ex : List Value} {T : TypeId} (h : Blk w b (bys l ++ ex) T) (o : Nat) (ho : o + 16 ≤ l.length) : w.rangeAt b o (bys ((l.drop o).take 16)) := fun j v hv => by
  have hj : j < 16 := by
    rcases Nat.lt_or_ge j 16 with hh | hh
    · exact hh
    · rw [List.getElem?_eq_none (by rw [bys_length]; simp; omega)] at hv; cases hv
  rw [h.cell, List.getElem?_append_left (by rw [bys_length]; omega), bys_get l _ (by omega), ← hv, bys_get _ j (by simp; omega)]
  simp [List.getD, hj]

theorem store16 {w : World} {b : Nat} {old new : List UInt8} {T : TypeId} (h : Blk w b (bys old) T) (ho : new.length = old.length) : Blk (w.setCells b 0 (bys new)) b (bys new) T ∧ Chg w.heap.size [b] w (w.setCells b 0 (bys new)) := by
  have h1 := h.setCells (bys new) 0 (by rw [bys_length, bys_length, ho]; omega)
  rw [splice_whole _ _ (by rw [bys_length, bys_length, ho])] at h1
  exact ⟨h1, (Chg.refl w.heap.size [b] w).setCells (b := b) (.inl (by simp)) (bys new) 0⟩
/-- What the walks of the reference's Encrypt and Decrypt hold: the table, the block, the result's place, the keys. -/
structure ES (w wr : World) (g : Nat) (T rk x : List UInt8) (ex : List Value) : Prop where
  h0 : Blk wr w.heap.size (bys T) tA256
  h1 : Blk wr (w.heap.size + 1) (bys x) tA16
  h2 : Blk wr (w.heap.size + 2) (bys z16) tA16
  hk : Blk wr g (bys rk ++ ex) tA16
  hB : Below w.heap.size w wr
  hg : g < w.heap.size
  hs : w.heap.size + 3 ≤ wr.heap.size
theorem ES.below {w wr w' : World} {g : Nat} {T rk x : List UInt8} {ex : List Value} (h : ES w wr g T rk x ex) (hB : Below wr.heap.size wr w') : ES w w' g T rk x ex :=
  ⟨h.h0.below hB h.h0.lt, h.h1.below hB h.h1.lt, h.h2.below hB h.h2.lt, h.hk.below hB h.hk.lt, h.hB.trans (Below.mono hB h.hB.size), h.hg, Nat.le_trans h.hs hB.size⟩
theorem ES.drew {w wr : World} {g : Nat} {T rk x : List UInt8} {ex : List Value} (h : ES w wr g T rk x ex) : ES w wr.drew g T rk x ex := h.below ((Below.refl _ _).drew)
/-- A block of one's own turns. -/
theorem ES.chg {w wr w' : World} {g b : Nat} {T rk x : List UInt8} {ex : List Value} (h : ES w wr g T rk x ex) (hc : Chg wr.heap.size [b] wr w') (hb : w.heap.size + 3 ≤ b) : ES w w' g T rk x ex := by
  have hg := h.hg
  exact ⟨h.h0.chg hc h.h0.lt (by simp; omega), h.h1.chg hc h.h1.lt (by simp; omega), h.h2.chg hc h.h2.lt (by simp; omega), h.hk.chg hc h.hk.lt (by simp; omega), h.hB.trans (hc.below h.hB.size (fun k hk => by simp at hk; omega)), hg, Nat.le_trans h.hs hc.size⟩
/-- The block turns. -/
theorem ES.put {w wr : World} {g : Nat} {T rk x y : List UInt8} {ex : List Value} (h : ES w wr g T rk x ex) (hy : y.length = x.length) : ES w (wr.setCells (w.heap.size + 1) 0 (bys y)) g T rk y ex := by
  have hg := h.hg
  obtain ⟨h1, hc⟩ := store16 h.h1 hy
  exact ⟨h.h0.chg hc h.h0.lt (by simp), h1, h.h2.chg hc h.h2.lt (by simp), h.hk.chg hc h.hk.lt (by simp; omega), h.hB.trans (hc.below h.hB.size (fun k hk => by simp at hk; omega)), hg, Nat.le_trans h.hs hc.size⟩

set_option maxRecDepth 100000 in
set_option maxHeartbeats 4000000 in
theorem refenc_any (w : World) (g nr cap : Nat) (rk s : List UInt8) (ex : List Value) (hk : Blk w g (bys rk ++ ex) tA16) (hrk : rk.length = 16 * nr) (hn2 : 2 ≤ nr) (hn15 : nr ≤ 15) (hs : s.length = 16) :
    Calls Try.prog 45 #[.agg (bys (tbl 256)).toArray, .slice (some ⟨g, 0, none⟩) nr cap, .agg (bys s).toArray] w fun e w' => e = .returned (.agg (bys (enc rk s)).toArray) ∧ Below w.heap.size w w' := by
  obtain ⟨T, hT⟩ : ∃ T, tbl 256 = T := ⟨_, rfl⟩
  have hTl : T.length = 256 := by rw [← hT]; exact tbl_len 256 (by omega)
  have hTa : ∀ x : UInt8, T.getD x.toNat 0 = sbox x := by rw [← hT]; exact tbl_at
  rw [hT]
  clear hT
  have hR : roundsOf rk = nr - 1 := by unfold roundsOf; omega
  have hgl := hk.lt
  obtain ⟨w2, hw2⟩ : ∃ w2, ((w.alloc (.cells (bys T).toArray tA256)).alloc (.cells (bys s).toArray tA16)).alloc (.cells (bys z16).toArray tA16) = w2 := ⟨_, rfl⟩
  have h0 : Blk w2 w.heap.size (bys T) tA256 := by rw [← hw2]; exact ((Blk.new w (bys T) tA256).alloc _).alloc _
  have h1 : Blk w2 (w.heap.size + 1) (bys s) tA16 := by
    rw [← hw2]
    have := (Blk.new (w.alloc (.cells (bys T).toArray tA256)) (bys s) tA16).alloc (.cells (bys z16).toArray tA16)
    simpa using this
  have h2 : Blk w2 (w.heap.size + 2) (bys z16) tA16 := by
    rw [← hw2]
    have := Blk.new ((w.alloc (.cells (bys T).toArray tA256)).alloc (.cells (bys s).toArray tA16)) (bys z16) tA16
    simpa using this
  have hB : Below w.heap.size w w2 := by rw [← hw2]; exact (((Below.refl _ _).alloc (Nat.le_refl _) _).alloc (by simp) _).alloc (by simp; omega) _
  have hE : ES w w2 g T rk s ex := ⟨h0, h1, h2, hk.below hB hgl, hB, hgl, by rw [← hw2]; simp⟩
  have hkl : ((rk.drop 0).take 16).length = 16 := by simp; omega
  have Hs := hid hs
  have Hrk := hid hrk
  have HTl := hid hTl
  have HTa := hid hTa
  have HR := hid hR
  have hr0 := hE.hk.range16 0 (by omega)
  have hz0 := addK_zip rk s 0 hs
  rw [Nat.mul_zero] at hz0
  have Hz0 := hid hz0
  have hnr0 : 0 < nr := by omega
  clear hs hrk hTl hTa hR hz0 h0 h2 hB
  go_enter Try.func45, Try.ntmps45
  go_upto_region 1 with fail
  change Code.wp _ _ _ _ (((w.alloc (.cells (bys T).toArray tA256)).alloc (.cells (bys s).toArray tA16)).alloc (.cells (bys z16).toArray tA16))
  rw [hw2]
  clear hw2
  refine still_tail' 4 (by kernel_rfl) (by kernel_rfl) ?_
  simp only [List.take_succ_cons, List.take_zero]
  refine still_load_mid rfl 36 (.tmp 5) rfl (w.heap.size + 1) 0 rfl (bys s) _ h1.drew.whole under54 rfl (by rw [size54, bys_length, Hs.out]) ?_
  repeat (refine wpStill_step (fun K hK => ?_); go_simp; refine hK _ ?_; clear hK K)
  refine still_load_mid rfl 36 (.tmp 13) rfl g 0 rfl (bys ((rk.drop 0).take 16)) _ hr0 under54 rfl (by rw [size54, bys_length, hkl]) ?_
  refine wpStill_nil ?_
  go_wp2_with fail
  refine (plus_any _ s _ Hs.out hkl).mono ?_
  rintro e w3 ⟨rfl, hB3⟩
  rw [← Hz0.out]
  have hE := hE.drew.below hB3
  clear hB3 h1 hr0
  have hal := hid (addK_len rk 0 s (by have := Hrk.out; omega) Hs.out)
  go_wp2_with (refine wpList_store_mid rfl 36 (.tmp 5) (.tmp 15) rfl (w.heap.size + 1) 0 (bys (addK rk 0 s)).toArray rfl rfl (hE.h1.there 0 _ (by rw [List.size_toArray, bys_length, bys_length, hal.out, Hs.out]; decide)) (by rw [size54, List.size_toArray, bys_length, hal.out]) (all_oneCell_toArray (bys_one _)) ?_)
  have hE := hE.put (y := addK rk 0 s) (by rw [hal.out, Hs.out])
  generalize w3.setCells (w.heap.size + 1) 0 (bys (addK rk 0 s)) = w4 at *
  go_loopw [7, 8, 9, 10] (fun i _ _ _ wr => ∃ r m : Nat, m = r + 1 ∧ r ≤ roundsOf rk ∧ i = .int .i64 m ∧ ES w wr g T rk (encTo rk (roundsOf rk) s r) ex) (fun i _ _ _ _ => 20 - (intOf i).toNat)
  case atStart => exact ⟨0, 1, rfl, by omega, rfl, hE⟩
  case round =>
    clear hE
    obtain ⟨r, m, hmr, hr, rfl, hE⟩ := hrel
    have hl := encTo_len rk (roundsOf rk) s r (by have := Hrk.out; have := HR.out; omega) Hs.out
    have HX : Hid (encTo rk (roundsOf rk) s m = addK rk m (if m < roundsOf rk then mixTo 1 4 (sh16 ((encTo rk (roundsOf rk) s r).map sbox)) else sh16 ((encTo rk (roundsOf rk) s r).map sbox))) := by rw [hmr]; exact hid rfl
    by_cases hlt : r < roundsOf rk
    · have hmn : m < nr := by have := HR.out; omega
      have hdm : decide ((m : Int) < (nr : Int)) = true := decide_eq_true (by omega)
      have hmR : m ≤ roundsOf rk := by omega
      clear hmr
      generalize encTo rk (roundsOf rk) s r = x at hE hl HX
      have hE0 := hE.below ((Below.refl _ _).alloc (Nat.le_refl _) (.cells (bys z16).toArray tA16))
      have hS0 := Blk.new wr (bys z16) tA16
      have hsb := hE.hs
      obtain ⟨sb, hsbe⟩ : ∃ sb, wr.heap.size = sb := ⟨_, rfl⟩
      rw [hsbe] at hS0 hsb
      go_wp2_with fail
      go_loopw [9, 10] (fun i _ wr => ∃ c : Nat, c ≤ 4 ∧ i = .int .i64 c ∧ ES w wr g T rk x ex ∧ Blk wr sb (bys (shN x (4 * c))) tA16) (fun i _ _ => 4 - (intOf i).toNat)
      case atStart => exact ⟨0, by omega, rfl, hE0, by rw [Nat.mul_zero, shN_zero]; exact hS0⟩
      case round =>
        clear hE hE0 hS0
        obtain ⟨c, hc, rfl, hE, hS⟩ := hrel
        by_cases hcl : c < 4
        · have hdc : decide ((c : Int) < 4) = true := decide_eq_true (by omega)
          go_wp2_with fail
          go_loopw [10] (fun i wr => ∃ d : Nat, d ≤ 4 ∧ i = .int .i64 d ∧ ES w wr g T rk x ex ∧ Blk wr sb (bys (shN x (4 * c + d))) tA16) (fun i _ => 4 - (intOf i).toNat)
          case atStart => exact ⟨0, by omega, rfl, hE, hS⟩
          case round =>
            clear hE hS
            obtain ⟨d, hd, rfl, hE, hS⟩ := hrel
            by_cases hdl : d < 4
            · obtain ⟨n, hn⟩ : ∃ n, 4 * c + d = n := ⟨_, rfl⟩
              obtain ⟨u, hu⟩ : ∃ u, c + d = u := ⟨_, rfl⟩
              obtain ⟨e, he⟩ : ∃ e, u % 4 = e := ⟨_, rfl⟩
              obtain ⟨j, hj⟩ : ∃ j, 4 * e + d = j := ⟨_, rfl⟩
              have q1 : (c : Int) + (d : Int) = (u : Int) := by omega
              have q2 : (u : Int).tmod 4 = (e : Int) := by rw [Int.tmod_eq_emod_of_nonneg (by omega)]; omega
              have q2' : (u : Int) % 4 = (e : Int) := by omega
              have q3 : e < 4 := by omega
              have q4 : 4 * (e : Int) + (d : Int) = (j : Int) := by omega
              have q5 : 4 * (c : Int) + (d : Int) = (n : Int) := by omega
              have q6 : n < 16 := by omega
              have q7 : j < 16 := by omega
              have q8 : (n : Int) < 16 := by omega
              have q9 : (j : Int) < 16 := by omega
              have hss := hid (shN_succ x c d j hcl hdl (by rw [hu, he]; exact hj))
              rw [hn] at hss hS
              have hlen := shN_len x n (by omega)
              have hcs := hS.cellAt (bys_get _ n (by rw [hlen]; exact q6))
              have hfs := hS.frozen n
              have hcb := hE.h1.cellAt (bys_get x j (by rw [hl]; exact q7))
              have HS := hid hS
              have Hn := hid hn
              clear hS hlen hu he hj hn
              generalize x.getD j 0 = y at *
              have hct := hE.h0.cellAt (bys_get T (bv y).toNat (by rw [HTl.out]; have := bv_hi y; have := bv_lo y; omega))
              rw [show T.getD (bv y).toNat 0 = sbox y by rw [bv_toNat]; exact HTa.out y] at hct
              have y0 := bv_lo y
              have y1 := bv_hi y
              go_wp2_with fail
              go_roundw
              case rel =>
                refine ⟨d + 1, by omega, by go_num, hE.chg ((Chg.refl wr.heap.size [sb] wr).setCell (.inl (by simp)) _) hsb, ?_⟩
                have := HS.out.set n (.int .u8 (bv (sbox y)))
                rw [bys_set, hss.out] at this
                rw [show 4 * c + (d + 1) = n + 1 by have := Hn.out; omega]
                exact this
              case measure => simp [intOf]; omega
            · obtain rfl : d = 4 := by omega
              go_wp2_with fail
              go_roundw
              case rel => exact ⟨c + 1, by omega, by go_num, hE, by rw [show 4 * (c + 1) = 4 * c + 4 by omega]; exact hS⟩
              case measure => simp [intOf]; omega
        · obtain rfl : c = 4 := by omega
          rw [show 4 * 4 = 16 from rfl, shN_all hl] at hS
          have hsl : (sh16 (x.map sbox)).length = 16 := sh16_len (by rw [List.length_map]; exact hl)
          have hRR := HR.out
          obtain ⟨nm, hnm⟩ : ∃ nm : Int, (nr : Int) - 1 = nm := ⟨_, rfl⟩
          by_cases hlast : m < roundsOf rk
          · have hd2 : (m : Int) < nm := by omega
            have hcol := columns_any wr (sh16 (x.map sbox)) [2, 3, 1, 1] hsl rfl
            rw [col_2 hsl] at hcol
            have hml : (mixTo 1 4 (sh16 (x.map sbox))).length = 16 := mixTo_len _ _ _ (by omega) hsl
            clear hRR
            go_wp2_with (refine wpList_load_mid rfl 36 (.tmp 8) rfl sb 0 rfl (bys (sh16 (x.map sbox))) _ hS.whole under54 rfl (by rw [size54, bys_length, hsl]) ?_)
            refine hcol.mono ?_
            rintro e w5 ⟨rfl, hB5⟩
            have hE := hE.below hB5
            have hS := hS.below hB5 hS.lt
            clear hB5 hcol
            go_wp2_with (refine wpList_store_mid rfl 36 (.tmp 8) (.tmp 53) rfl sb 0 (bys (mixTo 1 4 (sh16 (x.map sbox)))).toArray rfl rfl (hS.there 0 _ (by rw [List.size_toArray, bys_length, bys_length, hml, hsl]; decide)) (by rw [size54, List.size_toArray, bys_length, hml]) (all_oneCell_toArray (bys_one _)) ?_)
            obtain ⟨hS, hcS⟩ := store16 hS (hml.trans hsl.symm)
            have hE := hE.chg hcS hsb
            clear hcS
            generalize w5.setCells sb 0 (bys (mixTo 1 4 (sh16 (x.map sbox)))) = w5' at *
            obtain ⟨q, hq⟩ : ∃ q, List.zipWith (· ^^^ ·) (mixTo 1 4 (sh16 (x.map sbox))) ((rk.drop (m * 16)).take 16) = q := ⟨_, rfl⟩
            have hql : q.length = 16 := by rw [← hq]; simp; have := Hrk.out; have := hml; omega
            have hqk : addK rk m (mixTo 1 4 (sh16 (x.map sbox))) = q := by rw [addK_zip rk _ m hml, Nat.mul_comm 16 m]; exact hq
            have hkl := hid (show ((rk.drop (m * 16)).take 16).length = 16 by simp; have := Hrk.out; omega)
            have hrm := hE.hk.range16 (m * 16) (by have := Hrk.out; omega)
            have Hq := hid hq
            have HX2 := hid (HX.out.trans ((by rw [if_pos hlast] : addK rk m (if m < roundsOf rk then mixTo 1 4 (sh16 (x.map sbox)) else sh16 (x.map sbox)) = addK rk m (mixTo 1 4 (sh16 (x.map sbox)))).trans hqk))
            clear hq hqk HX
            refine still_tail' 5 (by kernel_rfl) (by kernel_rfl) ?_
            simp only [List.take_succ_cons, List.take_zero]
            refine still_load_mid rfl 36 (.tmp 8) rfl sb 0 rfl (bys (mixTo 1 4 (sh16 (x.map sbox)))) _ hS.drew.whole under54 rfl (by rw [size54, bys_length, hml]) ?_
            repeat (refine wpStill_step (fun K hK => ?_); go_simp; refine hK _ ?_; clear hK K)
            refine still_load_mid rfl 36 (.tmp 57) rfl g (m * 16) rfl (bys ((rk.drop (m * 16)).take 16)) _ hrm under54 rfl (by rw [size54, bys_length, hkl.out]) ?_
            refine wpStill_nil ?_
            go_wp2_with fail
            refine (plus_any _ (mixTo 1 4 (sh16 (x.map sbox))) _ hml hkl.out).mono ?_
            rintro e w6 ⟨rfl, hB6⟩
            rw [Hq.out]
            have hE6 := hE.drew.below hB6
            clear hB6 hE hrm
            go_wp2_with (refine wpList_store_mid rfl 36 (.tmp 5) (.tmp 59) rfl (w.heap.size + 1) 0 (bys q).toArray rfl rfl (hE6.h1.there 0 _ (by rw [List.size_toArray, bys_length, bys_length, hql, hl]; decide)) (by rw [size54, List.size_toArray, bys_length, hql]) (all_oneCell_toArray (bys_one _)) ?_)
            have hE7 := hE6.put (y := q) (by rw [hql, hl])
            go_roundw
            case rel => exact ⟨m, m + 1, rfl, hmR, by go_num, by rw [HX2.out]; exact hE7⟩
            case measure => simp [intOf]; omega
          · have hd2 : ¬ ((m : Int) < nm) := by omega
            clear hRR
            go_wp2_with fail
            obtain ⟨q, hq⟩ : ∃ q, List.zipWith (· ^^^ ·) (sh16 (x.map sbox)) ((rk.drop (m * 16)).take 16) = q := ⟨_, rfl⟩
            have hql : q.length = 16 := by rw [← hq]; simp; have := Hrk.out; have := hsl; omega
            have hqk : addK rk m (sh16 (x.map sbox)) = q := by rw [addK_zip rk _ m hsl, Nat.mul_comm 16 m]; exact hq
            have hkl := hid (show ((rk.drop (m * 16)).take 16).length = 16 by simp; have := Hrk.out; omega)
            have hrm := hE.hk.range16 (m * 16) (by have := Hrk.out; omega)
            have Hq := hid hq
            have HX2 := hid (HX.out.trans ((by rw [if_neg hlast] : addK rk m (if m < roundsOf rk then mixTo 1 4 (sh16 (x.map sbox)) else sh16 (x.map sbox)) = addK rk m (sh16 (x.map sbox))).trans hqk))
            clear hq hqk HX
            refine still_tail' 5 (by kernel_rfl) (by kernel_rfl) ?_
            simp only [List.take_succ_cons, List.take_zero]
            refine still_load_mid rfl 36 (.tmp 8) rfl sb 0 rfl (bys (sh16 (x.map sbox))) _ hS.drew.whole under54 rfl (by rw [size54, bys_length, hsl]) ?_
            repeat (refine wpStill_step (fun K hK => ?_); go_simp; refine hK _ ?_; clear hK K)
            refine still_load_mid rfl 36 (.tmp 57) rfl g (m * 16) rfl (bys ((rk.drop (m * 16)).take 16)) _ hrm under54 rfl (by rw [size54, bys_length, hkl.out]) ?_
            refine wpStill_nil ?_
            go_wp2_with fail
            refine (plus_any _ (sh16 (x.map sbox)) _ hsl hkl.out).mono ?_
            rintro e w6 ⟨rfl, hB6⟩
            rw [Hq.out]
            have hE6 := hE.drew.below hB6
            clear hB6 hE hrm
            go_wp2_with (refine wpList_store_mid rfl 36 (.tmp 5) (.tmp 59) rfl (w.heap.size + 1) 0 (bys q).toArray rfl rfl (hE6.h1.there 0 _ (by rw [List.size_toArray, bys_length, bys_length, hql, hl]; decide)) (by rw [size54, List.size_toArray, bys_length, hql]) (all_oneCell_toArray (bys_one _)) ?_)
            have hE7 := hE6.put (y := q) (by rw [hql, hl])
            go_roundw
            case rel => exact ⟨m, m + 1, rfl, hmR, by go_num, by rw [HX2.out]; exact hE7⟩
            case measure => simp [intOf]; omega
    · obtain rfl : r = roundsOf rk := by omega
      have hmn : ¬ m < nr := by have := HR.out; omega
      clear hmr
      have he : encTo rk (roundsOf rk) s (roundsOf rk) = enc rk s := rfl
      rw [he] at hE hl
      have HR2 := hid hE.hB
      have hsz := hE.hs
      have hN := hE.h1
      have hM := hE.h2
      have Hl := hid hl
      clear hl he HX hE
      go_wp2_with (first | (refine wpList_load_mid rfl 36 (.tmp 5) rfl (w.heap.size + 1) 0 rfl (bys (enc rk s)) _ hN.whole under54 rfl (by rw [size54, bys_length, Hl.out]) ?_) | (refine wpList_store_mid rfl 36 (.tmp 6) (.tmp 60) rfl (w.heap.size + 2) 0 (bys (enc rk s)).toArray rfl rfl (hM.there 0 _ (by rw [List.size_toArray, bys_length, bys_length, Hl.out]; decide)) (by rw [size54, List.size_toArray, bys_length, Hl.out]) (all_oneCell_toArray (bys_one _)) ?_))
      obtain ⟨hMs, _⟩ := store16 hM (new := enc rk s) (by rw [Hl.out]; rfl)
      refine bodyPost_ret (v := .agg (bys (enc rk s)).toArray) (results_cell_row (P := Try.prog) (p := 6) (ty := 36) rfl _ _ (w.heap.size + 2) tA16 _ (0, 0) _ rfl hMs under54 rfl (by rw [size54, List.size_toArray, bys_length, Hl.out])) rfl ⟨rfl, ?_⟩
      exact HR2.out.trans (((Chg.refl (w.heap.size) [] wr).setCells (.inr (by omega)) _ _).below (Nat.le_refl _) (by simp))
end Go.Proofs.Ytgellbapbphnlaa
