/- ctr: CtrParts, walked -/
import Derived.Test.YtlgeebnmonmdaaaLCrypts
import Derived.Deep.CutRange
namespace Go.Proofs.Ytlgeebnmonmdaaa
open Go.RowKit

/-- A slice of slices of bytes. -/
def RowsAt (w : World) (N : Nat) (pl : Option Addr) (L : List (List UInt8)) : Prop := ∀ j, j < L.length → ∃ b o pj cj, pl = some ⟨b, o, none⟩ ∧ b < w.heap.size ∧ w.cell? ⟨b, o + j, none⟩ = some (.slice pj (L.getD j []).length cj) ∧ (L.getD j []).length ≤ cj ∧ RowAt w pj (L.getD j []) ∧ (0 < (L.getD j []).length → ∀ a, pj = some a → a.block < N)
theorem RowsAt.chg {w w' : World} {pl : Option Addr} {L : List (List UInt8)} {N M sb : Nat} (h : RowsAt w M pl L) (hc : Chg N [sb] w w') (hN : w.heap.size ≤ N) (hs : w.heap.size ≤ sb) : RowsAt w' M pl L := fun j hj => by
  obtain ⟨b, o, pj, cj, e, hb, hcell, hl, hr, hlo⟩ := h j hj
  refine ⟨b, o, pj, cj, e, Nat.lt_of_lt_of_le hb hc.size, ?_, hl, hr.chg2 hc hN (fun h0 a ea => by have := hr.pos h0 a ea; simp; omega), hlo⟩
  have hbl := hc.block b (by omega) (by simp; omega)
  have e : w'.cell? ⟨b, o + j, none⟩ = w.cell? ⟨b, o + j, none⟩ := by simp [World.cell?, hbl]
  rw [e]; exact hcell
theorem RowsAt.below {w w' : World} {M : Nat} {pl : Option Addr} {L : List (List UInt8)} (h : RowsAt w M pl L) (hB : Below w.heap.size w w') : RowsAt w' M pl L :=
  h.chg (N := w.heap.size) (sb := w.heap.size) (Chg.ofBelow hB) (Nat.le_refl _) (Nat.le_refl _)
theorem take_flat (L : List (List UInt8)) (k : Nat) (h : k < L.length) : (L.take (k + 1)).flatten = (L.take k).flatten ++ L.getD k [] := by
  rw [take_succ_getD [] L k h, List.flatten_append]; simp

/-- The law's loop: k parts are done. -/
structure PS (W wr : World) (sb : Nat) (kv : Option Addr) (E : List UInt8 → List UInt8) (iv : List UInt8) (P : List UInt8) (va vo : Value) : Prop where
  ha : OwnR W.heap.size wr va P
  ho : OwnR W.heap.size wr vo (xk E iv 0 P)
  hs : StreamAt wr sb kv E iv P.length
  hc : Chg W.heap.size [sb] W wr
  hd : va.ownBlock ≠ vo.ownBlock ∨ vo.ownBlock = none

set_option maxRecDepth 100000 in
set_option maxHeartbeats 8000000 in
theorem ctrParts_walk (K : List UInt8) (long : Bool) (IV : List UInt8) (pl : Option Addr) (nl cl : Nat) (L : List (List UInt8)) (w : World) (hK : K.length = 32) (hI : IV.length = 16) (hL : RowsAt w w.heap.size pl L) (hn : L.length = nl) :
    Calls Try.prog 6 #[.agg (kcells K long IV).toArray, .slice pl nl cl] w fun e w' => e = .returned (.bool true) ∧ Below w.heap.size w w' := by
  have h0 := Blk.new w (kcells K long IV) tKy8
  have hB0 : Below w.heap.size w (w.alloc (.cells (kcells K long IV).toArray tKy8)) := (Below.refl _ _).alloc (Nat.le_refl _) _
  by_cases h20 : nl ≤ 20
  · have hsz : (Try.prog.info? 25).map (·.size) = some (kcells K long IV).length := by rw [sizeK8, kcells_len _ _ _ hK hI]
    have hszi : (Try.prog.info? 23).map (·.size) = some (bys IV).length := by rw [size54, bys_length, hI]
    have hL0 := hL.below hB0
    have HK := hid (kn_km long)
    have hkl : (K.take (kn long)).length = kn long := by rw [List.length_take, hK]; have := (kn_km long).2.2; omega
    have hrl := rkOf_len (km long) (K.take (kn long)) (hkl.trans HK.out.1) HK.out.2.1
    have Hrl := hid hrl
    have hiv : ∀ (w' : World), Blk w' w.heap.size (kcells K long IV) tKy8 → w'.rangeAt w.heap.size 33 (bys IV) := fun w' h => kcells_iv h hK
    have Hiv := hid hiv
    have Hn := hid hn
    clear hL hkl hrl hiv hn
    go_enter Try.func6, Try.ntmps6
    go_wp2_with (refine wpList_load_mid rfl 25 (.tmp 2) rfl w.heap.size 0 rfl (kcells K long IV) _ h0.whole Try.underlying25 rfl hsz ?_)
    change Calls _ _ _ (w.alloc (.cells (kcells K long IV).toArray tKy8)) _
    generalize w.alloc (.cells (kcells K long IV).toArray tKy8) = w1 at *
    refine (keys8_any w1 K long IV hK hI).mono ?_
    rintro e w2 ⟨kb, rfl, hKA, hB2⟩
    have h0 := h0.below hB2 h0.lt
    have hL2 := hL0.below hB2
    have hB := hB0.trans (hB2.mono hB0.size)
    have hkv : KeyV w2 (some ⟨kb, 0, none⟩) (enc (rkK K long)) := .inr ⟨kb, _, rfl, hKA, rfl, Hrl.out.2⟩
    obtain ⟨E, hE⟩ : ∃ E, enc (rkK K long) = E := ⟨_, rfl⟩
    rw [hE] at hkv
    have hBs2 := hB.size
    clear hE hKA hB2 hB0 hL0
    go_wp2_with (first | (refine wpList_load_mid rfl 23 (.tmp 23) rfl w.heap.size 33 rfl (bys IV) _ (Hiv.out _ h0) under54 rfl hszi ?_) | (with_reducible refine (new_any w2 (some ⟨kb, 0, none⟩) IV hI).mono ?_); rintro e W ⟨rfl, hS, hBW⟩)
    have h0 := h0.below hBW h0.lt
    have hLW := hL2.below hBW
    have hkv := hkv.below hBW
    have hB := hB.trans (hBW.mono hB.size)
    obtain ⟨sb, hsb⟩ : ∃ sb, w2.heap.size + 1 = sb := ⟨_, rfl⟩
    rw [hsb] at hS ⊢
    have hs2 : w2.heap.size ≤ sb := by omega
    have hw2 := h0.lt
    have hslt := hS.lt
    have hst : StreamAt W sb (some ⟨kb, 0, none⟩) E IV 0 := ⟨0, none, 0, 0, by rw [cnt_zero IV hI]; exact hS, rfl, RowAt.nil _ _, Nat.le_refl _, by omega, (fun a e => by cases e), fun h => absurd h (by decide)⟩
    have HKc : Hid (∀ w', Chg W.heap.size [sb] W w' → KeyV w' (some ⟨kb, 0, none⟩) E) := hid (fun w' hc => hkv.chg hc (Nat.le_refl _) hS)
    have hwsb : w.heap.size ≠ sb := fun e => by have := h0.ne hS (by decide); exact this e
    have hLc : ∀ w', Chg W.heap.size [sb] W w' → RowsAt w' w.heap.size pl L := fun w' hc => by
      have := hL2.chg (N := w2.heap.size) (sb := sb) ((Chg.ofBelow hBW).trans (hc.mono (by have := hBW.size; omega) (fun _ _ h => h))) (Nat.le_refl _) hs2
      exact this
    have HLc := hid hLc
    have Hst := hid hst
    have hlow : w.heap.size ≤ sb := by omega
    clear hsb hS hBW hL2 hLW hkv hst hLc
    go_wp2_with fail
    go_loopw [8, 9, 10] (fun va vo i wr => ∃ k : Nat, k ≤ nl ∧ i = .int .i64 k ∧ (L.take k).flatten.length ≤ 60 * k ∧ PS W wr sb (some ⟨kb, 0, none⟩) E IV (L.take k).flatten va vo) (fun _ _ i _ => nl - (intOf i).toNat)
    case atStart => exact ⟨0, by omega, rfl, by simp, OwnR.nil _ _, OwnR.nil _ _, Hst.out, Chg.refl _ _ _, .inr rfl⟩
    case round =>
      obtain ⟨k, hk, rfl, hlen, hP⟩ := hrel
      have HP := hid hP
      clear hP
      by_cases hlt : k < nl
      · have hrow := HLc.out _ HP.out.hc k (by rw [Hn.out]; exact hlt)
        obtain ⟨bl, bo, pj, cj, rfl, _, hcell, hcj, hrj, _⟩ := hrow
        have hfl := take_flat L k (by rw [Hn.out]; exact hlt)
        obtain ⟨P, hPe⟩ : ∃ P, (L.take k).flatten = P := ⟨_, rfl⟩
        obtain ⟨l, hle⟩ : ∃ l, L.getD k [] = l := ⟨_, rfl⟩
        rw [hPe] at HP hlen hfl
        rw [hle] at hcell hcj hrj hfl
        have Hfl := hid hfl
        have Hle := hid hle
        clear hPe hfl hle
        have q1 : (k : Int) < (nl : Int) := by omega
        have q0 : 0 ≤ (k : Int) := by omega
        by_cases h60 : l.length ≤ 60
        · have H := HP.out
          have hsz := H.hc.size
          have hla := H.ha
          go_upto_region 14 with (refine wpList_addO hla rfl (.tmp 38) (.tmp 42) rfl rfl pj l.length cj l rfl hrj rfl (by omega) hsz ?_; intro va' w5 hown5 hgrow5 hob5)
          have hge5 : ∀ j, u8.ownBlock = some j → W.heap.size ≤ j := fun j e => (H.ha.lt j e).1
          have hC5 : Chg W.heap.size [sb] W w5 := H.hc.grown hgrow5 hsz (fun j e => .inr (hge5 j e))
          have hs5 := H.hs.kept hgrow5 (fun j e => H.ha.typ j e)
          have ho5 : OwnR W.heap.size w5 u9 (xk E IV 0 P) := H.ho.kept hgrow5 (by
            rcases H.hd with h | h
            · exact .inl (fun e => h e.symm)
            · exact .inr h)
          have hd5 : va'.ownBlock ≠ u9.ownBlock ∨ u9.ownBlock = none := by
            rcases hob5 with h | h
            · rw [h]; exact H.hd
            · rw [h]
              cases hu : u9.ownBlock with
              | none => exact .inr rfl
              | some j => exact .inl (fun e => by have := (H.ho.lt j hu).2; cases e; omega)
          have hrow5 := HLc.out _ hC5 k (by rw [Hn.out]; exact hlt)
          rw [Hle.out] at hrow5
          obtain ⟨bl', bo', pj', cj', e1, _, hcell5, hcj5, hrj5, hlo5⟩ := hrow5
          cases e1
          have hcs := hid (crypt_s w5 sb (some ⟨kb, 0, none⟩) E IV P.length hs5 (HKc.out _ hC5) pj' l.length cj' l hrj5 rfl hcj5 (fun h0 a ea => by have := hlo5 h0 a ea; simp; omega) (by omega))
          have hxa := xk_append E IV 0 P l
          rw [Nat.zero_add] at hxa
          have Hxa := hid hxa
          have hsz5 := hC5.size
          have hcat : (P ++ l).length = P.length + l.length := List.length_append
          have Hcat := hid hcat
          have hxl : (xk E IV 0 P).length = P.length := xk_len _ _ _ _
          have hxl2 : (xk E IV P.length l).length = l.length := xk_len _ _ _ _
          have Hxl := hid hxl
          have Hxl2 := hid hxl2
          have Hown5 := hid hown5
          have Ho5 := hid ho5
          clear hxa hcat hxl hxl2 hown5 ho5 hs5 hgrow5 hla H hrj hcell
          go_upto_region 15 with (first | (go_at_call 20; refine hcs.out.mono ?_; rintro e w6 ⟨v6, rfl, hown6, hs6, hC6, _⟩; have ho6 : OwnR W.heap.size w6 u9 (xk E IV 0 P) := Ho5.out.chg hC6 (Nat.le_refl _) (fun g e => by have := (Ho5.out.lt g e).1; simp; omega); obtain ⟨p6, c6, rfl, _, hr6⟩ := hown6.row; have hsz6 : W.heap.size ≤ w6.heap.size := by have := hC6.size; omega) | (refine wpList_addO ho6 rfl (.tmp 44) (.tmp 50) rfl rfl p6 _ c6 (xk E IV P.length l) rfl hr6 rfl (by rw [Hxl.out, Hxl2.out]; omega) hsz6 ?_; intro vo' w7 hown7 hgrow7 hob7))
          have hC6W := hC5.trans (hC6.mono (M := W.heap.size) hsz5 (fun _ _ h => h))
          have ha6 : OwnR W.heap.size w6 va' (P ++ l) := Hown5.out.chg hC6 (Nat.le_refl _) (fun g e => by have := (Hown5.out.lt g e).1; simp; omega)
          have ha7 : OwnR W.heap.size w7 va' (P ++ l) := ha6.kept hgrow7 (by
            rcases hd5 with h | h
            · exact .inl h
            · by_cases hv : va'.ownBlock = none
              · exact .inr hv
              · exact .inl (by rw [h]; exact hv))
          have hs7 := hs6.kept hgrow7 (fun j e => ho6.typ j e)
          have hC7 : Chg W.heap.size [sb] W w7 := hC6W.grown hgrow7 hsz6 (fun j e => .inr (ho6.lt j e).1)
          have hd7 : va'.ownBlock ≠ vo'.ownBlock ∨ vo'.ownBlock = none := by
            rcases hob7 with h | h
            · rw [h]; exact hd5
            · rw [h]
              exact .inl (fun e => by have h1 := (Hown5.out.lt _ e).2; have h2 := hC6.size; omega)
          rw [← Hxa.out] at hown7
          obtain ⟨t, ht⟩ : ∃ t, P.length + l.length = t := ⟨_, rfl⟩
          have hcat := Hcat.out
          rw [ht] at hcat hs7
          have hPS : PS W w7 sb (some ⟨kb, 0, none⟩) E IV (P ++ l) va' vo' := ⟨ha7, hown7, by rw [hcat]; exact hs7, hC7, hd7⟩
          rw [← Hfl.out] at hPS
          have HPS := hid hPS
          have hln : (List.take (k + 1) L).flatten.length ≤ 60 * (k + 1) := by rw [Hfl.out, hcat]; omega
          have Hln := hid hln
          obtain ⟨f7, pa7, L7, cp7, hsb7, _⟩ := hs7
          have hat := hid (at_any w7 sb (some ⟨kb, 0, none⟩) (cnt IV f7) _ t hsb7 (cnt_len _ _))
          obtain ⟨px, cx, rfl, _, _⟩ := ha7.row
          rw [hcat]
          rw [hcat] at HPS
          have htt : ((t : Int) != (t : Int)) = false := by simp
          clear hC6W ha6 hs6 ho6 hown6 hgrow7 hown7 hd7 hPS hln hsb7 ht hcat hob7 hr6 hC6
          go_wp2_with (refine hat.out.mono ?_; rintro e w8 ⟨rfl, rfl⟩)
          go_roundw
          case rel => exact ⟨k + 1, by omega, by go_num, Hln.out, HPS.out⟩
          case measure => (simp [intOf]; try omega)
        · go_wp2_with fail
          go_ret
          exact ⟨rfl, hB.trans (HP.out.hc.below (by have := hB.size; omega) (fun j hj => by simp at hj; omega))⟩
      · obtain rfl : k = nl := by omega
        have H := HP.out
        have hfin : (L.take k).flatten = L.flatten := by rw [List.take_of_length_le (by rw [Hn.out]; exact Nat.le_refl _)]
        have hl9 : (L.take k).flatten.length ≤ 1200 := by omega
        obtain ⟨P, hPe⟩ : ∃ P, (L.take k).flatten = P := ⟨_, rfl⟩
        rw [hPe] at H hl9
        obtain ⟨pa, ca, ea, hca, hra⟩ := H.ha.row
        obtain ⟨po, co, eo, hco, hro⟩ := H.ho.row
        subst ea
        subst eo
        have hky := HKc.out _ H.hc
        have h9 : Blk wr w.heap.size (kcells K long IV) tKy8 := h0.chg H.hc h0.lt (by simpa using hwsb)
        have hBr : Below w.heap.size w wr := hB.trans (H.hc.below (by have := hB.size; omega) (fun j hj => by simp at hj; omega))
        have hra := hra.drew
        have hro := hro.drew
        have hky := hky.drew
        have h9 := h9.drew
        have hBr := hBr.drew
        have hxl : (xk E IV 0 P).length = P.length := xk_len _ _ _ _
        obtain ⟨X, hX⟩ : ∃ X, xk E IV 0 P = X := ⟨_, rfl⟩
        rw [hX] at hro hco hxl
        have HX := hid hX
        obtain ⟨sx, hsx⟩ : ∃ s, str X = s := ⟨_, rfl⟩
        rw [hX]
        clear hX H HP hfin hlen hPe
        go_wp2_with fail
        try simp only [Act.put]
        refine tkR (fun w' => Below wr.drew.heap.size wr.drew w') [] (by kernel_rfl) (fun c a d v w h => by cases d <;> exact h) (Below.refl _ _) (fun hPF hHeld => ?_)
        refine tkB 0 (.some 57) _ _ rfl rfl (by kernel_rfl) (by kernel_rfl) (by kernel_rfl) (by kernel_rfl) hPF rfl (fun w' => by (go_simp; try with_reducible rfl)) hHeld (fun hHeld => ?_)
        simp only [Act.put, List.setIfInBounds_toArray, List.set_cons_zero, List.set_cons_succ]
        refine tkA 1 (.some 58) _ _ rfl rfl (by kernel_rfl) (by kernel_rfl) (by kernel_rfl) (by kernel_rfl) (by kernel_rfl) hPF rfl (fun w' hw' => by (have h1 := str_row (n := P.length) (c := co) (hro.below hw') hxl; rw [hsx] at h1; go_simp; try with_reducible rfl)) hHeld (fun hHeld => ?_)
        simp only [Act.put, List.setIfInBounds_toArray, List.set_cons_zero, List.set_cons_succ]
        refine tkB 2 (.some 59) _ _ rfl rfl (by kernel_rfl) (by kernel_rfl) (by kernel_rfl) (by kernel_rfl) hPF rfl (fun w' => by (go_simp; try with_reducible rfl)) hHeld (fun hHeld => ?_)
        simp only [Act.put, List.setIfInBounds_toArray, List.set_cons_zero, List.set_cons_succ]
        refine tkB 3 (.some 60) _ _ rfl rfl (by kernel_rfl) (by kernel_rfl) (by kernel_rfl) (by kernel_rfl) hPF rfl (fun w' => by (go_simp; try with_reducible rfl)) hHeld (fun hHeld => ?_)
        simp only [Act.put, List.setIfInBounds_toArray, List.set_cons_zero, List.set_cons_succ]
        refine tkL 4 (.some 61) _ rfl rfl 23 (.tmp 60) rfl w.heap.size 33 (bys IV) _ (by kernel_rfl) (by kernel_rfl) (by kernel_rfl) (by kernel_rfl) (by kernel_rfl) hPF rfl rfl (fun w' hw' => Hiv.out _ (h9.below hw' h9.lt)) under54 rfl hszi hHeld (fun hHeld => ?_)
        simp only [Act.put, List.setIfInBounds_toArray, List.set_cons_zero, List.set_cons_succ]
        refine tkB 5 (.some 62) _ _ rfl rfl (by kernel_rfl) (by kernel_rfl) (by kernel_rfl) (by kernel_rfl) hPF rfl (fun w' => by (go_simp; try with_reducible rfl)) hHeld (fun hHeld => ?_)
        simp only [Act.put, List.setIfInBounds_toArray, List.set_cons_zero, List.set_cons_succ]
        have hS := hHeld (by kernel_rfl)
        refine tkW (rs := [6]) (by kernel_rfl) (by simp) (AllK.cons (o := _) rfl (fun KC hKC => ?_) AllK.nil)
        go_simp
        (with_reducible refine (crypt_any _ _ E IV hky hI pa P.length ca P hra rfl hca (by omega)).mono ?_)
        rintro e w3 ⟨v3, rfl, hown3, hB3⟩
        have hS3 := hS.trans (hB3.mono hS.size)
        rw [HX.out] at hown3
        obtain ⟨p3, c3, rfl, _, hr3⟩ := hown3.row
        have hB9 := hBr.trans (hB3.mono hBr.size)
        refine hKC.out _ _ (hS3) (fun hHeld => ?_)
        clear hKC KC
        try simp only [Act.put, List.setIfInBounds_toArray, List.set_cons_zero, List.set_cons_succ]
        refine tkS (fun w' => Below w3.heap.size w3 w') (fun w' h => Below.trans hS3 (Below.mono h (Below.size hS3))) (Below.refl _ _) (fun hHeld => ?_)
        refine tkA 7 (.some 64) _ _ rfl rfl (by kernel_rfl) (by kernel_rfl) (by kernel_rfl) (by kernel_rfl) (by kernel_rfl) hPF rfl (fun w' hw' => by (have h1 := str_row (n := P.length) (c := c3) (hr3.below hw') hxl; rw [hsx] at h1; go_simp; try with_reducible rfl)) hHeld (fun hHeld => ?_)
        simp only [Act.put, List.setIfInBounds_toArray, List.set_cons_zero, List.set_cons_succ]
        refine tkA 8 (.some 65) _ (.bool true) rfl rfl (by kernel_rfl) (by kernel_rfl) (by kernel_rfl) (by kernel_rfl) (by kernel_rfl) hPF rfl (fun w' hw' => by (go_simp)) hHeld (fun hHeld => ?_)
        simp only [Act.put, List.setIfInBounds_toArray, List.set_cons_zero, List.set_cons_succ]
        refine tkB 9 (.some 66) _ _ rfl rfl (by kernel_rfl) (by kernel_rfl) (by kernel_rfl) (by kernel_rfl) hPF rfl (fun w' => by (go_simp; try with_reducible rfl)) hHeld (fun hHeld => ?_)
        simp only [Act.put, List.setIfInBounds_toArray, List.set_cons_zero, List.set_cons_succ]
        refine tkB 10 (.some 67) _ _ rfl rfl (by kernel_rfl) (by kernel_rfl) (by kernel_rfl) (by kernel_rfl) hPF rfl (fun w' => by (go_simp; try with_reducible rfl)) hHeld (fun hHeld => ?_)
        simp only [Act.put, List.setIfInBounds_toArray, List.set_cons_zero, List.set_cons_succ]
        have hS := hHeld (by kernel_rfl)
        refine tkW (rs := [11]) (by kernel_rfl) (by simp) (AllK.cons (o := _) rfl (fun KC hKC => ?_) AllK.nil)
        go_simp
        have hS4 := hS.alloc hS.size (.cells #[.int .u8 1] 5)
        refine hKC.out _ _ (hS4) (fun hHeld => ?_)
        clear hKC KC
        try simp only [Act.put, List.setIfInBounds_toArray, List.set_cons_zero, List.set_cons_succ]
        have hS := hHeld (by kernel_rfl)
        refine tkW (rs := [12]) (by kernel_rfl) (by simp) (AllK.cons (o := _) rfl (fun KC hKC => ?_) AllK.nil)
        go_simp
        (with_reducible refine (crypt_nil _ _ _ _).mono ?_)
        rintro e w5 ⟨rfl, rfl⟩
        refine hKC.out _ _ (hS4) (fun hHeld => ?_)
        clear hKC KC
        try simp only [Act.put, List.setIfInBounds_toArray, List.set_cons_zero, List.set_cons_succ]
        refine tkB 13 (.some 70) _ _ rfl rfl (by kernel_rfl) (by kernel_rfl) (by kernel_rfl) (by kernel_rfl) hPF rfl (fun w' => by (go_simp; try with_reducible rfl)) hHeld (fun hHeld => ?_)
        simp only [Act.put, List.setIfInBounds_toArray, List.set_cons_zero, List.set_cons_succ]
        refine tkA 14 (.some 71) _ (.bool true) rfl rfl (by kernel_rfl) (by kernel_rfl) (by kernel_rfl) (by kernel_rfl) (by kernel_rfl) hPF rfl (fun w' hw' => by (go_simp)) hHeld (fun hHeld => ?_)
        simp only [Act.put, List.setIfInBounds_toArray, List.set_cons_zero, List.set_cons_succ]
        refine tkB 15 (.some 72) _ _ rfl rfl (by kernel_rfl) (by kernel_rfl) (by kernel_rfl) (by kernel_rfl) hPF rfl (fun w' => by (go_simp; try with_reducible rfl)) hHeld (fun hHeld => ?_)
        simp only [Act.put, List.setIfInBounds_toArray, List.set_cons_zero, List.set_cons_succ]
        refine tkB 16 (.some 73) _ _ rfl rfl (by kernel_rfl) (by kernel_rfl) (by kernel_rfl) (by kernel_rfl) hPF rfl (fun w' => by (go_simp; try with_reducible rfl)) hHeld (fun hHeld => ?_)
        simp only [Act.put, List.setIfInBounds_toArray, List.set_cons_zero, List.set_cons_succ]
        refine tkB 17 (.some 74) _ _ rfl rfl (by kernel_rfl) (by kernel_rfl) (by kernel_rfl) (by kernel_rfl) hPF rfl (fun w' => by (go_simp; try with_reducible rfl)) hHeld (fun hHeld => ?_)
        simp only [Act.put, List.setIfInBounds_toArray, List.set_cons_zero, List.set_cons_succ]
        have hS := hHeld (by kernel_rfl)
        refine tkW (rs := [18]) (by kernel_rfl) (by simp) (AllK.cons (o := _) rfl (fun KC hKC => ?_) AllK.nil)
        go_simp
        (with_reducible refine (at_nil _).mono ?_)
        rintro e w5 ⟨rfl, rfl⟩
        refine hKC.out _ _ (hS4) (fun hHeld => ?_)
        clear hKC KC
        try simp only [Act.put, List.setIfInBounds_toArray, List.set_cons_zero, List.set_cons_succ]
        refine tkA 19 (.some 76) _ (.bool true) rfl rfl (by kernel_rfl) (by kernel_rfl) (by kernel_rfl) (by kernel_rfl) (by kernel_rfl) hPF rfl (fun w' hw' => by (go_simp)) hHeld (fun hHeld => ?_)
        simp only [Act.put, List.setIfInBounds_toArray, List.set_cons_zero, List.set_cons_succ]
        refine tkB 20 (.some 77) _ _ rfl rfl (by kernel_rfl) (by kernel_rfl) (by kernel_rfl) (by kernel_rfl) hPF rfl (fun w' => by (go_simp; try with_reducible rfl)) hHeld (fun hHeld => ?_)
        simp only [Act.put, List.setIfInBounds_toArray, List.set_cons_zero, List.set_cons_succ]
        refine tkB 21 (.some 78) _ _ rfl rfl (by kernel_rfl) (by kernel_rfl) (by kernel_rfl) (by kernel_rfl) hPF rfl (fun w' => by (go_simp; try with_reducible rfl)) hHeld (fun hHeld => ?_)
        simp only [Act.put, List.setIfInBounds_toArray, List.set_cons_zero, List.set_cons_succ]
        have hS := hHeld (by kernel_rfl)
        refine tkW (rs := [22]) (by kernel_rfl) (by simp) (AllK.cons (o := _) rfl (fun KC hKC => ?_) AllK.nil)
        go_simp
        (with_reducible refine (awake8_any _).mono ?_)
        rintro e w7 ⟨rfl, hB7⟩
        have hS7 := hS4.trans (hB7.mono hS4.size)
        have hBf := hB9.trans (hS7.mono hB9.size)
        refine hKC.out _ _ (hS7) (fun hHeld => ?_)
        clear hKC KC
        try simp only [Act.put, List.setIfInBounds_toArray, List.set_cons_zero, List.set_cons_succ]
        refine tkB 23 (.some 80) _ _ rfl rfl (by kernel_rfl) (by kernel_rfl) (by kernel_rfl) (by kernel_rfl) hPF rfl (fun w' => by (go_simp; try with_reducible rfl)) hHeld (fun hHeld => ?_)
        simp only [Act.put, List.setIfInBounds_toArray, List.set_cons_zero, List.set_cons_succ]
        refine tkB 24 (.some 4) _ _ rfl rfl (by kernel_rfl) (by kernel_rfl) (by kernel_rfl) (by kernel_rfl) hPF rfl (fun w' => by (go_simp; try with_reducible rfl)) hHeld (fun hHeld => ?_)
        simp only [Act.put, List.setIfInBounds_toArray, List.set_cons_zero, List.set_cons_succ]
        refine tkD (by kernel_rfl) ?_ _
        go_wp2_with fail
        go_ret
        exact ⟨rfl, hBf⟩
  ·
    go_enter Try.func6, Try.ntmps6
    go_wp2_with fail
    go_ret
    exact ⟨rfl, hB0⟩
end Go.Proofs.Ytlgeebnmonmdaaa
