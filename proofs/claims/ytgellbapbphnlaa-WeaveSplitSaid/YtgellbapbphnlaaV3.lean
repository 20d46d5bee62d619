/- WeaveSplit, walked -/
import Derived.Test.YtgellbapbphnlaaV1
namespace Go.Proofs.Ytgellbapbphnlaa
open Go.RowKit

theorem stepsF_app (a b : List Nat) : stepsF 16 8 (a ++ b) ≤ stepsF 16 8 a + stepsF 16 8 b := by
  unfold stepsF
  rw [blocksF_app]
  omega
theorem CtrsAt.take {w : World} {pa : Option Addr} {l : List CtrV} (h : CtrsAt w pa l) (k : Nat) : CtrsAt w pa (l.take k) := fun j hj => by
  have hj' : j < l.length := by rw [List.length_take] at hj; omega
  have := h j hj'
  rwa [show (l.take k)[j] = l[j] by simp]
/-- The address of a row of structs' rest. -/
def cfrom (pa : Option Addr) (c k : Nat) : Option Addr := if c = k then pa else pa.map fun x => x.add (k * 18)
theorem CtrsAt.drop {w : World} {pa : Option Addr} {l : List CtrV} (h : CtrsAt w pa l) (c k : Nat) (hc : l.length ≤ c) : CtrsAt w (cfrom pa c k) (l.drop k) := fun j hj => by
  have hj' : k + j < l.length := by rw [List.length_drop] at hj; omega
  obtain ⟨t, b, o, rfl, h1, h2⟩ := h (k + j) hj'
  rw [show (l.drop k)[j] = l[k + j] by simp]
  refine ⟨t, b, o + k * 18, ?_, h1, ?_⟩
  · unfold cfrom
    rw [if_neg (by omega), Option.map_some, Addr.add_mid]
  · rw [show o + k * 18 + j * 18 = o + (k + j) * 18 by omega]; exact h2
theorem CF_take (cs : List CtrV) (k j : Nat) (h : j < k) : CF (cs.take k) j = CF cs j := by
  unfold CF
  rw [List.getElem?_take, if_pos h]
theorem CF_drop (cs : List CtrV) (k j : Nat) : CF (cs.drop k) j = CF cs (k + j) := by
  unfold CF
  rw [List.getElem?_drop]
theorem lens_app (cs : List CtrV) (k : Nat) : lens cs = lens (cs.take k) ++ lens (cs.drop k) := by
  unfold lens
  rw [← List.map_append, List.take_append_drop]

set_option maxRecDepth 100000 in
set_option maxHeartbeats 4000000 in
theorem weaveSplit_walk (w : World) (pa : Option Addr) (l : List TextV) (n cap : Nat) (at' : UInt8) (hl : TextsAt w pa l) (hn : l.length = n) :
    Calls Try.prog 5 #[.slice pa n cap, .int .u8 (bv at')] w fun e w' => e = .returned (.bool true) ∧ Below w.heap.size w w' := by
  have Hn := hid hn
  by_cases hlt : lightT l 100 = true
  · obtain ⟨h8, hm⟩ := lightT_spec hlt
    have Hlt := hid hlt
    have HM := hid hm
    rw [hn] at h8
    clear hn hlt hm
    obtain ⟨i0, hi0, hz0, hs0, hb0⟩ := info_parts infoRows
    have Hi0 := hid hi0
    have Hz0 := hid hz0
    have Hs0 := hid hs0
    have Hb0 := hid hb0
    clear hi0 hz0 hs0 hb0
    obtain ⟨n1, hn1⟩ : ∃ m, n + 1 = m := ⟨_, rfl⟩
    have qn1 : (n : Int) + 1 = (n1 : Int) := by omega
    obtain ⟨k, hk⟩ : ∃ k, at'.toNat % n1 = k := ⟨_, rfl⟩
    have ebl : bv at' = (at'.toNat : Int) := rfl
    have hkn : k ≤ n := by have := Nat.mod_lt at'.toNat (show 0 < n1 by omega); omega
    have qk : (bv at').tmod (n1 : Int) = (k : Int) := by rw [Int.tmod_eq_emod_of_nonneg (bv_lo _), ebl]; omega
    have qk2 : bv at' % (n1 : Int) = (k : Int) := by rw [ebl]; omega
    have b0 := bv_lo at'
    have b1 := bv_hi at'
    have qz : ((n1 : Int) == 0) = false := by rw [beq_eq_false_iff_ne]; omega
    have n19 : n1 ≤ 9 := by omega
    clear hn1 hk ebl
    go_enter Try.func5, Try.ntmps5
    go_wp2_with fail
    refine (lightT_any w pa l n cap 100 hl Hn.out).mono ?_
    rw [Hlt.out]
    rintro e w1 ⟨rfl, rfl⟩
    go_wp2_with fail
    refine (counters_any w pa l n cap hl Hn.out (by omega) (fun k h => Nat.le_trans (HM.out k h) (by omega))).mono ?_
    rintro e w2 ⟨v, cs, rfl, hcl, hcf, hco, hown, hB2⟩
    have hcok : ∀ x ∈ cs, CtrOk w2 x := fun x hx => (hco x hx).ok
    obtain ⟨pc, cc, rfl, hcc, hat⟩ := ctrs_of_owns hown hcl hcok
    have hm9 : ∀ k (h : k < cs.length), cs[k].b.length ≤ 1000 := fun k h => by
      have := (hcf k h (by rw [Hn.out, ← hcl]; exact h)).b
      rw [this]; exact Nat.le_trans (HM.out k _) (by omega)
    have Hcl := hid hcl
    have Hm9 := hid hm9
    clear hcl hcf hco hown hcok hm9
    go_wp2_with fail
    refine (ctr_any w2 pc cs n cc hat Hcl.out (by omega) Hm9.out).mono ?_
    rintro e w3 ⟨g3, v3, rfl, _, hb3, hv3, hr3, hB3⟩
    obtain ⟨s3, hs3⟩ : ∃ st, stepsF 16 8 (lens cs) = st := ⟨_, rfl⟩
    rw [hs3]
    have Hs3 := hid hs3
    have Hv3 := hid hv3
    have hB23 := hB2.trans (hB3.mono hB2.size)
    have hat3 := hat.below hB3
    have qkn : (k : Int) ≤ (n : Int) := by omega
    have qnc : (n : Int) ≤ (cc : Int) := by omega
    have qkc : (k : Int) ≤ (cc : Int) := by omega
    have qk0 : 0 ≤ (k : Int) := by omega
    clear hs3 hv3 hat hB3 hB2
    go_wp2_with fail
    refine (ctr_any w3 pc (cs.take k) k cc (hat3.take k) (by rw [List.length_take, Hcl.out]; omega) (by omega) (fun j h => by
      rw [show (cs.take k)[j] = cs[j]'(by rw [List.length_take] at h; omega) by simp]; exact Hm9.out j _)).mono ?_
    rintro e w4 ⟨g4, v4, rfl, hg4, hb4, hv4, hr4, hB4⟩
    obtain ⟨s4, hs4⟩ : ∃ st, stepsF 16 8 (lens (cs.take k)) = st := ⟨_, rfl⟩
    rw [hs4]
    have Hs4 := hid hs4
    have Hv4 := hid hv4
    have hB24 := hB23.trans (hB4.mono hB23.size)
    have hat4 := hat3.below hB4
    have hb34 := hb3.below hB4 hb3.lt
    have hr34 := hr3.below hB4
    clear hs4 hv4 hat3 hB4 hB23 hb3 hr3
    have hsl : ∀ W : World, (Instr.sliceAt 24 (.slice pc n cc) (some (.int .i64 (k : Int))) none none).run Try.prog W = .ok (.slice (cfrom pc cc k) (n - k) (cc - k)) W := fun W => by
      go_simp
      simp [cfrom]
    go_wp2_with fail
    refine (ctr_any w4 (cfrom pc cc k) (cs.drop k) (n - k) (cc - k) (hat4.drop cc k (by rw [Hcl.out]; exact hcc)) (by rw [List.length_drop, Hcl.out]) (by omega) (fun j h => by
      rw [show (cs.drop k)[j] = cs[k + j]'(by rw [List.length_drop] at h; omega) by simp]; exact Hm9.out _ _)).mono ?_
    rintro e w5 ⟨g5, v5, rfl, hg5, hb5, hv5, hr5, hB5⟩
    obtain ⟨s5, hs5⟩ : ∃ st, stepsF 16 8 (lens (cs.drop k)) = st := ⟨_, rfl⟩
    rw [hs5]
    have hss : s3 ≤ s4 + s5 := by rw [← Hs3.out, ← Hs4.out, ← hs5, lens_app cs k]; exact stepsF_app _ _
    have hs9 : s4 < 1000000 ∧ s5 < 1000000 := by
      have hb := fun (cs' : List CtrV) (h : cs'.length ≤ 8) (hm : ∀ k (h : k < cs'.length), cs'[k].b.length ≤ 1000) => show stepsF 16 8 (lens cs') < 1000000 by
        have h1 := blocksF_le 16 1000 (by decide) (lens cs') (fun k hk => by
          have hk' : k < cs'.length := by simpa [lens] using hk
          rw [lens_get cs' k hk']; exact hm k hk')
        have h2 : (lens cs').length = cs'.length := by simp [lens]
        rw [h2] at h1
        have h3 : cs'.length * (1000 + 16) ≤ 8 * (1000 + 16) := Nat.mul_le_mul_right _ h
        unfold stepsF
        omega
      refine ⟨by rw [← Hs4.out]; exact hb _ (by rw [List.length_take, Hcl.out]; omega) (fun j h => by rw [show (cs.take k)[j] = cs[j]'(by rw [List.length_take] at h; omega) by simp]; exact Hm9.out j _), by rw [← hs5]; exact hb _ (by rw [List.length_drop, Hcl.out]; omega) (fun j h => by rw [show (cs.drop k)[j] = cs[k + j]'(by rw [List.length_drop] at h; omega) by simp]; exact Hm9.out _ _)⟩
    obtain ⟨hs94, hs95⟩ := hs9
    obtain ⟨s6, hs6⟩ : ∃ s, s4 + s5 = s := ⟨_, rfl⟩
    have qs6 : (s4 : Int) + (s5 : Int) = (s6 : Int) := by omega
    have qs7 : ¬ ((s6 : Int) < (s3 : Int)) := by omega
    obtain ⟨m, hm⟩ : ∃ m, n - k = m := ⟨_, rfl⟩
    rw [hm] at hv5 ⊢
    have qm : (n : Int) - (k : Int) = (m : Int) := by omega
    have hm9 : m ≤ 8 := by omega
    have Hm := hid hm
    have Hv5 := hid hv5
    have hB25 := hB24.trans (hB5.mono hB24.size)
    have hb35 := hb34.below hB5 hb34.lt
    have hr35 := hr34.below hB5
    have hb45 := hb4.below hB5 hb4.lt
    have hr45 := hr4.below hB5
    have hr4' := hr4
    clear hs5 hss hs6 hv5 hat4 hB5 hB24 hb34 hr34 hb4 hr4 hsl hm
    have one : ∀ (vs : List Value) (C : Nat → List UInt8) (W : World) (base : Nat), RowsI base W vs C → ∀ u ∈ vs, u.oneCell' = true := fun vs C W base h u hu => by
      obtain ⟨j, hj, rfl⟩ := List.getElem_of_mem hu
      obtain ⟨p, c, e, _⟩ := (h.row j hj).row
      rw [show vs.getD j undef = vs[j] by simp [List.getD, hj]] at e
      rw [e]; rfl
    have o4 := one _ _ _ _ hr4'
    have o5 := one _ _ _ _ hr5
    have hm0 : (w5.alloc (.cells #[] tBytes)).ownsRow w5.heap.size tBytes 1 (.slice (some ⟨w5.heap.size, 0, none⟩) 0 0) 0 [] := World.ownsRow_made w5 #[] 0 (e := tBytes) (size := 1) (base := w5.heap.size) (Nat.le_refl _) (by unfold maxLen; omega) (by simp)
    have hBa : Below w5.heap.size w5 (w5.alloc (.cells #[] tBytes)) := (Below.refl _ _).alloc (Nat.le_refl _) _
    have hb4a := hb45.below hBa hb45.lt
    clear one
    go_wp2_with (first | (refine wpList_append_own _ rfl (.tmp 78) (.tmp 79) 27 rfl w5.heap.size 33 i0 _ 1 24 underRows Hi0.out Hz0.out Hs0.out Hb0.out rfl (by decide) _ 0 [] rfl hm0 ⟨g4, 0, none⟩ k k v4 rfl (by rw [Hv4.out, Nat.mul_one]) (fun a u hu => by rw [Addr.add_mid]; exact hb4a.whole a u hu) o4 (by unfold maxLen; omega) (by omega) hBa.size ?_; intro v7 w7 hown7 hgrow7 _; have hB7 := hBa.grown hgrow7 hBa.size (fun j e => (World.ownsRow.lt hm0 j e).1); rw [Nat.zero_add, List.nil_append] at hown7; have hb5a := hb5.below hB7 hb5.lt) | (refine wpList_append_own _ rfl (.tmp 80) (.tmp 81) 27 rfl w5.heap.size 33 i0 _ 1 24 underRows Hi0.out Hz0.out Hs0.out Hb0.out rfl (by decide) _ k v4 rfl hown7 ⟨g5, 0, none⟩ m m v5 rfl (by rw [Hv5.out, Nat.mul_one]) (fun a u hu => by rw [Addr.add_mid]; exact hb5a.whole a u hu) o5 (by unfold maxLen; omega) (by omega) hB7.size ?_; intro v8 w8 hown8 hgrow8 _; have hB8 := hB7.grown hgrow8 hB7.size (fun j e => (World.ownsRow.lt hown7 j e).1)))
    have hkm : k + m = n := by have := Hm.out; omega
    rw [hkm] at hown8
    have hBw := hB25.trans (hB8.mono hB25.size)
    have hb38 := hb35.below hB8 hb35.lt
    have hr38 := hr35.below hB8
    have hr48 := hr45.below hB8
    have hr58 := hr5.below hB8
    have Hown8 := hid hown8
    have Hkm := hid hkm
    clear hkm hown8 hb35 hr35 hb45 hr45 hb5 hr5 hm0 hBa hb4a hown7 hgrow7 hB7 hb5a hgrow8 hB8 o4 o5 hB25
    go_loopw [15] (fun i wr => ∃ j : Nat, j ≤ n ∧ i = .int .i64 j ∧ Below w8.heap.size w8 wr) (fun i _ => n - (intOf i).toNat)
    case atStart => exact ⟨0, by omega, rfl, Below.refl _ _⟩
    case round =>
      obtain ⟨j, hj, rfl, hB⟩ := hrel
      have hBx := hBw.trans (hB.mono hBw.size)
      by_cases hlj : j < n
      · have q2 : (j : Int) < (n : Int) := by omega
        obtain ⟨g8, c8, rest8, rfl, hc8, _, hb8⟩ := owns_blk Hown8.out (by omega)
        have hb8r := hb8.below hB hb8.lt
        have hb3r := hb38.below hB hb38.lt
        have row3 := (hr38.below hB).row j (by rw [Hv3.out]; exact hlj)
        obtain ⟨p3, c3, e3, _, t3⟩ := row3.row
        have hv3j : v3[j]? = some (v3.getD j undef) := by simp [List.getD, Hv3.out, hlj]
        rw [e3] at hv3j
        have hboth : ∃ p c, (v4 ++ v5)[j]? = some (.slice p (CF cs j).length c) ∧ RowAt wr p (CF cs j) := by
          by_cases hjk : j < k
          · obtain ⟨p, c, e, _, t⟩ := ((hr48.below hB).row j (by rw [Hv4.out]; exact hjk)).row
            rw [CF_take _ _ _ hjk] at e t
            refine ⟨p, c, ?_, t⟩
            rw [List.getElem?_append_left (by rw [Hv4.out]; exact hjk), ← e]
            simp [List.getD, Hv4.out, hjk]
          · have hkm := Hkm.out
            obtain ⟨p, c, e, _, t⟩ := ((hr58.below hB).row (j - k) (by rw [Hv5.out]; omega)).row
            rw [CF_drop, show k + (j - k) = j by omega] at e t
            refine ⟨p, c, ?_, t⟩
            rw [List.getElem?_append_right (by rw [Hv4.out]; omega), Hv4.out, ← e]
            simp [List.getD, Hv5.out, show j - k < m by omega]
        obtain ⟨p4, c4, e4, t4⟩ := hboth
        have CX := hid (fun w' (h : Below wr.heap.size wr w') => ((hb3r.below h hb3r.lt).cell j).trans hv3j)
        have e4' : (v4 ++ v5 ++ rest8)[j]? = some (.slice p4 (CF cs j).length c4) := by
          rw [List.getElem?_append_left (by rw [List.length_append, Hv4.out, Hv5.out, Hkm.out]; exact hlj)]; exact e4
        have CY := hid (fun w' (h : Below wr.heap.size wr w') => ((hb8r.below h hb8r.lt).cell j).trans e4')
        obtain ⟨X, hX⟩ : ∃ X, CF cs j = X := ⟨_, rfl⟩
        rw [hX] at CX CY t3 t4
        obtain ⟨Xl, hXl⟩ : ∃ p, X.length = p := ⟨_, rfl⟩
        rw [hXl] at CX CY
        have HXl := hid hXl
        clear hX hXl e3 e4 e4' hv3j row3
        go_upto_region 16 with fail
        have S0 : Below wr.heap.size wr wr.drew := (Below.refl _ _).drew
        try simp only [Act.put]
        refine tkR (fun w' => Below wr.heap.size wr w') [] (by kernel_rfl) (fun c a d v w h => by cases d <;> exact h) (S0) (fun hPF hHeld => ?_)
        refine tkB 0 (.some 89) _ _ rfl rfl (by kernel_rfl) (by kernel_rfl) (by kernel_rfl) (by kernel_rfl) hPF rfl (fun w' => by (go_simp; try with_reducible rfl)) hHeld (fun hHeld => ?_)
        simp only [Act.put, List.setIfInBounds_toArray, List.set_cons_zero, List.set_cons_succ]
        refine tkB 1 (.some 90) _ _ rfl rfl (by kernel_rfl) (by kernel_rfl) (by kernel_rfl) (by kernel_rfl) hPF rfl (fun w' => by (go_simp; try with_reducible rfl)) hHeld (fun hHeld => ?_)
        simp only [Act.put, List.setIfInBounds_toArray, List.set_cons_zero, List.set_cons_succ]
        refine tkB 2 (.some 91) _ _ rfl rfl (by kernel_rfl) (by kernel_rfl) (by kernel_rfl) (by kernel_rfl) hPF rfl (fun w' => by (go_simp; try with_reducible rfl)) hHeld (fun hHeld => ?_)
        simp only [Act.put, List.setIfInBounds_toArray, List.set_cons_zero, List.set_cons_succ]
        refine tkA 3 (.some 92) _ _ rfl rfl (by kernel_rfl) (by kernel_rfl) (by kernel_rfl) (by kernel_rfl) (by kernel_rfl) hPF rfl (fun w' hw' => by (have h1 := CX.out _ hw'; go_simp; try with_reducible rfl)) hHeld (fun hHeld => ?_)
        simp only [Act.put, List.setIfInBounds_toArray, List.set_cons_zero, List.set_cons_succ]
        refine tkA 4 (.some 93) _ _ rfl rfl (by kernel_rfl) (by kernel_rfl) (by kernel_rfl) (by kernel_rfl) (by kernel_rfl) hPF rfl (fun w' hw' => by (have h1 := str_row (n := Xl) (c := c3) (t3.below hw') HXl.out; go_simp; try with_reducible rfl)) hHeld (fun hHeld => ?_)
        simp only [Act.put, List.setIfInBounds_toArray, List.set_cons_zero, List.set_cons_succ]
        refine tkB 5 (.some 94) _ _ rfl rfl (by kernel_rfl) (by kernel_rfl) (by kernel_rfl) (by kernel_rfl) hPF rfl (fun w' => by (go_simp; try with_reducible rfl)) hHeld (fun hHeld => ?_)
        simp only [Act.put, List.setIfInBounds_toArray, List.set_cons_zero, List.set_cons_succ]
        refine tkB 6 (.some 95) _ _ rfl rfl (by kernel_rfl) (by kernel_rfl) (by kernel_rfl) (by kernel_rfl) hPF rfl (fun w' => by (go_simp; try with_reducible rfl)) hHeld (fun hHeld => ?_)
        simp only [Act.put, List.setIfInBounds_toArray, List.set_cons_zero, List.set_cons_succ]
        refine tkB 7 (.some 96) _ _ rfl rfl (by kernel_rfl) (by kernel_rfl) (by kernel_rfl) (by kernel_rfl) hPF rfl (fun w' => by (go_simp; try with_reducible rfl)) hHeld (fun hHeld => ?_)
        simp only [Act.put, List.setIfInBounds_toArray, List.set_cons_zero, List.set_cons_succ]
        refine tkA 8 (.some 97) _ _ rfl rfl (by kernel_rfl) (by kernel_rfl) (by kernel_rfl) (by kernel_rfl) (by kernel_rfl) hPF rfl (fun w' hw' => by (have h1 := CY.out _ hw'; go_simp; try with_reducible rfl)) hHeld (fun hHeld => ?_)
        simp only [Act.put, List.setIfInBounds_toArray, List.set_cons_zero, List.set_cons_succ]
        refine tkA 9 (.some 98) _ _ rfl rfl (by kernel_rfl) (by kernel_rfl) (by kernel_rfl) (by kernel_rfl) (by kernel_rfl) hPF rfl (fun w' hw' => by (have h1 := str_row (n := Xl) (c := c4) (t4.below hw') HXl.out; go_simp; try with_reducible rfl)) hHeld (fun hHeld => ?_)
        simp only [Act.put, List.setIfInBounds_toArray, List.set_cons_zero, List.set_cons_succ]
        refine tkA 10 (.some 99) _ (.bool false) rfl rfl (by kernel_rfl) (by kernel_rfl) (by kernel_rfl) (by kernel_rfl) (by kernel_rfl) hPF rfl (fun w' hw' => by (go_simp)) hHeld (fun hHeld => ?_)
        simp only [Act.put, List.setIfInBounds_toArray, List.set_cons_zero, List.set_cons_succ]
        refine tkD (by kernel_rfl) ?_ _
        have hBy := hB.drew
        clear hB hBx
        go_wp2_with fail
        go_roundw
        case rel => exact ⟨j + 1, by omega, by go_num, hBy⟩
        case measure => (simp [intOf]; try omega)
      · obtain rfl : j = n := by omega
        have q2 : ¬ ((j : Int) < (j : Int)) := by omega
        go_wp2_with fail
        refine (awake14_any wr).mono ?_
        rintro e w9 ⟨rfl, hB9⟩
        have hBz := hBx.trans (hB9.mono hBx.size)
        go_wp2_with fail
        go_ret
        exact ⟨rfl, hBz⟩
  · have hlt : lightT l 100 = false := by simpa using hlt
    have Hlt := hid hlt
    clear hlt hn
    have b0 := bv_lo at'
    have b1 := bv_hi at'
    go_enter Try.func5, Try.ntmps5
    go_wp2_with fail
    refine (lightT_any w pa l n cap 100 hl Hn.out).mono ?_
    rw [Hlt.out]
    rintro e w1 ⟨rfl, rfl⟩
    go_wp2_with fail
    go_ret
    exact ⟨rfl, Below.refl _ _⟩
end Go.Proofs.Ytgellbapbphnlaa
