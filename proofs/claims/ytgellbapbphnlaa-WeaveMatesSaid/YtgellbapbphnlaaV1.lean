/- WeaveCounters, walked -/
import Derived.Test.YtgellbapbphnlaaWc
import Derived.Test.YtgellbapbphnlaaRts
namespace Go.Proofs.Ytgellbapbphnlaa
open Go.RowKit

theorem lightT_spec {l : List TextV} {most : Nat} (h : lightT l most = true) : l.length ≤ 8 ∧ ∀ k (h : k < l.length), l[k].b.length ≤ most := by
  unfold lightT at h
  simp only [Bool.and_eq_true, decide_eq_true_eq, List.all_eq_true] at h
  exact ⟨h.1, fun k hk => h.2 _ (List.getElem_mem hk)⟩
theorem lens_for {cs : List CtrV} {l : List TextV} (hl : cs.length = l.length) (hf : ∀ j (h : j < cs.length) (h' : j < l.length), CtrFor cs[j] l[j]) : lens cs = lensT l := by
  unfold lens lensT
  apply List.ext_getElem
  · simp [hl]
  · intro j h1 h2
    simp only [List.length_map] at h1 h2
    simp only [List.getElem_map]
    rw [(hf j h1 h2).b]
theorem CF_for {cs : List CtrV} {l : List TextV} (hf : ∀ j (h : j < cs.length) (h' : j < l.length), CtrFor cs[j] l[j]) (k : Nat) (h : k < cs.length) (h' : k < l.length) : CF cs k = xk (enc (rkT l[k])) l[k].iv 0 l[k].b := by
  unfold CF
  rw [List.getElem?_eq_getElem h]
  simp only
  rw [(hf k h h').rk, (hf k h h').iv, (hf k h h').b]
theorem lensT_get (l : List TextV) (k : Nat) (h : k < l.length) : (lensT l).getD k 0 = l[k].b.length := by simp [lensT, List.getD, h]
theorem textc_at {w w' : World} {x : TextV} {b o : Nat} (hx : TextOk w x) (hB : Below w.heap.size w w') (hb : b < w.heap.size) (h : ∀ j, j < 51 → w.cell? ⟨b, o + j, none⟩ = (textc x)[j]?) : TextOk w' x ∧ w'.rangeAt b o (textc x) ∧ w'.rangeAt b (o + 33) (bys x.iv) ∧ w'.cell? ⟨b, o + 50, none⟩ = some (.slice x.pa x.b.length x.cap) := by
  have hx' : TextOk w' x := ⟨hx.K, hx.iv, hx.n, hx.row.below hB, hx.cap⟩
  have hc : ∀ j, j < 51 → w'.cell? ⟨b, o + j, none⟩ = (textc x)[j]? := fun j hj => by
    rw [← h j hj]; simp [World.cell?, hB.block b hb]
  exact ⟨hx', textc_range hx' hc, textc_iv hx' (textc_range hx' hc), by rw [hc 50 (by omega), textc_slice hx']⟩

set_option maxRecDepth 100000 in
set_option maxHeartbeats 4000000 in
theorem weaveCounters_walk (w : World) (pa : Option Addr) (l : List TextV) (n cap : Nat) (hl : TextsAt w pa l) (hn : l.length = n) :
    Calls Try.prog 3 #[.slice pa n cap] w fun e w' => e = .returned (.bool true) ∧ Below w.heap.size w w' := by
  have Hn := hid hn
  by_cases hlt : lightT l 100 = true
  · obtain ⟨h8, hm⟩ := lightT_spec hlt
    have Hlt := hid hlt
    have HM := hid hm
    rw [hn] at h8
    clear hn hlt hm
    go_enter Try.func3, Try.ntmps3
    go_wp2_with fail
    refine (lightT_any w pa l n cap 100 hl Hn.out).mono ?_
    rw [Hlt.out]
    rintro e w1 ⟨rfl, rfl⟩
    go_wp2_with fail
    refine (counters_any w pa l n cap hl Hn.out (by omega) (fun k h => Nat.le_trans (HM.out k h) (by omega))).mono ?_
    rintro e w2 ⟨v, cs, rfl, hcl, hcf, hco, hown, hB2⟩
    have hcok : ∀ x ∈ cs, CtrOk w2 x := fun x hx => (hco x hx).ok
    obtain ⟨pc, cc, rfl, hcc, hat⟩ := ctrs_of_owns hown hcl hcok
    have Hcl := hid hcl
    have Hcf := hid hcf
    have hlen := lens_for (hcl.trans Hn.out.symm) hcf
    have Hlen := hid hlen
    clear hcl hcf hco hcok hlen hown
    go_wp2_with fail
    refine (ctr_any w2 pc cs n cc hat Hcl.out (by omega) (fun k h => by
      have := (Hcf.out k h (by rw [Hn.out, ← Hcl.out]; exact h)).b
      rw [this]; exact Nat.le_trans (HM.out k _) (by omega))).mono ?_
    rintro e w3 ⟨g, vs, rfl, hg3, hb3, hv3, hr3, hB3⟩
    rw [Hlen.out]
    have hB23 := hB2.trans (hB3.mono hB2.size)
    have hl3 := hl.below hB23
    obtain ⟨st, hst⟩ : ∃ st, stepsF 16 8 (lensT l) = st := ⟨_, rfl⟩
    rw [hst]
    have Hst := hid hst
    have Hv3 := hid hv3
    clear hst hv3 hB2 hB3 hat
    have hLl : (lensT l).length = n := by simp [lensT, Hn.out]
    have HLl := hid hLl
    have hL9 : ∀ k, k < n → (lensT l).getD k 0 ≤ 1000 := fun k hk => by rw [lensT_get l k (by rw [Hn.out]; exact hk)]; exact Nat.le_trans (HM.out k _) (by omega)
    have hbl : blocksF 16 (lensT l) ≤ 1000000 := by
      have := blocksF_le 16 1000 (by decide) (lensT l) (fun k hk => hL9 k (by rw [← hLl]; exact hk))
      rw [hLl] at this
      have h3 : n * (1000 + 16) ≤ 100 * (1000 + 16) := Nat.mul_le_mul_right _ (by omega)
      omega
    have HL9 := hid hL9
    have Hbl := hid hbl
    clear hLl hL9 hbl
    go_wp2_with fail
    refine (lengthsT_any w3 pa l n cap hl3 Hn.out (by omega)).mono ?_
    rintro e w4 ⟨v4, rfl, hown4, hB4⟩
    have hown4' : w4.ownsRow w3.heap.size 3 1 v4 (lensT l).length (intsN (lensT l)) := by rw [HLl.out]; exact hown4
    obtain ⟨p4, c4, rfl, _, hil⟩ := ints_row hown4'
    rw [HLl.out]
    clear hown4 hown4'
    go_wp2_with fail
    refine (refsteps_any w4 p4 (lensT l) n c4 16 8 hil HLl.out (by omega) HL9.out (by decide) (by decide) (by decide) (by decide) Hbl.out).mono ?_
    rintro e w5 ⟨rfl, rfl⟩
    rw [Hst.out]
    have hB5 := hB23.trans (hB4.mono hB23.size)
    have hl5 := hl3.below hB4
    have hb5 := hb3.below hB4 hb3.lt
    have hr5 := hr3.below hB4
    clear hil hB4 hB23 hl3 hb3 hr3
    go_wp2_with fail
    go_loopw [7] (fun i wr => ∃ k : Nat, k ≤ n ∧ i = .int .i64 k ∧ Below w4.heap.size w4 wr) (fun i _ => n - (intOf i).toNat)
    case atStart => exact ⟨0, by omega, rfl, Below.refl _ _⟩
    case round =>
      obtain ⟨k, hk, rfl, hB⟩ := hrel
      have hBw := hB5.trans (hB.mono hB5.size)
      by_cases hlt : k < n
      · have q1 : (k : Int) < (n : Int) := by omega
        have hkl : k < l.length := by rw [Hn.out]; exact hlt
        have hkc : k < cs.length := by rw [Hcl.out]; exact hlt
        have hCF := CF_for Hcf.out k hkc hkl
        have hh := (hl5.below hB) k hkl
        have hxm := HM.out k hkl
        have hrow := (hr5.below hB).row k (by rw [Hv3.out]; exact hlt)
        rw [hCF] at hrow
        have hbk := hb5.below hB hb5.lt
        have hvk : vs[k]? = some (vs.getD k undef) := by simp [List.getD, Hv3.out, hlt]
        generalize hx : l[k] = x at hh hxm hrow hCF
        obtain ⟨tk, b, o, rfl, hb, hc⟩ := hh
        obtain ⟨X, hX⟩ : ∃ X, xk (enc (rkT x)) x.iv 0 x.b = X := ⟨_, rfl⟩
        rw [hX] at hrow
        have hXl : X.length = x.b.length := by rw [← hX, xk_len]
        obtain ⟨px, cx, hpx, _, hrX⟩ := hrow.row
        rw [hpx] at hvk
        have HT := hid (fun w' (h : Below wr.heap.size wr w') => textc_at tk h hb hc)
        have hszT : (Try.prog.info? 39).map (·.size) = some (textc x).length := by rw [sizeText, textc_len tk]
        have hszi : (Try.prog.info? 36).map (·.size) = some (bys x.iv).length := by rw [size54, bys_length, tk.iv]
        have hkn := kn_km x.long
        have hkl2 : (x.K.take (kn x.long)).length = kn x.long := by rw [List.length_take, tk.K]; omega
        have CX := hid (fun w' (h : Below wr.heap.size wr w') => ((hbk.below h hbk.lt).cell k).trans hvk)
        have HX := hid hX
        have Hkn := hid hkn
        have Hkl2 := hid hkl2
        have Hxl := hid (show x.b.length < 1000000000 by omega)
        have Tk := hid tk
        have HXl := hid hXl
        obtain ⟨pk, hpk⟩ : ∃ p, x.pa = p := ⟨_, rfl⟩
        obtain ⟨bk, hbk'⟩ : ∃ p, x.b.length = p := ⟨_, rfl⟩
        obtain ⟨ck, hck⟩ : ∃ p, x.cap = p := ⟨_, rfl⟩
        obtain ⟨Xl, hXl2⟩ : ∃ p, X.length = p := ⟨_, rfl⟩
        rw [hXl2] at CX
        rw [hpk, hbk', hck] at HT
        have Hbk := hid hbk'
        have Hpk := hid hpk
        have HXl2 := hid hXl2
        clear hx hX hkn hkl2 tk hc hvk hpx hCF hXl hXl2 hpk hbk' hck hrow hxm
        go_upto_region 12 with fail
        have S0 : Below wr.heap.size wr wr.drew := (Below.refl _ _).drew
        try simp only [Act.put]
        refine tkR (fun w' => Below wr.heap.size wr w') [] (by kernel_rfl) (fun c a d v w h => by cases d <;> exact h) (S0) (fun hPF hHeld => ?_)
        refine tkB 0 (.some 41) _ _ rfl rfl (by kernel_rfl) (by kernel_rfl) (by kernel_rfl) (by kernel_rfl) hPF rfl (fun w' => by (go_simp; try with_reducible rfl)) hHeld (fun hHeld => ?_)
        simp only [Act.put, List.setIfInBounds_toArray, List.set_cons_zero, List.set_cons_succ]
        refine tkB 1 (.some 42) _ _ rfl rfl (by kernel_rfl) (by kernel_rfl) (by kernel_rfl) (by kernel_rfl) hPF rfl (fun w' => by (go_simp; try with_reducible rfl)) hHeld (fun hHeld => ?_)
        simp only [Act.put, List.setIfInBounds_toArray, List.set_cons_zero, List.set_cons_succ]
        refine tkB 2 (.some 43) _ _ rfl rfl (by kernel_rfl) (by kernel_rfl) (by kernel_rfl) (by kernel_rfl) hPF rfl (fun w' => by (go_simp; try with_reducible rfl)) hHeld (fun hHeld => ?_)
        simp only [Act.put, List.setIfInBounds_toArray, List.set_cons_zero, List.set_cons_succ]
        refine tkA 3 (.some 44) _ _ rfl rfl (by kernel_rfl) (by kernel_rfl) (by kernel_rfl) (by kernel_rfl) (by kernel_rfl) hPF rfl (fun w' hw' => by (have h1 := CX.out _ hw'; go_simp; try with_reducible rfl)) hHeld (fun hHeld => ?_)
        simp only [Act.put, List.setIfInBounds_toArray, List.set_cons_zero, List.set_cons_succ]
        refine tkA 4 (.some 45) _ _ rfl rfl (by kernel_rfl) (by kernel_rfl) (by kernel_rfl) (by kernel_rfl) (by kernel_rfl) hPF rfl (fun w' hw' => by (have h1 := str_row (n := Xl) (c := cx) (hrX.below hw') HXl2.out; go_simp; try with_reducible rfl)) hHeld (fun hHeld => ?_)
        simp only [Act.put, List.setIfInBounds_toArray, List.set_cons_zero, List.set_cons_succ]
        refine tkB 5 (.some 46) _ _ rfl rfl (by kernel_rfl) (by kernel_rfl) (by kernel_rfl) (by kernel_rfl) hPF rfl (fun w' => by (go_simp; try with_reducible rfl)) hHeld (fun hHeld => ?_)
        simp only [Act.put, List.setIfInBounds_toArray, List.set_cons_zero, List.set_cons_succ]
        refine tkB 6 (.some 47) _ _ rfl rfl (by kernel_rfl) (by kernel_rfl) (by kernel_rfl) (by kernel_rfl) hPF rfl (fun w' => by (go_simp; try with_reducible rfl)) hHeld (fun hHeld => ?_)
        simp only [Act.put, List.setIfInBounds_toArray, List.set_cons_zero, List.set_cons_succ]
        refine tkB 7 (.some 48) _ _ rfl rfl (by kernel_rfl) (by kernel_rfl) (by kernel_rfl) (by kernel_rfl) hPF rfl (fun w' => by (go_simp; try with_reducible rfl)) hHeld (fun hHeld => ?_)
        simp only [Act.put, List.setIfInBounds_toArray, List.set_cons_zero, List.set_cons_succ]
        refine tkL 8 (.some 49) _ rfl rfl 39 (.tmp 48) rfl b (o + k * 51) (textc x) _ (by kernel_rfl) (by kernel_rfl) (by kernel_rfl) (by kernel_rfl) (by kernel_rfl) hPF rfl rfl (fun w' hw' => (HT.out _ hw').2.1) Try.underlying39 rfl hszT hHeld (fun hHeld => ?_)
        simp only [Act.put, List.setIfInBounds_toArray, List.set_cons_zero, List.set_cons_succ]
        refine tkB 10 (.some 51) _ _ rfl rfl (by kernel_rfl) (by kernel_rfl) (by kernel_rfl) (by kernel_rfl) hPF rfl (fun w' => by (go_simp; try with_reducible rfl)) hHeld (fun hHeld => ?_)
        simp only [Act.put, List.setIfInBounds_toArray, List.set_cons_zero, List.set_cons_succ]
        refine tkB 11 (.some 52) _ _ rfl rfl (by kernel_rfl) (by kernel_rfl) (by kernel_rfl) (by kernel_rfl) hPF rfl (fun w' => by (go_simp; try with_reducible rfl)) hHeld (fun hHeld => ?_)
        simp only [Act.put, List.setIfInBounds_toArray, List.set_cons_zero, List.set_cons_succ]
        refine tkB 12 (.some 53) _ _ rfl rfl (by kernel_rfl) (by kernel_rfl) (by kernel_rfl) (by kernel_rfl) hPF rfl (fun w' => by (go_simp; try with_reducible rfl)) hHeld (fun hHeld => ?_)
        simp only [Act.put, List.setIfInBounds_toArray, List.set_cons_zero, List.set_cons_succ]
        refine tkB 13 (.some 54) _ _ rfl rfl (by kernel_rfl) (by kernel_rfl) (by kernel_rfl) (by kernel_rfl) hPF rfl (fun w' => by (go_simp; try with_reducible rfl)) hHeld (fun hHeld => ?_)
        simp only [Act.put, List.setIfInBounds_toArray, List.set_cons_zero, List.set_cons_succ]
        refine tkL 14 (.some 55) _ rfl rfl 36 (.tmp 54) rfl b (o + k * 51 + 33) (bys x.iv) _ (by kernel_rfl) (by kernel_rfl) (by kernel_rfl) (by kernel_rfl) (by kernel_rfl) hPF rfl rfl (fun w' hw' => (HT.out _ hw').2.2.1) under54 rfl hszi hHeld (fun hHeld => ?_)
        simp only [Act.put, List.setIfInBounds_toArray, List.set_cons_zero, List.set_cons_succ]
        refine tkB 15 (.some 56) _ _ rfl rfl (by kernel_rfl) (by kernel_rfl) (by kernel_rfl) (by kernel_rfl) hPF rfl (fun w' => by (go_simp; try with_reducible rfl)) hHeld (fun hHeld => ?_)
        simp only [Act.put, List.setIfInBounds_toArray, List.set_cons_zero, List.set_cons_succ]
        refine tkB 16 (.some 57) _ _ rfl rfl (by kernel_rfl) (by kernel_rfl) (by kernel_rfl) (by kernel_rfl) hPF rfl (fun w' => by (go_simp; try with_reducible rfl)) hHeld (fun hHeld => ?_)
        simp only [Act.put, List.setIfInBounds_toArray, List.set_cons_zero, List.set_cons_succ]
        refine tkB 17 (.some 58) _ _ rfl rfl (by kernel_rfl) (by kernel_rfl) (by kernel_rfl) (by kernel_rfl) hPF rfl (fun w' => by (go_simp; try with_reducible rfl)) hHeld (fun hHeld => ?_)
        simp only [Act.put, List.setIfInBounds_toArray, List.set_cons_zero, List.set_cons_succ]
        refine tkB 18 (.some 59) _ _ rfl rfl (by kernel_rfl) (by kernel_rfl) (by kernel_rfl) (by kernel_rfl) hPF rfl (fun w' => by (go_simp; try with_reducible rfl)) hHeld (fun hHeld => ?_)
        simp only [Act.put, List.setIfInBounds_toArray, List.set_cons_zero, List.set_cons_succ]
        refine tkA 19 (.some 60) _ _ rfl rfl (by kernel_rfl) (by kernel_rfl) (by kernel_rfl) (by kernel_rfl) (by kernel_rfl) hPF rfl (fun w' hw' => by (have h1 := (HT.out _ hw').2.2.2; go_simp; try with_reducible rfl)) hHeld (fun hHeld => ?_)
        simp only [Act.put, List.setIfInBounds_toArray, List.set_cons_zero, List.set_cons_succ]
        have hS := hHeld (by kernel_rfl)
        refine tkW (rs := [9]) (by kernel_rfl) (by simp) (AllK.cons (o := _) rfl (fun KC hKC => ?_) AllK.nil)
        go_simp
        refine (bytesT_any _ _ x Tk.out).mono ?_
        rintro e w9 ⟨rfl, hb9, hB9⟩
        have h9 := hS.trans (hB9.mono hS.size)
        have hr9 := textc_row Tk.out hb9 (kn x.long) Hkn.out.2.2
        refine hKC.out _ _ (h9) (fun hHeld => ?_)
        clear hKC KC
        try simp only [Act.put, List.setIfInBounds_toArray, List.set_cons_zero, List.set_cons_succ]
        have hS := hHeld (by kernel_rfl)
        refine tkW (rs := [20]) (by kernel_rfl) (by simp) (AllK.cons (o := _) rfl (fun KC hKC => ?_) AllK.nil)
        go_simp
        refine (refcrypt_any w9 _ (kn x.long) 32 (km x.long) (x.K.take (kn x.long)) x.iv pk bk ck x.b hr9 Hkl2.out Hkn.out.2.1 Hkn.out.1 Tk.out.iv (by rw [← Hpk.out]; exact (Tk.out.row.below h9)) Hbk.out (by rw [← Hbk.out]; exact Hxl.out)).mono ?_
        rintro e w20 ⟨v20, rfl, hown20, hB20⟩
        have h20 := h9.trans (hB20.mono h9.size)
        have hown20 : OwnR w9.heap.size w20 v20 X := by rw [← HX.out]; exact hown20
        obtain ⟨p20, c20, rfl, _, hr20⟩ := hown20.row
        rw [HXl2.out]
        have hBx := hBw.trans (h20.mono hBw.size)
        have hBy := hB.trans (h20.mono hB.size)
        refine hKC.out _ _ (h20) (fun hHeld => ?_)
        clear hKC KC
        try simp only [Act.put, List.setIfInBounds_toArray, List.set_cons_zero, List.set_cons_succ]
        refine tkS (fun w' => Below w20.heap.size w20 w') (fun w' h => Below.trans h20 (Below.mono h (Below.size h20))) (Below.refl _ _) (fun hHeld => ?_)
        refine tkA 21 (.some 62) _ _ rfl rfl (by kernel_rfl) (by kernel_rfl) (by kernel_rfl) (by kernel_rfl) (by kernel_rfl) hPF rfl (fun w' hw' => by (have h1 := str_row (n := Xl) (c := c20) (hr20.below hw') HXl2.out; go_simp; try with_reducible rfl)) hHeld (fun hHeld => ?_)
        simp only [Act.put, List.setIfInBounds_toArray, List.set_cons_zero, List.set_cons_succ]
        refine tkA 22 (.some 63) _ (.bool false) rfl rfl (by kernel_rfl) (by kernel_rfl) (by kernel_rfl) (by kernel_rfl) (by kernel_rfl) hPF rfl (fun w' hw' => by (go_simp)) hHeld (fun hHeld => ?_)
        simp only [Act.put, List.setIfInBounds_toArray, List.set_cons_zero, List.set_cons_succ]
        refine tkD (by kernel_rfl) ?_ _
        clear hB hBw
        go_wp2_with fail
        go_roundw
        case rel => exact ⟨k + 1, by omega, by go_num, hBy⟩
        case measure => (simp [intOf]; try omega)
      · have hke : k = n := by omega
        have q1 : ¬ ((k : Int) < (n : Int)) := by omega
        clear hke
        go_wp2_with fail
        refine (awake14_any wr).mono ?_
        rintro e w9 ⟨rfl, hB9⟩
        have hBz := hBw.trans (hB9.mono hBw.size)
        go_wp2_with fail
        go_ret
        exact ⟨rfl, hBz⟩
  · have hlt : lightT l 100 = false := by simpa using hlt
    have Hlt := hid hlt
    clear hlt hn
    go_enter Try.func3, Try.ntmps3
    go_wp2_with fail
    refine (lightT_any w pa l n cap 100 hl Hn.out).mono ?_
    rw [Hlt.out]
    rintro e w1 ⟨rfl, rfl⟩
    go_wp2_with fail
    go_ret
    exact ⟨rfl, Below.refl _ _⟩
end Go.Proofs.Ytgellbapbphnlaa
