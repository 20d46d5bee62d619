/- weave and chacha: several texts in one -/
import Derived.Test.YtgellbapbphnlaaWu
import Derived.Test.YtgellbapbphnlaaWc
import Derived.Test.YtgellbapbphnlaaXs
import Derived.Test.YtgellbapbphnlaaXb
import Derived.Test.YtgellbapbphnlaaV1
/- weave: ChaCha -/
namespace Go.Proofs.Ytgellbapbphnlaa
open Go.RowKit

theorem strs_of_owns {w : World} {base : Nat} {v : Value} {ss : List StrV} {n : Nat} (h : w.ownsRow base tStr 46 v n (stcs ss)) (hn : ss.length = n) (hok : ∀ x ∈ ss, StrOk w x) : ∃ pa cap, v = .slice pa n cap ∧ n ≤ cap ∧ StrsAt w pa ss := by
  rcases Nat.eq_zero_or_pos n with h0 | h0
  · subst h0
    obtain ⟨pa, cap, rfl⟩ := owns_zero h
    exact ⟨pa, cap, rfl, Nat.zero_le _, fun k hk => by omega⟩
  · obtain ⟨b, cap, rest, rfl, hc, _, hb⟩ := owns_blk h h0
    refine ⟨_, cap, rfl, hc, fun k hk => ?_⟩
    have hl : ∀ x ∈ ss, (stc x).length = 46 := fun x hx => stc_len (hok x hx)
    refine ⟨hok _ (List.getElem_mem hk), b, 0, rfl, hb.lt, fun j v hv => ?_⟩
    have hj : j < 46 := by
      rcases Nat.lt_or_ge j 46 with q | q
      · exact q
      · rw [List.getElem?_eq_none (by rw [hl _ (List.getElem_mem hk)]; exact q)] at hv; cases hv
    have h3 : k * 46 + j < ss.length * 46 := by
      have := Nat.mul_le_mul_right 46 (Nat.succ_le_of_lt hk)
      omega
    rw [hb.cell, Nat.zero_add, List.getElem?_append_left (by unfold stcs; rw [flat_len _ 46 ss hl]; exact h3)]
    unfold stcs
    rw [flat_get _ 46 ss hl k hk j hj]; exact hv
def SF14 (ss : List StrV) (k : Nat) : List UInt8 := match ss[k]? with | some x => xf (ksS x) x.b | none => []
theorem ksS_ksR (x : StrV) : ksS x = ksR x.key x.nonce x.n := rfl

set_option maxRecDepth 100000 in
set_option maxHeartbeats 1000000 in
theorem chas_any (w : World) (pa : Option Addr) (ss : List StrV) (n cap : Nat) (hl : StrsAt w pa ss) (hn : ss.length = n) (h9 : n ≤ 100) (hm : ∀ k (h : k < ss.length), ss[k].b.length ≤ 1000) :
    Calls Try.prog 23 #[.slice pa n cap] w fun e w' => ∃ g vs, e = .returned (.tuple #[.slice (some ⟨g, 0, none⟩) n n, .int .i64 (stepsF 64 4 (lensS ss))]) ∧ w.heap.size ≤ g ∧ Blk w' g vs tBytes ∧ vs.length = n ∧
      RowsI w.heap.size w' vs (SF14 ss) ∧ Below w.heap.size w w' := by
  have Hc := hid (wovenS_any w pa ss n cap hl hn h9 hm)
  clear hl hn hm
  go_enter Try.func23, Try.ntmps23
  go_wp2_with fail
  refine Hc.out.mono ?_
  rintro e w' ⟨g, vs, rfl, h1, h2, h3, h4, h5⟩
  have H4 := hid (show RowsI w.heap.size w' vs (SF14 ss) from h4)
  obtain ⟨st, hst⟩ : ∃ st, stepsF 64 4 (lensS ss) = st := ⟨_, rfl⟩
  rw [hst]
  have Hst := hid hst
  clear h4 hst
  go_wp2_with fail
  go_ret2
  exact ⟨g, vs, by rw [Hst.out]; rfl, h1, h2, h3, H4.out, h5⟩
end Go.Proofs.Ytgellbapbphnlaa

/- WeaveStreams, walked -/
namespace Go.Proofs.Ytgellbapbphnlaa
open Go.RowKit

theorem lensS_for {ss : List StrV} {l : List TextV} (hl : ss.length = l.length) (hf : ∀ j (h : j < ss.length) (h' : j < l.length), StrFor ss[j] l[j]) : lensS ss = lensT l := by
  unfold lensS lensT
  apply List.ext_getElem
  · simp [hl]
  · intro j h1 h2
    simp only [List.length_map] at h1 h2
    simp only [List.getElem_map]
    rw [(hf j h1 h2).b]
theorem SF_for {ss : List StrV} {l : List TextV} (hf : ∀ j (h : j < ss.length) (h' : j < l.length), StrFor ss[j] l[j]) (k : Nat) (h : k < ss.length) (h' : k < l.length) : SF14 ss k = xf (ksR l[k].K (l[k].iv.take 12) (UInt32.ofNat l[k].n)) l[k].b := by
  unfold SF14
  rw [List.getElem?_eq_getElem h]
  simp only
  rw [ksS_ksR, (hf k h h').key, (hf k h h').nonce, (hf k h h').n, (hf k h h').b]
/-- A text at its place, later on. -/
theorem text_later {w w' : World} {x : TextV} {b o : Nat} (tk : TextOk w x) (hb : b < w.heap.size) (hc : ∀ j, j < 51 → w.cell? ⟨b, o + j, none⟩ = (textc x)[j]?) (h : Below w.heap.size w w') :
    TextOk w' x ∧ w'.rangeAt b o (textc x) ∧ RowAt w' (some ⟨b, o, none⟩) x.K ∧ w'.cell? ⟨b, o + 49, none⟩ = some (.int .u32 (wv (UInt32.ofNat x.n))) ∧ w'.cell? ⟨b, o + 50, none⟩ = some (.slice x.pa x.b.length x.cap) := by
  have hx' : TextOk w' x := ⟨tk.K, tk.iv, tk.n, tk.row.below h, tk.cap⟩
  have hc' : ∀ j, j < 51 → w'.cell? ⟨b, o + j, none⟩ = (textc x)[j]? := fun j hj => by
    rw [← hc j hj]; simp [World.cell?, h.block b hb]
  have hr := textc_range hx' hc'
  refine ⟨hx', hr, fun j hj => ⟨b, o, rfl, Nat.lt_of_lt_of_le hb h.size, ?_⟩, by rw [hc' 49 (by omega), textc_n hx', w_lit _ hx'.n], by rw [hc' 50 (by omega), textc_slice hx']⟩
  exact textc_K hr j _ (bys_get _ _ hj)

set_option maxRecDepth 100000 in
set_option maxHeartbeats 4000000 in
theorem weaveStreams_walk (w : World) (pa : Option Addr) (l : List TextV) (n cap : Nat) (hl : TextsAt w pa l) (hn : l.length = n) :
    Calls Try.prog 6 #[.slice pa n cap] w fun e w' => e = .returned (.bool true) ∧ Below w.heap.size w w' := by
  have Hn := hid hn
  by_cases hlt : lightT l 400 = true
  · obtain ⟨h8, hm⟩ := lightT_spec hlt
    have Hlt := hid hlt
    have HM := hid hm
    rw [hn] at h8
    clear hn hlt hm
    go_enter Try.func6, Try.ntmps6
    go_wp2_with fail
    refine (lightT_any w pa l n cap 400 hl Hn.out).mono ?_
    rw [Hlt.out]
    rintro e w1 ⟨rfl, rfl⟩
    go_wp2_with fail
    refine (streams_any w pa l n cap hl Hn.out (by omega) (fun k h => Nat.le_trans (HM.out k h) (by omega))).mono ?_
    rintro e w2 ⟨v, ss, rfl, hcl, hcf, hco, hown, hB2⟩
    have hcok : ∀ x ∈ ss, StrOk w2 x := fun x hx => (hco x hx).ok
    obtain ⟨pc, cc, rfl, hcc, hat⟩ := strs_of_owns hown hcl hcok
    have Hcl := hid hcl
    have Hcf := hid hcf
    have hlen := lensS_for (hcl.trans Hn.out.symm) hcf
    have Hlen := hid hlen
    clear hcl hcf hco hcok hlen hown
    go_wp2_with fail
    refine (chas_any w2 pc ss n cc hat Hcl.out (by omega) (fun k h => by
      have := (Hcf.out k h (by rw [Hn.out, ← Hcl.out]; exact h)).b
      rw [this]; exact Nat.le_trans (HM.out k _) (by omega))).mono ?_
    rintro e w3 ⟨g, vs, rfl, hg3, hb3, hv3, hr3, hB3⟩
    rw [Hlen.out]
    have hB23 := hB2.trans (hB3.mono hB2.size)
    have hl3 := hl.below hB23
    obtain ⟨st, hst⟩ : ∃ st, stepsF 64 4 (lensT l) = st := ⟨_, rfl⟩
    rw [hst]
    have Hst := hid hst
    have Hv3 := hid hv3
    clear hst hv3 hB2 hB3 hat
    have hLl : (lensT l).length = n := by simp [lensT, Hn.out]
    have HLl := hid hLl
    have hL9 : ∀ k, k < n → (lensT l).getD k 0 ≤ 1000 := fun k hk => by rw [lensT_get l k (by rw [Hn.out]; exact hk)]; exact Nat.le_trans (HM.out k _) (by omega)
    have hbl : blocksF 64 (lensT l) ≤ 1000000 := by
      have := blocksF_le 64 1000 (by decide) (lensT l) (fun k hk => hL9 k (by rw [← hLl]; exact hk))
      rw [hLl] at this
      have h3 : n * (1000 + 64) ≤ 100 * (1000 + 64) := Nat.mul_le_mul_right _ (by omega)
      omega
    have HL9 := hid hL9
    have Hbl := hid hbl
    clear hLl hL9 hbl
    go_wp2_with fail
    refine (lengthsT_any w3 pa l n cap hl3 Hn.out (by omega)).mono ?_
    rintro e w4 ⟨v4, rfl, hown4, hB4⟩
    have hown4' : w4.ownsRow w3.heap.size 3 1 v4 (lensT l).length (intsN (lensT l)) := by rw [HLl.out]; exact hown4
    obtain ⟨p4, c4, rfl, _, hil⟩ := ints_row hown4'
    rw [HLl.out]
    clear hown4 hown4'
    go_wp2_with fail
    refine (refsteps_any w4 p4 (lensT l) n c4 64 4 hil HLl.out (by omega) HL9.out (by decide) (by decide) (by decide) (by decide) Hbl.out).mono ?_
    rintro e w5 ⟨rfl, rfl⟩
    rw [Hst.out]
    have hB5 := hB23.trans (hB4.mono hB23.size)
    have hl5 := hl3.below hB4
    have hb5 := hb3.below hB4 hb3.lt
    have hr5 := hr3.below hB4
    clear hil hB4 hB23 hl3 hb3 hr3
    go_wp2_with fail
    go_loopw [5] (fun i wr => ∃ k : Nat, k ≤ n ∧ i = .int .i64 k ∧ Below w4.heap.size w4 wr) (fun i _ => n - (intOf i).toNat)
    case atStart => exact ⟨0, by omega, rfl, Below.refl _ _⟩
    case round =>
      obtain ⟨k, hk, rfl, hB⟩ := hrel
      have hBw := hB5.trans (hB.mono hB5.size)
      by_cases hlt : k < n
      · have q1 : (k : Int) < (n : Int) := by omega
        have hkl : k < l.length := by rw [Hn.out]; exact hlt
        have hkc : k < ss.length := by rw [Hcl.out]; exact hlt
        have hCF := SF_for Hcf.out k hkc hkl
        have hh := (hl5.below hB) k hkl
        have hxm := HM.out k hkl
        have hrow := (hr5.below hB).row k (by rw [Hv3.out]; exact hlt)
        rw [hCF] at hrow
        have hbk := hb5.below hB hb5.lt
        have hvk : vs[k]? = some (vs.getD k undef) := by simp [List.getD, Hv3.out, hlt]
        generalize hx : l[k] = x at hh hxm hrow hCF
        obtain ⟨tk, b, o, rfl, hb, hc⟩ := hh
        obtain ⟨X, hX⟩ : ∃ X, xf (ksR x.K (x.iv.take 12) (UInt32.ofNat x.n)) x.b = X := ⟨_, rfl⟩
        rw [hX] at hrow
        have hXl : X.length = x.b.length := by rw [← hX, xf_len]
        obtain ⟨px, cx, hpx, _, hrX⟩ := hrow.row
        rw [hpx] at hvk
        have hszT : (Try.prog.info? 39).map (·.size) = some (textc x).length := by rw [sizeText, textc_len tk]
        have hrg := (text_later tk hb hc (Below.refl _ _)).2.1
        have Tk := hid tk
        have hnl : (x.iv.take 12).length = 12 := by rw [List.length_take, tk.iv]; rfl
        have Hnl := hid hnl
        have HT := hid (fun w' (h : Below wr.heap.size wr w') => text_later tk hb hc h)
        have CX := hid (fun w' (h : Below wr.heap.size wr w') => ((hbk.below h hbk.lt).cell k).trans hvk)
        have HrX := hid (fun w' (h : Below wr.heap.size wr w') => hrX.below h)
        have HX := hid hX
        have Hxl := hid (show x.b.length < 1000000 by omega)
        obtain ⟨Xl, hXl2⟩ : ∃ p, X.length = p := ⟨_, rfl⟩
        rw [hXl2] at CX
        have HXl2 := hid hXl2
        obtain ⟨pk, hpk⟩ : ∃ p, x.pa = p := ⟨_, rfl⟩
        obtain ⟨bk, hbk'⟩ : ∃ p, x.b.length = p := ⟨_, rfl⟩
        obtain ⟨ck, hck⟩ : ∃ p, x.cap = p := ⟨_, rfl⟩
        rw [hpk, hbk', hck] at HT
        have Hbk := hid hbk'
        have Hpk := hid hpk
        clear hx hX tk hc hvk hpx hCF hXl hXl2 hrow hxm hrX hnl hpk hbk' hck
        go_wp2_with (refine wpList_load_mid rfl 39 (.tmp 36) rfl b (o + k * 51) rfl (textc x) _ hrg Try.underlying39 rfl hszT ?_)
        refine (nonceT_any wr _ x Tk.out).mono ?_
        rintro e w6 ⟨rfl, hB6⟩
        have hz := Blk.new w6 (bys z12) tN12
        have hBn : Below w6.heap.size w6 (w6.alloc (.cells (bys z12).toArray tN12)) := (Below.refl _ _).alloc (Nat.le_refl _) _
        have hg := hz.setCells (bys (x.iv.take 12)) 0 (by rw [bys_length, bys_length, Hnl.out]; decide)
        rw [splice_whole _ _ (by rw [bys_length, bys_length, Hnl.out]; rfl)] at hg
        have hBs : Below w6.heap.size w6 ((w6.alloc (.cells (bys z12).toArray tN12)).setCells w6.heap.size 0 (bys (x.iv.take 12))) := hBn.trans (((Chg.refl w6.heap.size [] _).setCells (b := w6.heap.size) (.inr (Nat.le_refl _)) (bys (x.iv.take 12)) 0).below (Nat.le_refl _) (by simp))
        have hsz12 : (Try.prog.info? 50).map (·.size) = some (bys (x.iv.take 12)).toArray.size := by rw [size12, List.size_toArray, bys_length, Hnl.out]
        go_upto_region 10 with (refine wpList_store_mid rfl 50 (.tmp 6) (.tmp 38) rfl w6.heap.size 0 (bys (x.iv.take 12)).toArray rfl rfl (hz.there 0 _ (by rw [List.size_toArray, bys_length, bys_length, Hnl.out]; decide)) hsz12 (all_oneCell_toArray (bys_one _)) ?_)
        change Code.wp _ _ _ _ ((w6.alloc (.cells (bys z12).toArray tN12)).setCells w6.heap.size 0 (bys (x.iv.take 12)))
        have hB7 := hB6.trans (hBs.mono hB6.size)
        obtain ⟨b6, hb6⟩ : ∃ b, w6.heap.size = b := ⟨_, rfl⟩
        generalize (w6.alloc (.cells (bys z12).toArray tN12)).setCells w6.heap.size 0 (bys (x.iv.take 12)) = w7 at *
        rw [hb6] at hg ⊢
        have Hb6 := hid hb6
        clear hb6 hz hBn hBs hB6
        have S0 : Below w7.heap.size w7 w7.drew := (Below.refl _ _).drew
        have U7 := hid (fun w' (h : Below w7.heap.size w7 w') => hB7.trans (h.mono hB7.size))
        try simp only [Act.put]
        refine tkR (fun w' => Below w7.heap.size w7 w') [] (by kernel_rfl) (fun c a d v w h => by cases d <;> exact h) (S0) (fun hPF hHeld => ?_)
        refine tkB 0 (.some 39) _ _ rfl rfl (by kernel_rfl) (by kernel_rfl) (by kernel_rfl) (by kernel_rfl) hPF rfl (fun w' => by (go_simp; try with_reducible rfl)) hHeld (fun hHeld => ?_)
        simp only [Act.put, List.setIfInBounds_toArray, List.set_cons_zero, List.set_cons_succ]
        refine tkB 1 (.some 40) _ _ rfl rfl (by kernel_rfl) (by kernel_rfl) (by kernel_rfl) (by kernel_rfl) hPF rfl (fun w' => by (go_simp; try with_reducible rfl)) hHeld (fun hHeld => ?_)
        simp only [Act.put, List.setIfInBounds_toArray, List.set_cons_zero, List.set_cons_succ]
        refine tkB 2 (.some 41) _ _ rfl rfl (by kernel_rfl) (by kernel_rfl) (by kernel_rfl) (by kernel_rfl) hPF rfl (fun w' => by (go_simp; try with_reducible rfl)) hHeld (fun hHeld => ?_)
        simp only [Act.put, List.setIfInBounds_toArray, List.set_cons_zero, List.set_cons_succ]
        refine tkA 3 (.some 42) _ _ rfl rfl (by kernel_rfl) (by kernel_rfl) (by kernel_rfl) (by kernel_rfl) (by kernel_rfl) hPF rfl (fun w' hw' => by (have h1 := CX.out _ (U7.out _ hw'); go_simp; try with_reducible rfl)) hHeld (fun hHeld => ?_)
        simp only [Act.put, List.setIfInBounds_toArray, List.set_cons_zero, List.set_cons_succ]
        refine tkA 4 (.some 43) _ _ rfl rfl (by kernel_rfl) (by kernel_rfl) (by kernel_rfl) (by kernel_rfl) (by kernel_rfl) hPF rfl (fun w' hw' => by (have h1 := str_row (n := Xl) (c := cx) (HrX.out _ (U7.out _ hw')) HXl2.out; go_simp; try with_reducible rfl)) hHeld (fun hHeld => ?_)
        simp only [Act.put, List.setIfInBounds_toArray, List.set_cons_zero, List.set_cons_succ]
        refine tkB 5 (.some 44) _ _ rfl rfl (by kernel_rfl) (by kernel_rfl) (by kernel_rfl) (by kernel_rfl) hPF rfl (fun w' => by (go_simp; try with_reducible rfl)) hHeld (fun hHeld => ?_)
        simp only [Act.put, List.setIfInBounds_toArray, List.set_cons_zero, List.set_cons_succ]
        refine tkB 6 (.some 45) _ _ rfl rfl (by kernel_rfl) (by kernel_rfl) (by kernel_rfl) (by kernel_rfl) hPF rfl (fun w' => by (go_simp; try with_reducible rfl)) hHeld (fun hHeld => ?_)
        simp only [Act.put, List.setIfInBounds_toArray, List.set_cons_zero, List.set_cons_succ]
        refine tkB 7 (.some 46) _ _ rfl rfl (by kernel_rfl) (by kernel_rfl) (by kernel_rfl) (by kernel_rfl) hPF rfl (fun w' => by (go_simp; try with_reducible rfl)) hHeld (fun hHeld => ?_)
        simp only [Act.put, List.setIfInBounds_toArray, List.set_cons_zero, List.set_cons_succ]
        refine tkB 8 (.some 47) _ _ rfl rfl (by kernel_rfl) (by kernel_rfl) (by kernel_rfl) (by kernel_rfl) hPF rfl (fun w' => by (go_simp; try with_reducible rfl)) hHeld (fun hHeld => ?_)
        simp only [Act.put, List.setIfInBounds_toArray, List.set_cons_zero, List.set_cons_succ]
        refine tkB 9 (.some 48) _ _ rfl rfl (by kernel_rfl) (by kernel_rfl) (by kernel_rfl) (by kernel_rfl) hPF rfl (fun w' => by (go_simp; try with_reducible rfl)) hHeld (fun hHeld => ?_)
        simp only [Act.put, List.setIfInBounds_toArray, List.set_cons_zero, List.set_cons_succ]
        refine tkB 10 (.some 49) _ _ rfl rfl (by kernel_rfl) (by kernel_rfl) (by kernel_rfl) (by kernel_rfl) hPF rfl (fun w' => by (go_simp; try with_reducible rfl)) hHeld (fun hHeld => ?_)
        simp only [Act.put, List.setIfInBounds_toArray, List.set_cons_zero, List.set_cons_succ]
        refine tkB 11 (.some 50) _ _ rfl rfl (by kernel_rfl) (by kernel_rfl) (by kernel_rfl) (by kernel_rfl) hPF rfl (fun w' => by (go_simp; try with_reducible rfl)) hHeld (fun hHeld => ?_)
        simp only [Act.put, List.setIfInBounds_toArray, List.set_cons_zero, List.set_cons_succ]
        refine tkB 12 (.some 51) _ _ rfl rfl (by kernel_rfl) (by kernel_rfl) (by kernel_rfl) (by kernel_rfl) hPF rfl (fun w' => by (go_simp; try with_reducible rfl)) hHeld (fun hHeld => ?_)
        simp only [Act.put, List.setIfInBounds_toArray, List.set_cons_zero, List.set_cons_succ]
        refine tkB 13 (.some 52) _ _ rfl rfl (by kernel_rfl) (by kernel_rfl) (by kernel_rfl) (by kernel_rfl) hPF rfl (fun w' => by (go_simp; try with_reducible rfl)) hHeld (fun hHeld => ?_)
        simp only [Act.put, List.setIfInBounds_toArray, List.set_cons_zero, List.set_cons_succ]
        refine tkB 14 (.some 53) _ _ rfl rfl (by kernel_rfl) (by kernel_rfl) (by kernel_rfl) (by kernel_rfl) hPF rfl (fun w' => by (go_simp; try with_reducible rfl)) hHeld (fun hHeld => ?_)
        simp only [Act.put, List.setIfInBounds_toArray, List.set_cons_zero, List.set_cons_succ]
        refine tkA 15 (.some 54) _ _ rfl rfl (by kernel_rfl) (by kernel_rfl) (by kernel_rfl) (by kernel_rfl) (by kernel_rfl) hPF rfl (fun w' hw' => by (have h1 := (HT.out _ (U7.out _ hw')).2.2.2.1; go_simp; try with_reducible rfl)) hHeld (fun hHeld => ?_)
        simp only [Act.put, List.setIfInBounds_toArray, List.set_cons_zero, List.set_cons_succ]
        refine tkB 16 (.some 55) _ _ rfl rfl (by kernel_rfl) (by kernel_rfl) (by kernel_rfl) (by kernel_rfl) hPF rfl (fun w' => by (go_simp; try with_reducible rfl)) hHeld (fun hHeld => ?_)
        simp only [Act.put, List.setIfInBounds_toArray, List.set_cons_zero, List.set_cons_succ]
        refine tkB 17 (.some 56) _ _ rfl rfl (by kernel_rfl) (by kernel_rfl) (by kernel_rfl) (by kernel_rfl) hPF rfl (fun w' => by (go_simp; try with_reducible rfl)) hHeld (fun hHeld => ?_)
        simp only [Act.put, List.setIfInBounds_toArray, List.set_cons_zero, List.set_cons_succ]
        refine tkB 18 (.some 57) _ _ rfl rfl (by kernel_rfl) (by kernel_rfl) (by kernel_rfl) (by kernel_rfl) hPF rfl (fun w' => by (go_simp; try with_reducible rfl)) hHeld (fun hHeld => ?_)
        simp only [Act.put, List.setIfInBounds_toArray, List.set_cons_zero, List.set_cons_succ]
        refine tkB 19 (.some 58) _ _ rfl rfl (by kernel_rfl) (by kernel_rfl) (by kernel_rfl) (by kernel_rfl) hPF rfl (fun w' => by (go_simp; try with_reducible rfl)) hHeld (fun hHeld => ?_)
        simp only [Act.put, List.setIfInBounds_toArray, List.set_cons_zero, List.set_cons_succ]
        refine tkA 20 (.some 59) _ _ rfl rfl (by kernel_rfl) (by kernel_rfl) (by kernel_rfl) (by kernel_rfl) (by kernel_rfl) hPF rfl (fun w' hw' => by (have h1 := (HT.out _ (U7.out _ hw')).2.2.2.2; go_simp; try with_reducible rfl)) hHeld (fun hHeld => ?_)
        simp only [Act.put, List.setIfInBounds_toArray, List.set_cons_zero, List.set_cons_succ]
        have hS := hHeld (by kernel_rfl)
        refine tkW (rs := [21]) (by kernel_rfl) (by simp) (AllK.cons (o := _) rfl (fun KC hKC => ?_) AllK.nil)
        go_simp
        have hS1 := U7.out _ hS
        refine (refcrypt4_any w7.drew _ _ pk 32 12 bk ck x.K (x.iv.take 12) x.b (UInt32.ofNat x.n) (HT.out _ hS1).2.2.1 (hg.below hS hg.lt).rowAt0 Tk.out.K Hnl.out (by rw [← Hpk.out]; exact (HT.out _ hS1).1.row) Hbk.out (by rw [← Hbk.out]; exact Hxl.out)).mono ?_
        rw [HX.out]
        rintro e w20 ⟨v20, rfl, hown20, hB20⟩
        have h21 := hS.trans (hB20.mono hS.size)
        have h20 := U7.out _ h21
        obtain ⟨p20, c20, rfl, _, hr20⟩ := hown20.row
        rw [HXl2.out]
        have hBx := hBw.trans (h20.mono hBw.size)
        have hBy := hB.trans (h20.mono hB.size)
        refine hKC.out _ _ (h21) (fun hHeld => ?_)
        clear hKC KC
        try simp only [Act.put, List.setIfInBounds_toArray, List.set_cons_zero, List.set_cons_succ]
        refine tkS (fun w' => Below w20.heap.size w20 w') (fun w' h => Below.trans h21 (Below.mono h (Below.size h21))) (Below.refl _ _) (fun hHeld => ?_)
        refine tkA 22 (.some 61) _ _ rfl rfl (by kernel_rfl) (by kernel_rfl) (by kernel_rfl) (by kernel_rfl) (by kernel_rfl) hPF rfl (fun w' hw' => by (have h1 := str_row (n := Xl) (c := c20) (hr20.below hw') HXl2.out; go_simp; try with_reducible rfl)) hHeld (fun hHeld => ?_)
        simp only [Act.put, List.setIfInBounds_toArray, List.set_cons_zero, List.set_cons_succ]
        refine tkA 23 (.some 62) _ (.bool false) rfl rfl (by kernel_rfl) (by kernel_rfl) (by kernel_rfl) (by kernel_rfl) (by kernel_rfl) hPF rfl (fun w' hw' => by (go_simp)) hHeld (fun hHeld => ?_)
        simp only [Act.put, List.setIfInBounds_toArray, List.set_cons_zero, List.set_cons_succ]
        refine tkD (by kernel_rfl) ?_ _
        clear hB hBw
        go_wp2_with fail
        go_roundw
        case rel => exact ⟨k + 1, by omega, by go_num, hBy⟩
        case measure => (simp [intOf]; try omega)
      · have hke : k = n := by omega
        have q1 : ¬ ((k : Int) < (n : Int)) := by omega
        clear hke
        go_wp2_with fail
        refine (awake14_any wr).mono ?_
        rintro e w9 ⟨rfl, hB9⟩
        have hBz := hBw.trans (hB9.mono hBw.size)
        go_wp2_with fail
        go_ret
        exact ⟨rfl, hBz⟩
  · have hlt : lightT l 400 = false := by simpa using hlt
    have Hlt := hid hlt
    clear hlt hn
    go_enter Try.func6, Try.ntmps6
    go_wp2_with fail
    refine (lightT_any w pa l n cap 400 hl Hn.out).mono ?_
    rw [Hlt.out]
    rintro e w1 ⟨rfl, rfl⟩
    go_wp2_with fail
    go_ret
    exact ⟨rfl, Below.refl _ _⟩
end Go.Proofs.Ytgellbapbphnlaa
