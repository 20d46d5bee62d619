/- WeaveBack, walked -/
import Derived.Test.YtgellbapbphnlaaV1
namespace Go.Proofs.Ytgellbapbphnlaa
open Go.RowKit

def svA : Value → Option Addr
  | .slice a _ _ => a
  | _ => none
def svC : Value → Nat
  | .slice _ _ c => c
  | _ => 0
/-- A text in counter mode with the bytes that came of it. -/
def newC (cs : List CtrV) (vs : List Value) (x : CtrV) (j : Nat) : CtrV := ⟨x.kb, x.rk, x.iv, svA (vs.getD j undef), CF cs j, svC (vs.getD j undef)⟩
def newTo (cs : List CtrV) (vs : List Value) (k : Nat) : List CtrV := (cs.zipIdx.map fun p => if p.2 < k then newC cs vs p.1 p.2 else p.1)
theorem newTo_len (cs : List CtrV) (vs : List Value) (k : Nat) : (newTo cs vs k).length = cs.length := by simp [newTo]
theorem newTo_get (cs : List CtrV) (vs : List Value) (k j : Nat) (h : j < cs.length) (h' : j < (newTo cs vs k).length) : (newTo cs vs k)[j] = if j < k then newC cs vs cs[j] j else cs[j] := by simp [newTo]
theorem newTo_zero (cs : List CtrV) (vs : List Value) : newTo cs vs 0 = cs := by
  apply List.ext_getElem
  · simp [newTo]
  · intro j h1 h2; simp [newTo]
theorem newTo_set (cs : List CtrV) (vs : List Value) (k : Nat) (h : k < cs.length) : (newTo cs vs k).set k (newC cs vs cs[k] k) = newTo cs vs (k + 1) := by
  apply List.ext_getElem
  · simp [newTo]
  · intro j h1 h2
    rw [newTo_get cs vs (k + 1) j (by rw [newTo_len] at h2; exact h2) h2]
    rw [List.getElem_set]
    by_cases e : k = j
    · subst e; simp
    · rw [if_neg e, newTo_get cs vs k j (by rw [newTo_len] at h2; exact h2)]
      by_cases e2 : j < k
      · rw [if_pos e2, if_pos (by omega)]
      · rw [if_neg e2, if_neg (by omega)]
theorem ctrc_len' {x : CtrV} (h : x.iv.length = 16) : (ctrc x).length = 18 := by simp [ctrc, bys, h]
theorem ctrc_set (x : CtrV) (pa : Option Addr) (b : List UInt8) (cap : Nat) (h : x.iv.length = 16) : (ctrc x).set 17 (.slice pa b.length cap) = ctrc ⟨x.kb, x.rk, x.iv, pa, b, cap⟩ := by
  unfold ctrc
  rw [List.set_append_right _ _ (by simp [bys, h])]
  simp [bys, h]
theorem flat_set {α : Type} (f : α → List Value) (m : Nat) : ∀ (l : List α), (∀ x ∈ l, (f x).length = m) → ∀ k (hk : k < l.length) j (_ : j < m) (v : Value) (y : α) (_ : (f l[k]).set j v = f y), (l.flatMap f).set (k * m + j) v = (l.set k y).flatMap f
  | [], _, k, hk, _, _, _, _, _ => by simp at hk
  | x :: l, h, k, hk, j, hj, v, y, hy => by
    have hx := h x (by simp)
    rw [List.flatMap_cons]
    cases k with
    | zero =>
      rw [Nat.zero_mul, Nat.zero_add, List.set_append_left _ _ (by rw [hx]; exact hj)]
      simp only [List.getElem_cons_zero] at hy
      rw [hy, List.set_cons_zero, List.flatMap_cons]
    | succ k =>
      rw [Nat.succ_mul, List.set_append_right _ _ (by rw [hx]; omega), hx, show k * m + m + j - m = k * m + j by omega, List.set_cons_succ, List.flatMap_cons]
      congr 1
      exact flat_set f m l (fun z hz => h z (by simp [hz])) k (by simpa using hk) j hj v y (by simpa using hy)

set_option maxRecDepth 100000 in
set_option maxHeartbeats 4000000 in
theorem weaveBack_walk (w : World) (pa : Option Addr) (l : List TextV) (n cap : Nat) (hl : TextsAt w pa l) (hn : l.length = n) :
    Calls Try.prog 4 #[.slice pa n cap] w fun e w' => e = .returned (.bool true) ∧ Below w.heap.size w w' := by
  have Hn := hid hn
  by_cases hlt : lightT l 100 = true
  · obtain ⟨h8, hm⟩ := lightT_spec hlt
    have Hlt := hid hlt
    have HM := hid hm
    rw [hn] at h8
    clear hn hlt hm
    go_enter Try.func4, Try.ntmps4
    go_wp2_with fail
    refine (lightT_any w pa l n cap 100 hl Hn.out).mono ?_
    rw [Hlt.out]
    rintro e w1 ⟨rfl, rfl⟩
    go_wp2_with fail
    refine (counters_any w pa l n cap hl Hn.out (by omega) (fun k h => Nat.le_trans (HM.out k h) (by omega))).mono ?_
    rintro e w2 ⟨v, cs, rfl, hcl, hcf, hco, hown, hB2⟩
    have hcok : ∀ x ∈ cs, CtrOk w2 x := fun x hx => (hco x hx).ok
    have hblk : 0 < n → ∃ gc c rest, v = .slice (some ⟨gc, 0, none⟩) n c ∧ w.heap.size ≤ gc ∧ Blk w2 gc (ctrsc cs ++ rest) tCtr := fun h0 => by
      obtain ⟨g, c, rest, e, _, hg, hb⟩ := owns_blk hown h0
      exact ⟨g, c, rest, e, hg, hb⟩
    have hvl : ∀ j, v.ownBlock = some j → w.heap.size ≤ j := fun j e => (World.ownsRow.lt hown j e).1
    have hcl18 : ∀ x ∈ cs, (ctrc x).length = 18 := fun x hx => ctrc_len (hcok x hx)
    obtain ⟨pc, cc, rfl, hcc, hat⟩ := ctrs_of_owns hown hcl hcok
    have Hcl := hid hcl
    have Hcf := hid hcf
    have Hco := hid hco
    have Hlen := hid (lens_for (hcl.trans Hn.out.symm) hcf)
    have H18 := hid hcl18
    have Hok := hid hcok
    clear hcl hcf hco hown hcl18 hcok
    go_wp2_with fail
    refine (ctr_any w2 pc cs n cc hat Hcl.out (by omega) (fun k h => by
      have := (Hcf.out k h (by rw [Hn.out, ← Hcl.out]; exact h)).b
      rw [this]; exact Nat.le_trans (HM.out k _) (by omega))).mono ?_
    rintro e w3 ⟨g, vs, rfl, hg3, hb3, hv3, hr3, hB3⟩
    obtain ⟨st, hst⟩ : ∃ st, stepsF 16 8 (lens cs) = st := ⟨_, rfl⟩
    rw [hst]
    have Hst := hid hst
    have Hv3 := hid hv3
    have hrows : ∀ j, j < n → vs.getD j undef = .slice (svA (vs.getD j undef)) (CF cs j).length (svC (vs.getD j undef)) ∧ (CF cs j).length ≤ svC (vs.getD j undef) := fun j hj => by
      obtain ⟨p, c, e, h1, _⟩ := (hr3.row j (by rw [hv3]; exact hj)).row
      rw [e]; exact ⟨rfl, h1⟩
    have Hrows := hid hrows
    have hblk3 : 0 < n → ∃ gc rest, pc = some ⟨gc, 0, none⟩ ∧ w.heap.size ≤ gc ∧ gc < w2.heap.size ∧ Blk w3 gc (ctrsc (newTo cs vs 0) ++ rest) tCtr := fun h0 => by
      obtain ⟨gc, c, rest, e, h1, h2⟩ := hblk h0
      injection e with e1
      exact ⟨gc, rest, e1, h1, h2.lt, by rw [newTo_zero]; exact h2.below hB3 h2.lt⟩
    have Hiv := hid (fun k j (h : j < (newTo cs vs k).length) => show (newTo cs vs k)[j].iv.length = 16 by
      have h' : j < cs.length := by rw [newTo_len] at h; exact h
      rw [newTo_get cs vs k j h' h]
      have := (Hok.out _ (List.getElem_mem h')).iv
      split <;> exact this)
    clear hst hv3 hat hrows hblk
    go_wp2_with fail
    go_loopw [7] (fun i wr => ∃ k : Nat, k ≤ n ∧ i = .int .i64 k ∧ w3.heap.size ≤ wr.heap.size ∧ wr.os = w3.os ∧ wr.tape = w3.tape ∧ wr.output = w3.output ∧ (∀ b, b < w3.heap.size → (Value.slice pc n cc).ownBlock ≠ some b → wr.heap[b]? = w3.heap[b]?) ∧
      (0 < n → ∃ gc rest, pc = some ⟨gc, 0, none⟩ ∧ w.heap.size ≤ gc ∧ gc < w2.heap.size ∧ Blk wr gc (ctrsc (newTo cs vs k) ++ rest) tCtr)) (fun i _ => n - (intOf i).toNat)
    case atStart => exact ⟨0, by omega, rfl, Nat.le_refl _, rfl, rfl, rfl, fun _ _ _ => rfl, hblk3⟩
    case round =>
      obtain ⟨k, hk, rfl, hsz, ho1, ho2, ho3, hag, hbk⟩ := hrel
      by_cases hlk : k < n
      · have q1 : (k : Int) < (n : Int) := by omega
        obtain ⟨gc, rest, rfl, hgc, hgc2, hb⟩ := hbk (by omega)
        have hgne : g ≠ gc := by omega
        have hb3' : Blk wr g vs tBytes := by
          unfold Blk at hb3 ⊢
          rw [hag g (Blk.lt hb3) (fun e => hgne (Option.some.inj (show some gc = some g from e)).symm)]; exact hb3
        have hkc : k < cs.length := by rw [Hcl.out]; exact hlk
        have hk' : k < (newTo cs vs k).length := by rw [newTo_len]; exact hkc
        have hl18 : ∀ x ∈ newTo cs vs k, (ctrc x).length = 18 := fun x hx => by
          obtain ⟨j, hj, rfl⟩ := List.getElem_of_mem hx
          exact ctrc_len' (Hiv.out k j hj)
        have hgk : (newTo cs vs k)[k] = cs[k] := by rw [newTo_get cs vs k k hkc hk', if_neg (Nat.lt_irrefl _)]
        have hok := Hok.out _ (List.getElem_mem hkc)
        have hbl : k * 18 + 17 < (ctrsc (newTo cs vs k)).length := by
          unfold ctrsc
          rw [flat_len _ 18 _ hl18, newTo_len]
          have := Nat.mul_le_mul_right 18 (Nat.succ_le_of_lt hkc)
          omega
        have c := hb.cell (k * 18 + 17)
        have f := hb.frozen (k * 18 + 17)
        rw [List.getElem?_append_left hbl] at c
        unfold ctrsc at c
        rw [flat_get _ 18 _ hl18 k hk' 17 (by omega), hgk, (ctrc_at hok).2] at c
        have cx := hb3'.cell k
        rw [show vs[k]? = some (vs.getD k undef) by simp [List.getD, Hv3.out, hlk], (Hrows.out k hlk).1] at cx
        have hst2 : (ctrsc (newTo cs vs k) ++ rest).set (k * 18 + 17) (.slice (svA (vs.getD k undef)) (CF cs k).length (svC (vs.getD k undef))) = ctrsc (newTo cs vs (k + 1)) ++ rest := by
          rw [List.set_append_left _ _ hbl]
          congr 1
          unfold ctrsc
          rw [flat_set _ 18 _ hl18 k hk' 17 (by omega) _ (newC cs vs cs[k] k) (by rw [hgk]; exact ctrc_set _ _ _ _ hok.iv), newTo_set cs vs k hkc]
        generalize svA (vs.getD k undef) = pk at cx hst2
        generalize svC (vs.getD k undef) = ck at cx hst2
        generalize (CF cs k).length = lk at cx hst2
        generalize cs[k].pa = p0 at c
        generalize cs[k].b.length = b0 at c
        generalize cs[k].cap = c0 at c
        have hbn := hb.set (k * 18 + 17) (.slice pk lk ck)
        rw [hst2] at hbn
        have hsz' : w3.heap.size ≤ (wr.setCell ⟨gc, k * 18 + 17, none⟩ (.slice pk lk ck)).heap.size := by simpa [World.setCell] using hsz
        have hag' : ∀ b, b < w3.heap.size → (Value.slice (some ⟨gc, 0, none⟩) n cc).ownBlock ≠ some b → (wr.setCell ⟨gc, k * 18 + 17, none⟩ (.slice pk lk ck)).heap[b]? = w3.heap[b]? := fun b hb hne => by
          rw [Below.heap_setCell _ _ _ _ (by intro e; exact hne (by rw [e]; rfl))]; exact hag b hb hne
        have Hag := hid hag'
        clear hag hag' hb hbk hst2 hgk hl18 hok hbl hk' hblk3
        go_wp2_with fail
        go_roundw
        case rel => exact ⟨k + 1, by omega, by go_num, hsz', ho1, ho2, ho3, Hag.out, fun _ => ⟨gc, rest, rfl, hgc, hgc2, hbn⟩⟩
        case measure => (simp [intOf]; try omega)
      · obtain rfl : k = n := by omega
        have q1 : ¬ ((k : Int) < (k : Int)) := by omega
        have hB23 := hB2.trans (hB3.mono hB2.size)
        have hB3r : Below w.heap.size w3 wr := ⟨ho1, ho2, ho3, hsz, fun b hb => hag b (by have := hB23.size; omega) (fun e => by have := hvl b e; omega)⟩
        have hBr := hB23.trans hB3r
        have hcf2 : ∀ j (h : j < (newTo cs vs k).length) (h' : j < l.length), (newTo cs vs k)[j].b = xk (enc (rkT l[j])) l[j].iv 0 l[j].b ∧ (newTo cs vs k)[j].rk = rkT l[j] ∧ (newTo cs vs k)[j].iv = l[j].iv := fun j h h' => by
          have hjc : j < cs.length := by rw [newTo_len] at h; exact h
          rw [newTo_get cs vs k j hjc h, if_pos (by rw [Hcl.out] at hjc; exact hjc)]
          exact ⟨CF_for Hcf.out j hjc h', (Hcf.out j hjc h').rk, (Hcf.out j hjc h').iv⟩
        have hat2 : CtrsAt wr pc (newTo cs vs k) := by
          rcases Nat.eq_zero_or_pos k with h0 | h0
          · intro j hj; rw [newTo_len, Hcl.out] at hj; omega
          · obtain ⟨gc, rest, rfl, hgc, hgc2, hb⟩ := hbk h0
            have hC : Chg w3.heap.size [gc] w3 wr := ⟨ho1, ho2, ho3, hsz, fun b hb hne => hag b hb (by intro e; cases e; simp at hne)⟩
            obtain ⟨gc2, rest2, e2, _, _, hb3c⟩ := hblk3 h0
            cases e2
            have hrr := hr3.chg hC (Nat.le_refl _) (fun b hb => by obtain rfl := List.mem_singleton.1 hb; exact ⟨_, tCtr, by decide, hb3c⟩)
            refine ctrs_of_blk hb (fun x hx => ?_)
            obtain ⟨j, hj, rfl⟩ := List.getElem_of_mem hx
            have hjc : j < cs.length := by rw [newTo_len] at hj; exact hj
            have hjk : j < k := by rw [Hcl.out] at hjc; exact hjc
            have ho := Hco.out _ (List.getElem_mem hjc) wr (Nat.le_trans hB3.size hsz) (fun b hb hne => by rw [hag b (by have := hB3.size; omega) hne, hB3.block b hb])
            rw [newTo_get cs vs k j hjc hj, if_pos hjk]
            obtain ⟨p, c, e, h1, h2⟩ := (hrr.row j (by rw [Hv3.out]; exact hjk)).row
            refine ⟨ho.keys, ho.rounds, ho.iv, ?_, ?_⟩
            · show RowAt wr (svA (vs.getD j undef)) (CF cs j)
              rw [e]; exact h2
            · show (CF cs j).length ≤ svC (vs.getD j undef)
              rw [e]; exact h1
        have hlen2 : lens (newTo cs vs k) = lens cs := by
          unfold lens
          apply List.ext_getElem
          · simp [newTo_len]
          · intro j h1 h2
            simp only [List.length_map] at h1 h2
            simp only [List.getElem_map]
            have h3 : j < l.length := by rw [Hn.out, ← Hcl.out]; exact h2
            rw [(hcf2 j h1 h3).1, xk_len, (Hcf.out j h2 h3).b]
        have hnl : (newTo cs vs k).length = k := by rw [newTo_len]; exact Hcl.out
        have hm2 : ∀ j (h : j < (newTo cs vs k).length), (newTo cs vs k)[j].b.length ≤ 1000 := fun j h => by
          have h3 : j < l.length := by rw [Hn.out, ← hnl]; exact h
          rw [(hcf2 j h h3).1, xk_len]
          exact Nat.le_trans (HM.out j h3) (by omega)
        obtain ⟨D, hD⟩ : ∃ D, newTo cs vs k = D := ⟨_, rfl⟩
        rw [hD] at hcf2 hat2 hlen2 hnl hm2
        have Hcf2 := hid hcf2
        have Hlen2 := hid hlen2
        have Hnl := hid hnl
        have Hm2 := hid hm2
        have hlr := hl.below hBr
        clear hcf2 hlen2 hnl hm2 hag hbk hD hblk3 hB3r hB23
        go_wp2_with fail
        refine (ctr_any wr pc D k cc hat2 Hnl.out (by omega) Hm2.out).mono ?_
        rintro e w4 ⟨g4, v4, rfl, hg4, hb4, hv4, hr4, hB4⟩
        rw [Hlen2.out, Hst.out]
        have hBw := hBr.trans (hB4.mono hBr.size)
        have hl4 := hlr.below hB4
        have Hv4 := hid hv4
        clear hv4 hat2 hB4 hBr hlr
        go_wp2_with fail
        obtain ⟨wy, hwy⟩ : ∃ wy, wy = wr := ⟨wr, rfl⟩
        subst hwy
        go_loopw [10] (fun i wx => ∃ j : Nat, j ≤ k ∧ i = .int .i64 j ∧ Below w4.heap.size w4 wx) (fun i _ => k - (intOf i).toNat)
        case atStart => exact ⟨0, by omega, rfl, Below.refl _ _⟩
        case round =>
          obtain ⟨j, hj, rfl, hB⟩ := hrel
          have hBx := hBw.trans (hB.mono hBw.size)
          by_cases hlj : j < k
          · have q2 : (j : Int) < (k : Int) := by omega
            have hjl : j < l.length := by rw [Hn.out]; exact hlj
            have hjD : j < D.length := by rw [Hnl.out]; exact hlj
            have hCF : CF D j = l[j].b := by
              unfold CF
              rw [List.getElem?_eq_getElem hjD]
              simp only
              obtain ⟨e1, e2, e3⟩ := Hcf2.out j hjD hjl
              rw [e1, e2, e3, xk_xk]
            have hrow := (hr4.below hB).row j (by rw [Hv4.out]; exact hlj)
            rw [hCF] at hrow
            have hh := (hl4.below hB) j hjl
            have hbj := hb4.below hB hb4.lt
            have hvj : v4[j]? = some (v4.getD j undef) := by simp [List.getD, Hv4.out, hlj]
            generalize hx : l[j] = x at hh hrow hCF
            obtain ⟨tk, b, o, rfl, hbb, hc⟩ := hh
            obtain ⟨px, cx, hpx, _, hrX⟩ := hrow.row
            rw [hpx] at hvj
            have HT := hid (fun w' (h : Below wr.heap.size wr w') => textc_at tk h hbb hc)
            have CX := hid (fun w' (h : Below wr.heap.size wr w') => ((hbj.below h hbj.lt).cell j).trans hvj)
            obtain ⟨X, hX⟩ : ∃ X, x.b = X := ⟨_, rfl⟩
            rw [hX] at CX hrX HT
            obtain ⟨Xl, hXl⟩ : ∃ p, X.length = p := ⟨_, rfl⟩
            obtain ⟨pk, hpk⟩ : ∃ p, x.pa = p := ⟨_, rfl⟩
            obtain ⟨ck, hck⟩ : ∃ p, x.cap = p := ⟨_, rfl⟩
            rw [hXl] at CX HT
            rw [hpk, hck] at HT
            have hxr := tk.row
            rw [hX, hpk] at hxr
            have HXl := hid hXl
            clear hx hX hXl hpk hck hc tk hvj hpx hCF hrow
            go_upto_region 19 with fail
            have S0 : Below wr.heap.size wr wr.drew := (Below.refl _ _).drew
            try simp only [Act.put]
            refine tkR (fun w' => Below wr.heap.size wr w') [] (by kernel_rfl) (fun c a d v w h => by cases d <;> exact h) (S0) (fun hPF hHeld => ?_)
            refine tkB 0 (.some 66) _ _ rfl rfl (by kernel_rfl) (by kernel_rfl) (by kernel_rfl) (by kernel_rfl) hPF rfl (fun w' => by (go_simp; try with_reducible rfl)) hHeld (fun hHeld => ?_)
            simp only [Act.put, List.setIfInBounds_toArray, List.set_cons_zero, List.set_cons_succ]
            refine tkB 1 (.some 67) _ _ rfl rfl (by kernel_rfl) (by kernel_rfl) (by kernel_rfl) (by kernel_rfl) hPF rfl (fun w' => by (go_simp; try with_reducible rfl)) hHeld (fun hHeld => ?_)
            simp only [Act.put, List.setIfInBounds_toArray, List.set_cons_zero, List.set_cons_succ]
            refine tkB 2 (.some 68) _ _ rfl rfl (by kernel_rfl) (by kernel_rfl) (by kernel_rfl) (by kernel_rfl) hPF rfl (fun w' => by (go_simp; try with_reducible rfl)) hHeld (fun hHeld => ?_)
            simp only [Act.put, List.setIfInBounds_toArray, List.set_cons_zero, List.set_cons_succ]
            refine tkA 3 (.some 69) _ _ rfl rfl (by kernel_rfl) (by kernel_rfl) (by kernel_rfl) (by kernel_rfl) (by kernel_rfl) hPF rfl (fun w' hw' => by (have h1 := CX.out _ hw'; go_simp; try with_reducible rfl)) hHeld (fun hHeld => ?_)
            simp only [Act.put, List.setIfInBounds_toArray, List.set_cons_zero, List.set_cons_succ]
            refine tkA 4 (.some 70) _ _ rfl rfl (by kernel_rfl) (by kernel_rfl) (by kernel_rfl) (by kernel_rfl) (by kernel_rfl) hPF rfl (fun w' hw' => by (have h1 := str_row (n := Xl) (c := cx) (hrX.below hw') HXl.out; go_simp; try with_reducible rfl)) hHeld (fun hHeld => ?_)
            simp only [Act.put, List.setIfInBounds_toArray, List.set_cons_zero, List.set_cons_succ]
            refine tkB 5 (.some 71) _ _ rfl rfl (by kernel_rfl) (by kernel_rfl) (by kernel_rfl) (by kernel_rfl) hPF rfl (fun w' => by (go_simp; try with_reducible rfl)) hHeld (fun hHeld => ?_)
            simp only [Act.put, List.setIfInBounds_toArray, List.set_cons_zero, List.set_cons_succ]
            refine tkB 6 (.some 72) _ _ rfl rfl (by kernel_rfl) (by kernel_rfl) (by kernel_rfl) (by kernel_rfl) hPF rfl (fun w' => by (go_simp; try with_reducible rfl)) hHeld (fun hHeld => ?_)
            simp only [Act.put, List.setIfInBounds_toArray, List.set_cons_zero, List.set_cons_succ]
            refine tkB 7 (.some 73) _ _ rfl rfl (by kernel_rfl) (by kernel_rfl) (by kernel_rfl) (by kernel_rfl) hPF rfl (fun w' => by (go_simp; try with_reducible rfl)) hHeld (fun hHeld => ?_)
            simp only [Act.put, List.setIfInBounds_toArray, List.set_cons_zero, List.set_cons_succ]
            refine tkB 8 (.some 74) _ _ rfl rfl (by kernel_rfl) (by kernel_rfl) (by kernel_rfl) (by kernel_rfl) hPF rfl (fun w' => by (go_simp; try with_reducible rfl)) hHeld (fun hHeld => ?_)
            simp only [Act.put, List.setIfInBounds_toArray, List.set_cons_zero, List.set_cons_succ]
            refine tkA 9 (.some 75) _ _ rfl rfl (by kernel_rfl) (by kernel_rfl) (by kernel_rfl) (by kernel_rfl) (by kernel_rfl) hPF rfl (fun w' hw' => by (have h1 := (HT.out _ hw').2.2.2; go_simp; try with_reducible rfl)) hHeld (fun hHeld => ?_)
            simp only [Act.put, List.setIfInBounds_toArray, List.set_cons_zero, List.set_cons_succ]
            refine tkA 10 (.some 76) _ _ rfl rfl (by kernel_rfl) (by kernel_rfl) (by kernel_rfl) (by kernel_rfl) (by kernel_rfl) hPF rfl (fun w' hw' => by (have h1 := str_row (n := Xl) (c := ck) (hxr.below hw') HXl.out; go_simp; try with_reducible rfl)) hHeld (fun hHeld => ?_)
            simp only [Act.put, List.setIfInBounds_toArray, List.set_cons_zero, List.set_cons_succ]
            refine tkA 11 (.some 77) _ (.bool false) rfl rfl (by kernel_rfl) (by kernel_rfl) (by kernel_rfl) (by kernel_rfl) (by kernel_rfl) hPF rfl (fun w' hw' => by (go_simp)) hHeld (fun hHeld => ?_)
            simp only [Act.put, List.setIfInBounds_toArray, List.set_cons_zero, List.set_cons_succ]
            refine tkD (by kernel_rfl) ?_ _
            have hBy := hB.drew
            clear hB hBx
            go_wp2_with fail
            go_roundw
            case rel => exact ⟨j + 1, by omega, by go_num, hBy⟩
            case measure => (simp [intOf]; try omega)
          · obtain rfl : j = k := by omega
            have q2 : ¬ ((j : Int) < (j : Int)) := by omega
            go_wp2_with fail
            refine (awake14_any wr).mono ?_
            rintro e w9 ⟨rfl, hB9⟩
            have hBz := hBx.trans (hB9.mono hBx.size)
            go_wp2_with fail
            go_ret
            exact ⟨rfl, hBz⟩
  · have hlt : lightT l 100 = false := by simpa using hlt
    have Hlt := hid hlt
    clear hlt hn
    go_enter Try.func4, Try.ntmps4
    go_wp2_with fail
    refine (lightT_any w pa l n cap 100 hl Hn.out).mono ?_
    rw [Hlt.out]
    rintro e w1 ⟨rfl, rfl⟩
    go_wp2_with fail
    go_ret
    exact ⟨rfl, Below.refl _ _⟩
end Go.Proofs.Ytgellbapbphnlaa
