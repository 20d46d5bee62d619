/- weave and chacha: several texts in one -/
import Derived.Test.YtgellbapbphnlaaXc
import Derived.Test.YtgellbapbphnlaaSs
import Derived.Test.YtgellbapbphnlaaW8
/- weave: a text's nonce -/
namespace Go.Proofs.Ytgellbapbphnlaa
open Go.RowKit

abbrev tA12 : TypeId := 50
def z12 : List UInt8 := List.replicate 12 0
theorem size12 : (Try.prog.info? 50).map (·.size) = some 12 := by kernel_rfl
theorem textc_ivc {w : World} {x : TextV} (h : TextOk w x) (k : Nat) (hk : k < 16) : (textc x)[33 + k]? = some (.int .u8 (bv (x.iv.getD k 0))) := by
  unfold textc
  rw [List.getElem?_append_left (by simp [bys, h.K, h.iv]; omega), List.getElem?_append_right (by simp [bys, h.K])]
  have : 33 + k - (bys x.K ++ [Value.bool x.long]).length = k := by simp [bys, h.K]
  rw [this, bys_get _ _ (by rw [h.iv]; exact hk)]

set_option maxRecDepth 100000 in
set_option maxHeartbeats 2000000 in
theorem nonceT_any (w wx : World) (x : TextV) (hx : TextOk wx x) :
    Calls Try.prog 25 #[.agg (textc x).toArray] w fun e w' => e = .returned (.agg (bys (x.iv.take 12)).toArray) ∧ Below w.heap.size w w' := by
  have h0 : Blk (((w.alloc (.cells (textc x).toArray tText)).alloc (.cells (bys z12).toArray tA12)).alloc (.cells (bys z12).toArray tA12)) w.heap.size (textc x) tText := ((Blk.new w (textc x) tText).alloc _).alloc _
  have h1 : Blk (((w.alloc (.cells (textc x).toArray tText)).alloc (.cells (bys z12).toArray tA12)).alloc (.cells (bys z12).toArray tA12)) (w.heap.size + 1) (bys z12) tA12 := by
    have := (Blk.new (w.alloc (.cells (textc x).toArray tText)) (bys z12) tA12).alloc (.cells (bys z12).toArray tA12)
    simp only [World.size_alloc] at this; exact this
  have h2 : Blk (((w.alloc (.cells (textc x).toArray tText)).alloc (.cells (bys z12).toArray tA12)).alloc (.cells (bys z12).toArray tA12)) (w.heap.size + 1 + 1) (bys z12) tA12 := by
    have := Blk.new ((w.alloc (.cells (textc x).toArray tText)).alloc (.cells (bys z12).toArray tA12)) (bys z12) tA12
    simp only [World.size_alloc] at this; exact this
  have hB0 : Below w.heap.size w (((w.alloc (.cells (textc x).toArray tText)).alloc (.cells (bys z12).toArray tA12)).alloc (.cells (bys z12).toArray tA12)) := (((Below.refl _ _).alloc (Nat.le_refl _) _).alloc (by simp) _).alloc (by simp; omega) _
  have hsz : ((((w.alloc (.cells (textc x).toArray tText)).alloc (.cells (bys z12).toArray tA12)).alloc (.cells (bys z12).toArray tA12))).heap.size = w.heap.size + 3 := by simp
  have hc := fun k hk => textc_ivc hx k hk
  have hil := hx.iv
  obtain ⟨cs, hcs⟩ : ∃ cs, textc x = cs := ⟨_, rfl⟩
  obtain ⟨iv, hiv⟩ : ∃ iv, x.iv = iv := ⟨_, rfl⟩
  rw [hcs] at h0 h1 h2 hB0 hsz hc ⊢
  rw [hiv] at hc hil ⊢
  have Hc := hid hc
  have Hil := hid hil
  have Hsz := hid hsz
  clear hx hcs hiv hc hil hsz
  go_enter Try.func25, Try.ntmps25
  go_wp2_with fail
  change Code.wp _ _ _ _ (((w.alloc (.cells cs.toArray tText)).alloc (.cells (bys z12).toArray tA12)).alloc (.cells (bys z12).toArray tA12))
  generalize ((w.alloc (.cells cs.toArray tText)).alloc (.cells (bys z12).toArray tA12)).alloc (.cells (bys z12).toArray tA12) = W at *
  have hsr : (Try.prog.info? 50).map (·.size) = some (bys (iv.take 12)).length := by rw [size12, bys_length, List.length_take, Hil.out]; rfl
  go_loopw [4] (fun i wr => ∃ k : Nat, k ≤ 12 ∧ i = .int .i64 k ∧ Blk wr (w.heap.size + 1 + 1) (bys (iv.take k ++ List.replicate (12 - k) 0)) tA12 ∧ Chg (w.heap.size + 3) [w.heap.size + 1 + 1] W wr) (fun i _ => 12 - (intOf i).toNat)
  case atStart => exact ⟨0, by omega, rfl, h2, Chg.refl _ _ _⟩
  case round =>
    obtain ⟨k, hk, rfl, hb, hC⟩ := hrel
    clear h2
    have hx0 := h0.chg hC (by omega) (by simp; omega)
    have hx1 := h1.chg hC (by omega) (by simp)
    by_cases hlt : k < 12
    · have q1 : (k : Int) < 12 := by omega
      have c := hx0.cell (33 + k)
      rw [Hc.out k (by omega)] at c
      have d := hb.cell k
      rw [bys_get _ _ (by rw [List.length_append, List.length_take, List.length_replicate, Hil.out]; omega)] at d
      have hls : (iv.take k ++ List.replicate (12 - k) 0).set k (iv.getD k 0) = iv.take (k + 1) ++ List.replicate (12 - (k + 1)) 0 := by
        have hki : k < iv.length := by rw [Hil.out]; omega
        rw [List.set_append_right _ _ (by rw [List.length_take]; omega), List.take_add_one, List.getElem?_eq_getElem hki, List.length_take, show k - min k iv.length = 0 by omega, show 12 - k = (12 - (k + 1)) + 1 by omega, List.replicate_succ, List.set_cons_zero, List.append_assoc]
        simp [List.getD, hki]
      obtain ⟨y, hy⟩ : ∃ y, iv.getD k 0 = y := ⟨_, rfl⟩
      rw [hy] at c hls
      generalize List.getD (iv.take k ++ List.replicate (12 - k) 0) k 0 = y0 at d
      have Hls := hid hls
      have fk := hb.frozen k
      clear hy hls
      go_wp2_with fail

      go_roundw
      case rel =>
        refine ⟨k + 1, by omega, by go_num, ?_, hC.setCell (p := ⟨w.heap.size + 1 + 1, k, none⟩) (.inl (by simp)) _⟩
        rw [← Hls.out, ← bys_set]
        exact hb.set k _
      case measure => (simp [intOf]; try omega)
    · have hke : k = 12 := by omega
      have q1 : ¬ ((k : Int) < 12) := by omega
      subst hke
      rw [show 12 - 12 = 0 from rfl, List.replicate_zero, List.append_nil] at hb
      go_wp2_with (first | (refine wpList_load_mid rfl 50 (.tmp 3) rfl (w.heap.size + 1 + 1) 0 rfl (bys (iv.take 12)) _ hb.whole Try.underlying50 rfl hsr ?_) | (refine wpList_store_mid rfl 50 (.tmp 2) (.tmp 15) rfl (w.heap.size + 1) 0 (bys (iv.take 12)).toArray rfl rfl (hx1.there 0 _ (by rw [List.size_toArray, bys_length, bys_length, List.length_take, Hil.out]; decide)) (by rw [size12, List.size_toArray, bys_length, List.length_take, Hil.out]; rfl) (all_oneCell_toArray (bys_one _)) ?_))
      have g1 := hx1.setCells (bys (iv.take 12)) 0 (by rw [bys_length, bys_length, List.length_take, Hil.out]; decide)
      rw [splice_whole _ _ (by rw [bys_length, bys_length, List.length_take, Hil.out]; rfl)] at g1
      refine bodyPost_ret (v := .agg (bys (iv.take 12)).toArray) (results_cell_row (P := Try.prog) (p := 2) (ty := 50) rfl _ _ (w.heap.size + 1) tA12 _ (0, 0) _ rfl g1 Try.underlying50 rfl hsr) rfl ⟨rfl, ?_⟩
      exact hB0.trans ((hC.below (M := w.heap.size) (by omega) (fun j hj => by simp at hj; omega)).trans (((Chg.refl w.heap.size [] wr).setCells (b := w.heap.size + 1) (.inr (Nat.le_succ _)) (bys (iv.take 12)) 0).below (Nat.le_refl _) (by simp)))
end Go.Proofs.Ytgellbapbphnlaa

/- weave: texts made ready for ChaCha20 -/
namespace Go.Proofs.Ytgellbapbphnlaa
open Go.RowKit

structure StrFor (x : StrV) (t : TextV) : Prop where
  key : x.key = t.K
  nonce : x.nonce = t.iv.take 12
  n : x.n = UInt32.ofNat t.n
  b : x.b = t.b
/-- A stream's bytes lie in a row of their own. -/
structure StrOwn (base : Nat) (w : World) (x : StrV) : Prop where
  key : x.key.length = 32
  nonce : x.nonce.length = 12
  own : OwnR base w (.slice x.pa x.b.length x.cap) x.b
theorem StrOwn.ok {base : Nat} {w : World} {x : StrV} (h : StrOwn base w x) : StrOk w x := by
  obtain ⟨p, c, e, h1, h2⟩ := h.own.row
  injection e with e1 _ e3
  exact ⟨h.key, h.nonce, e1 ▸ h2, e3 ▸ h1⟩
theorem StrOwn.below {base : Nat} {w w' : World} {x : StrV} (h : StrOwn base w x) (hB : Below w.heap.size w w') : StrOwn base w' x := ⟨h.key, h.nonce, h.own.below hB⟩
theorem StrOwn.kept {base : Nat} {w w' : World} {x : StrV} {row : Option Nat} (h : StrOwn base w x) (hg : w.grownBy w' row) (hr : ∀ j, row = some j → ∃ cs, Blk w j cs tStr) : StrOwn base w' x := by
  refine ⟨h.key, h.nonce, h.own.kept hg ?_⟩
  cases hv : (Value.slice x.pa x.b.length x.cap).ownBlock with
  | none => exact .inr rfl
  | some j =>
    refine .inl (fun e => ?_)
    obtain ⟨cs, h1⟩ := hr j e.symm
    obtain ⟨cs2, h2⟩ := h.own.typ j hv
    exact absurd rfl (h1.ne h2 (by decide))
def stcs (l : List StrV) : List Value := l.flatMap stc
theorem infoStr : (Try.prog.info? tStr).map (fun i => (i.zero, i.size, i.bytes)) = some (some (.agg stc0.toArray), 46, 72) := by kernel_rfl
theorem underStrs : Try.prog.underlying 48 = some (.slice tStr) := by kernel_rfl
theorem textc_K {w : World} {x : TextV} {b o : Nat} (h : w.rangeAt b o (textc x)) : w.rangeAt b o (bys x.K) := by
  have := rangeAt_part (A := []) (X := bys x.K) (C := [.bool x.long] ++ bys x.iv ++ [.int .u32 x.n, .slice x.pa x.b.length x.cap]) (w := w) (b := b) (o := o) (by
    rw [List.nil_append]
    unfold textc at h
    simpa [List.append_assoc] using h)
  simpa using this

set_option maxRecDepth 100000 in
set_option maxHeartbeats 4000000 in
theorem streams_any (w : World) (pa : Option Addr) (l : List TextV) (n cap : Nat) (hl : TextsAt w pa l) (hn : l.length = n) (h9 : n ≤ 1000) (hm : ∀ k (h : k < l.length), l[k].b.length ≤ 1000) :
    Calls Try.prog 24 #[.slice pa n cap] w fun e w' => ∃ v ss, e = .returned v ∧ ss.length = n ∧ (∀ j (h : j < ss.length) (h' : j < l.length), StrFor ss[j] l[j]) ∧ (∀ x ∈ ss, StrOwn w.heap.size w' x) ∧ w'.ownsRow w.heap.size tStr 46 v n (stcs ss) ∧ Below w.heap.size w w' := by
  obtain ⟨i0, hi0, hz0, hs0, hb0⟩ := info_parts infoStr
  have Hi0 := hid hi0
  have Hz0 := hid hz0
  have Hs0 := hid hs0
  have Hb0 := hid hb0
  have Hn := hid hn
  have HM := hid hm
  clear hi0 hz0 hs0 hb0 hn hm
  go_enter Try.func24, Try.ntmps24
  go_wp2_with fail
  go_loopw [3, 4] (fun v i wr => ∃ (k : Nat) (ss : List StrV), k ≤ n ∧ i = .int .i64 k ∧ ss.length = k ∧ (∀ j (h : j < ss.length) (h' : j < l.length), StrFor ss[j] l[j]) ∧ (∀ x ∈ ss, StrOwn w.heap.size wr x) ∧ wr.ownsRow w.heap.size tStr 46 v k (stcs ss) ∧ Below w.heap.size w wr) (fun _ i _ => n - (intOf i).toNat)
  case atStart => exact ⟨0, [], by omega, rfl, rfl, fun j h => absurd h (by simp), fun x h => absurd h (by simp), World.ownsRow_nil _ _ _ _, Below.refl _ _⟩
  case round =>
    obtain ⟨k, ss, hk, rfl, hcl, hcf, hco, hown, hB⟩ := hrel
    have Hcl := hid hcl
    have Hcf := hid hcf
    have Hco := hid hco
    have Hown := hid hown
    clear hcl hcf hco hown
    by_cases hlt : k < n
    · have hkl : k < l.length := by rw [Hn.out]; exact hlt
      have hh := hl.below hB k hkl
      have hxm := HM.out k hkl
      generalize hx : l[k] = x at hh hxm
      have Hx := hid hx
      obtain ⟨tk, b, o, rfl, hb, hc⟩ := hh
      have hszT : (Try.prog.info? 39).map (·.size) = some (textc x).length := by rw [sizeText, textc_len tk]
      have hszK : (Try.prog.info? 35).map (·.size) = some (bys x.K).length := by rw [size32b, bys_length, tk.K]
      have HT := hid (fun w' (h : Below wr.heap.size wr w') => show TextOk w' x ∧ w'.rangeAt b (o + k * 51) (textc x) ∧ w'.rangeAt b (o + k * 51) (bys x.K) ∧ w'.cell? ⟨b, o + k * 51 + 49, none⟩ = some (.int .u32 (wv (UInt32.ofNat x.n))) ∧ w'.cell? ⟨b, o + k * 51 + 50, none⟩ = some (.slice x.pa x.b.length x.cap) by
        have hx' : TextOk w' x := ⟨tk.K, tk.iv, tk.n, tk.row.below h, tk.cap⟩
        have hc' : ∀ j, j < 51 → w'.cell? ⟨b, o + k * 51 + j, none⟩ = (textc x)[j]? := fun j hj => by
          rw [← hc j hj]; simp [World.cell?, h.block b hb]
        exact ⟨hx', textc_range hx' hc', textc_K (textc_range hx' hc'), by rw [hc' 49 (by omega), textc_n hx', w_lit _ hx'.n], by rw [hc' 50 (by omega), textc_slice hx']⟩)
      have Tk := hid tk
      obtain ⟨pk, hpk⟩ : ∃ p, x.pa = p := ⟨_, rfl⟩
      obtain ⟨bk, hbk⟩ : ∃ p, x.b.length = p := ⟨_, rfl⟩
      obtain ⟨ck, hck⟩ : ∃ p, x.cap = p := ⟨_, rfl⟩
      rw [hpk, hbk, hck] at HT
      rw [hbk] at hxm
      have Hxm := hid hxm
      have hv12 : ∃ v0 v1 v2 v3 v4 v5 v6 v7 v8 v9 v10 v11 : UInt8, x.iv.take 12 = [v0, v1, v2, v3, v4, v5, v6, v7, v8, v9, v10, v11] := by
        have h : (x.iv.take 12).length = 12 := by rw [List.length_take, Tk.out.iv]; rfl
        match x.iv.take 12, h with
        | [v0, v1, v2, v3, v4, v5, v6, v7, v8, v9, v10, v11], _ => exact ⟨v0, v1, v2, v3, v4, v5, v6, v7, v8, v9, v10, v11, rfl⟩
      obtain ⟨v0, v1, v2, v3, v4, v5, v6, v7, v8, v9, v10, v11, hv12⟩ := hv12
      have hv12 : bys (x.iv.take 12) = [B v0, B v1, B v2, B v3, B v4, B v5, B v6, B v7, B v8, B v9, B v10, B v11] := by rw [hv12]; rfl
      have Hv12 := hid hv12
      have hk32 : ∃ k0 k1 k2 k3 k4 k5 k6 k7 k8 k9 k10 k11 k12 k13 k14 k15 k16 k17 k18 k19 k20 k21 k22 k23 k24 k25 k26 k27 k28 k29 k30 k31 : UInt8, x.K = [k0, k1, k2, k3, k4, k5, k6, k7, k8, k9, k10, k11, k12, k13, k14, k15, k16, k17, k18, k19, k20, k21, k22, k23, k24, k25, k26, k27, k28, k29, k30, k31] := by
        have h := Tk.out.K
        match x.K, h with
        | [k0, k1, k2, k3, k4, k5, k6, k7, k8, k9, k10, k11, k12, k13, k14, k15, k16, k17, k18, k19, k20, k21, k22, k23, k24, k25, k26, k27, k28, k29, k30, k31], _ => exact ⟨k0, k1, k2, k3, k4, k5, k6, k7, k8, k9, k10, k11, k12, k13, k14, k15, k16, k17, k18, k19, k20, k21, k22, k23, k24, k25, k26, k27, k28, k29, k30, k31, rfl⟩
      obtain ⟨k0, k1, k2, k3, k4, k5, k6, k7, k8, k9, k10, k11, k12, k13, k14, k15, k16, k17, k18, k19, k20, k21, k22, k23, k24, k25, k26, k27, k28, k29, k30, k31, hk32⟩ := hk32
      have hk32 : bys x.K = [B k0, B k1, B k2, B k3, B k4, B k5, B k6, B k7, B k8, B k9, B k10, B k11, B k12, B k13, B k14, B k15, B k16, B k17, B k18, B k19, B k20, B k21, B k22, B k23, B k24, B k25, B k26, B k27, B k28, B k29, B k30, B k31] := by rw [hk32]; rfl
      rw [hk32] at HT hszK
      have HK32 := hid hk32
      have Hpk := hid hpk
      have Hbk := hid hbk
      have q1 : (k : Int) < (n : Int) := by omega
      clear hx tk hc hxm hpk hbk hck hv12 hk32
      go_upto_region 5 with fail
      have S0 : Below wr.heap.size wr wr.drew := (Below.refl _ _).drew
      try simp only [Act.put]
      refine tkR (fun w' => Below wr.heap.size wr w') [25] (by kernel_rfl) (fun c a d v w h => by cases d <;> exact h) (S0) (fun hPF hHeld => ?_)
      refine tkB 0 (.some 11) _ _ rfl rfl (by kernel_rfl) (by kernel_rfl) (by kernel_rfl) (by kernel_rfl) hPF rfl (fun w' => by (go_simp; try with_reducible rfl)) hHeld (fun hHeld => ?_)
      simp only [Act.put, List.setIfInBounds_toArray, List.set_cons_zero, List.set_cons_succ]
      refine tkB 1 (.some 12) _ _ rfl rfl (by kernel_rfl) (by kernel_rfl) (by kernel_rfl) (by kernel_rfl) hPF rfl (fun w' => by (go_simp; try with_reducible rfl)) hHeld (fun hHeld => ?_)
      simp only [Act.put, List.setIfInBounds_toArray, List.set_cons_zero, List.set_cons_succ]
      refine tkB 2 (.some 13) _ _ rfl rfl (by kernel_rfl) (by kernel_rfl) (by kernel_rfl) (by kernel_rfl) hPF rfl (fun w' => by (go_simp; try with_reducible rfl)) hHeld (fun hHeld => ?_)
      simp only [Act.put, List.setIfInBounds_toArray, List.set_cons_zero, List.set_cons_succ]
      refine tkB 3 (.some 14) _ _ rfl rfl (by kernel_rfl) (by kernel_rfl) (by kernel_rfl) (by kernel_rfl) hPF rfl (fun w' => by (go_simp; try with_reducible rfl)) hHeld (fun hHeld => ?_)
      simp only [Act.put, List.setIfInBounds_toArray, List.set_cons_zero, List.set_cons_succ]
      refine tkB 4 (.some 15) _ _ rfl rfl (by kernel_rfl) (by kernel_rfl) (by kernel_rfl) (by kernel_rfl) hPF rfl (fun w' => by (go_simp; try with_reducible rfl)) hHeld (fun hHeld => ?_)
      simp only [Act.put, List.setIfInBounds_toArray, List.set_cons_zero, List.set_cons_succ]
      refine tkL 5 (.some 16) _ rfl rfl 35 (.tmp 15) rfl b (o + k * 51) [B k0, B k1, B k2, B k3, B k4, B k5, B k6, B k7, B k8, B k9, B k10, B k11, B k12, B k13, B k14, B k15, B k16, B k17, B k18, B k19, B k20, B k21, B k22, B k23, B k24, B k25, B k26, B k27, B k28, B k29, B k30, B k31] _ (by kernel_rfl) (by kernel_rfl) (by kernel_rfl) (by kernel_rfl) (by kernel_rfl) hPF rfl rfl (fun w' hw' => (HT.out _ hw').2.2.1) Try.underlying35 rfl hszK hHeld (fun hHeld => ?_)
      simp only [Act.put, List.setIfInBounds_toArray, List.set_cons_zero, List.set_cons_succ]
      refine tkB 6 (.some 17) _ _ rfl rfl (by kernel_rfl) (by kernel_rfl) (by kernel_rfl) (by kernel_rfl) hPF rfl (fun w' => by (go_simp; try with_reducible rfl)) hHeld (fun hHeld => ?_)
      simp only [Act.put, List.setIfInBounds_toArray, List.set_cons_zero, List.set_cons_succ]
      refine tkB 7 (.some 18) _ _ rfl rfl (by kernel_rfl) (by kernel_rfl) (by kernel_rfl) (by kernel_rfl) hPF rfl (fun w' => by (go_simp; try with_reducible rfl)) hHeld (fun hHeld => ?_)
      simp only [Act.put, List.setIfInBounds_toArray, List.set_cons_zero, List.set_cons_succ]
      refine tkB 8 (.some 19) _ _ rfl rfl (by kernel_rfl) (by kernel_rfl) (by kernel_rfl) (by kernel_rfl) hPF rfl (fun w' => by (go_simp; try with_reducible rfl)) hHeld (fun hHeld => ?_)
      simp only [Act.put, List.setIfInBounds_toArray, List.set_cons_zero, List.set_cons_succ]
      refine tkL 9 (.some 20) _ rfl rfl 39 (.tmp 19) rfl b (o + k * 51) (textc x) _ (by kernel_rfl) (by kernel_rfl) (by kernel_rfl) (by kernel_rfl) (by kernel_rfl) hPF rfl rfl (fun w' hw' => (HT.out _ hw').2.1) Try.underlying39 rfl hszT hHeld (fun hHeld => ?_)
      simp only [Act.put, List.setIfInBounds_toArray, List.set_cons_zero, List.set_cons_succ]
      refine tkB 11 (.some 22) _ _ rfl rfl (by kernel_rfl) (by kernel_rfl) (by kernel_rfl) (by kernel_rfl) hPF rfl (fun w' => by (go_simp; try with_reducible rfl)) hHeld (fun hHeld => ?_)
      simp only [Act.put, List.setIfInBounds_toArray, List.set_cons_zero, List.set_cons_succ]
      refine tkB 12 (.some 23) _ _ rfl rfl (by kernel_rfl) (by kernel_rfl) (by kernel_rfl) (by kernel_rfl) hPF rfl (fun w' => by (go_simp; try with_reducible rfl)) hHeld (fun hHeld => ?_)
      simp only [Act.put, List.setIfInBounds_toArray, List.set_cons_zero, List.set_cons_succ]
      refine tkB 13 (.some 24) _ _ rfl rfl (by kernel_rfl) (by kernel_rfl) (by kernel_rfl) (by kernel_rfl) hPF rfl (fun w' => by (go_simp; try with_reducible rfl)) hHeld (fun hHeld => ?_)
      simp only [Act.put, List.setIfInBounds_toArray, List.set_cons_zero, List.set_cons_succ]
      refine tkB 14 (.some 25) _ _ rfl rfl (by kernel_rfl) (by kernel_rfl) (by kernel_rfl) (by kernel_rfl) hPF rfl (fun w' => by (go_simp; try with_reducible rfl)) hHeld (fun hHeld => ?_)
      simp only [Act.put, List.setIfInBounds_toArray, List.set_cons_zero, List.set_cons_succ]
      refine tkA 15 (.some 26) _ _ rfl rfl (by kernel_rfl) (by kernel_rfl) (by kernel_rfl) (by kernel_rfl) (by kernel_rfl) hPF rfl (fun w' hw' => by (have h1 := (HT.out _ hw').2.2.2.1; go_simp; try with_reducible rfl)) hHeld (fun hHeld => ?_)
      simp only [Act.put, List.setIfInBounds_toArray, List.set_cons_zero, List.set_cons_succ]
      refine tkB 17 (.some 28) _ _ rfl rfl (by kernel_rfl) (by kernel_rfl) (by kernel_rfl) (by kernel_rfl) hPF rfl (fun w' => by (go_simp; try with_reducible rfl)) hHeld (fun hHeld => ?_)
      simp only [Act.put, List.setIfInBounds_toArray, List.set_cons_zero, List.set_cons_succ]
      refine tkB 18 (.some 29) _ _ rfl rfl (by kernel_rfl) (by kernel_rfl) (by kernel_rfl) (by kernel_rfl) hPF rfl (fun w' => by (go_simp; try with_reducible rfl)) hHeld (fun hHeld => ?_)
      simp only [Act.put, List.setIfInBounds_toArray, List.set_cons_zero, List.set_cons_succ]
      refine tkB 19 (.some 30) _ _ rfl rfl (by kernel_rfl) (by kernel_rfl) (by kernel_rfl) (by kernel_rfl) hPF rfl (fun w' => by (go_simp; try with_reducible rfl)) hHeld (fun hHeld => ?_)
      simp only [Act.put, List.setIfInBounds_toArray, List.set_cons_zero, List.set_cons_succ]
      refine tkB 20 (.some 31) _ _ rfl rfl (by kernel_rfl) (by kernel_rfl) (by kernel_rfl) (by kernel_rfl) hPF rfl (fun w' => by (go_simp; try with_reducible rfl)) hHeld (fun hHeld => ?_)
      simp only [Act.put, List.setIfInBounds_toArray, List.set_cons_zero, List.set_cons_succ]
      refine tkA 21 (.some 32) _ _ rfl rfl (by kernel_rfl) (by kernel_rfl) (by kernel_rfl) (by kernel_rfl) (by kernel_rfl) hPF rfl (fun w' hw' => by (have h1 := (HT.out _ hw').2.2.2.2; go_simp; try with_reducible rfl)) hHeld (fun hHeld => ?_)
      simp only [Act.put, List.setIfInBounds_toArray, List.set_cons_zero, List.set_cons_succ]
      have hS := hHeld (by kernel_rfl)
      refine tkW (rs := [10, 16]) (by kernel_rfl) (by simp) (AllK.cons (o := _) rfl (fun KC hKC => ?_) (AllK.cons (o := _) rfl (fun KC hKC => ?_) AllK.nil))
      ·
        go_simp
        refine (nonceT_any _ _ x Tk.out).mono ?_
        rw [Hv12.out]
        rintro e w10 ⟨rfl, hB10⟩
        have h10 := hS.trans (hB10.mono hS.size)
        clear hB10
        refine hKC.out _ _ (h10) (fun hHeld => ?_)
        clear hKC KC
        try simp only [Act.put, List.setIfInBounds_toArray, List.set_cons_zero, List.set_cons_succ]
        have hS := hHeld (by kernel_rfl)
        refine tkW (rs := [16]) (by kernel_rfl) (by simp) (AllK.cons (o := _) rfl (fun KC hKC => ?_) AllK.nil)
        go_simp
        change KC _ (World.alloc w10 (.cells #[] 5))
        have hmade : OwnR w10.heap.size (World.alloc w10 (.cells #[] 5)) (.slice (some ⟨w10.heap.size, 0, none⟩) 0 0) [] := OwnR.made w10
        have h16 := h10.alloc h10.size (.cells #[] 5)
        have hb16 : wr.heap.size ≤ w10.heap.size := h10.size
        generalize World.alloc w10 (.cells #[] 5) = w16 at *
        obtain ⟨mb, hmb⟩ : ∃ mb, w10.heap.size = mb := ⟨_, rfl⟩
        rw [hmb] at hmade hb16 ⊢
        
        refine hKC.out _ _ (h16) (fun hHeld => ?_)
        clear hKC KC
        try simp only [Act.put, List.setIfInBounds_toArray, List.set_cons_zero, List.set_cons_succ]
        have hS := hHeld (by kernel_rfl)
        refine tkW (rs := [22]) (by kernel_rfl) (by simp) (AllK.cons (o := _) rfl (fun KC hKC => ?_) AllK.nil)
        refine wantIt rfl (wp_add (.some 33) rfl (.tmp 27) (.tmp 32) rfl mb _ _ rfl hmade pk bk ck x.b rfl (by rw [← Hpk.out]; exact Tk.out.row.below h16) Hbk.out (by have := Hxm.out; simp; omega) (Nat.le_of_lt (hmade.lt mb rfl).2) ?_)
        intro v22 w22 hown22 hgrow22 _
        have h22 : Below wr.heap.size wr w22 := h16.grown hgrow22 h16.size (fun j e => Nat.le_trans hb16 (hmade.lt j e).1)
        rw [List.nil_append] at hown22
        have hown22 := hown22.mono (Nat.le_trans hB.size hb16)
        obtain ⟨p5, c5, rfl, hc5, hr5⟩ := hown22.row
        rw [Hbk.out] at hc5 hown22 ⊢
        clear hgrow22
        refine hKC.out _ _ (h22) (fun hHeld => ?_)
        clear hKC KC
        try simp only [Act.put, List.setIfInBounds_toArray, List.set_cons_zero, List.set_cons_succ]
        refine tkB 23 (.some 34) _ _ rfl rfl (by kernel_rfl) (by kernel_rfl) (by kernel_rfl) (by kernel_rfl) hPF rfl (fun w' => by (go_simp; try with_reducible rfl)) hHeld (fun hHeld => ?_)
        simp only [Act.put, List.setIfInBounds_toArray, List.set_cons_zero, List.set_cons_succ]
        have hS := hHeld (by kernel_rfl)
        refine tkW (rs := [24]) (by kernel_rfl) (by simp) (AllK.cons (o := _) rfl (fun KC hKC => ?_) AllK.nil)
        go_simp
        have hnc : stc ⟨x.K, x.iv.take 12, UInt32.ofNat x.n, p5, x.b, c5⟩ = [B k0, B k1, B k2, B k3, B k4, B k5, B k6, B k7, B k8, B k9, B k10, B k11, B k12, B k13, B k14, B k15, B k16, B k17, B k18, B k19, B k20, B k21, B k22, B k23, B k24, B k25, B k26, B k27, B k28, B k29, B k30, B k31, B v0, B v1, B v2, B v3, B v4, B v5, B v6, B v7, B v8, B v9, B v10, B v11, W32 (UInt32.ofNat x.n), .slice p5 bk c5] := by unfold stc; rw [HK32.out, Hv12.out, Hbk.out]; rfl
        change KC _ (World.alloc w22 (.cells ([B k0, B k1, B k2, B k3, B k4, B k5, B k6, B k7, B k8, B k9, B k10, B k11, B k12, B k13, B k14, B k15, B k16, B k17, B k18, B k19, B k20, B k21, B k22, B k23, B k24, B k25, B k26, B k27, B k28, B k29, B k30, B k31, B v0, B v1, B v2, B v3, B v4, B v5, B v6, B v7, B v8, B v9, B v10, B v11, W32 (UInt32.ofNat x.n), .slice p5 bk c5] : List Value).toArray tStr))
        rw [← hnc]
        have hA := Blk.new w22 (stc ⟨x.K, x.iv.take 12, UInt32.ofNat x.n, p5, x.b, c5⟩) tStr
        have hal : Below w22.heap.size w22 (World.alloc w22 (.cells (stc ⟨x.K, x.iv.take 12, UInt32.ofNat x.n, p5, x.b, c5⟩).toArray tStr)) := (Below.refl _ _).alloc (Nat.le_refl _) _
        have h24 := h22.trans (hal.mono h22.size)
        have hxo : StrOwn w.heap.size (World.alloc w22 (.cells (stc ⟨x.K, x.iv.take 12, UInt32.ofNat x.n, p5, x.b, c5⟩).toArray tStr)) ⟨x.K, x.iv.take 12, UInt32.ofNat x.n, p5, x.b, c5⟩ := ⟨Tk.out.K, by rw [List.length_take, Tk.out.iv]; rfl, by show OwnR _ _ (.slice p5 x.b.length c5) x.b; rw [Hbk.out]; exact hown22.below hal⟩
        generalize World.alloc w22 (.cells (stc ⟨x.K, x.iv.take 12, UInt32.ofNat x.n, p5, x.b, c5⟩).toArray tStr) = w24 at *
        obtain ⟨b24, hb24⟩ : ∃ b, w22.heap.size = b := ⟨_, rfl⟩
        rw [hb24] at hA ⊢
        clear hnc hal
        refine hKC.out _ _ (h24) (fun hHeld => ?_)
        clear hKC KC
        try simp only [Act.put, List.setIfInBounds_toArray, List.set_cons_zero, List.set_cons_succ]
        refine tkW (rs := [25]) (by kernel_rfl) (by simp) (AllK.close (o := _) rfl (by kernel_rfl) (fun KC hKC => ?_) AllK.nil)
        have hownA := owns_below Hown.out h24
        refine wantIt rfl (wp_append_own (.some 36) rfl (.tmp 11) (.tmp 35) 48 rfl w.heap.size tStr i0 _ 46 72 underStrs Hi0.out Hz0.out Hs0.out Hb0.out rfl (by decide) u3 k _ rfl hownA ⟨b24, 0, none⟩ 1 1 (stc ⟨x.K, x.iv.take 12, UInt32.ofNat x.n, p5, x.b, c5⟩) rfl (by rw [stc_len hxo.ok]) (fun a u hu => by rw [Addr.add_mid]; exact hA.whole a u hu) (stc_one _) (by unfold maxLen; omega) (by omega) (Nat.le_trans hB.size h24.size) ?_)
        intro v25 w25 hown25 hgrow25 _
        have htyp := fun j e => owns_typ hownA j e
        have hB25 := (hB.trans (h24.mono hB.size)).grown hgrow25 (Nat.le_trans hB.size h24.size) (fun j e => (World.ownsRow.lt hownA j e).1)
        have hnew := hxo.kept hgrow25 htyp
        have hold : ∀ y ∈ ss, StrOwn w.heap.size w25 y := fun y hy => ((Hco.out y hy).below h24).kept hgrow25 htyp
        clear hgrow25 htyp hownA hA hxo
        refine hKC.out _ _ (fun hHeld => ?_)
        clear hKC KC
        try simp only [Act.put, List.setIfInBounds_toArray, List.set_cons_zero, List.set_cons_succ]
        refine tkB 26 (.some 3) _ _ rfl rfl (by kernel_rfl) (by kernel_rfl) (by kernel_rfl) (by kernel_rfl) hPF rfl (fun w' => by (go_simp; try with_reducible rfl)) hHeld (fun hHeld => ?_)
        simp only [Act.put, List.setIfInBounds_toArray, List.set_cons_zero, List.set_cons_succ]
        refine tkD (by kernel_rfl) ?_ _
        clear hB
        go_wp2_with fail
        go_roundw
        case rel =>
          refine ⟨k + 1, ss ++ [⟨x.K, x.iv.take 12, UInt32.ofNat x.n, p5, x.b, c5⟩], by omega, by go_num, by rw [List.length_append, Hcl.out]; rfl, fun j h h' => ?_, fun y hy => ?_, ?_, hB25⟩
          · by_cases hj : j < ss.length
            · rw [List.getElem_append_left hj]; exact Hcf.out j hj h'
            · have hjk : j = k := by rw [List.length_append, Hcl.out] at h; rw [Hcl.out] at hj; simp at h; omega
              subst hjk
              rw [List.getElem_append_right (by omega)]
              simp only [Hcl.out, Nat.sub_self, List.getElem_cons_zero]
              rw [Hx.out]
              exact ⟨rfl, rfl, rfl, rfl⟩
          · rcases List.mem_append.1 hy with h | h
            · exact hold y h
            · obtain rfl := List.mem_singleton.1 h
              exact hnew
          · unfold stcs; rw [List.flatMap_append]
            simpa [stcs] using hown25
        case measure => (simp [intOf]; try omega)
      ·
        go_simp
        change KC _ (World.alloc wr.drew (.cells #[] 5))
        have hmade : OwnR wr.drew.heap.size (World.alloc wr.drew (.cells #[] 5)) (.slice (some ⟨wr.drew.heap.size, 0, none⟩) 0 0) [] := OwnR.made wr.drew
        have h16 := hS.alloc hS.size (.cells #[] 5)
        have hb16 : wr.heap.size ≤ wr.drew.heap.size := hS.size
        generalize World.alloc wr.drew (.cells #[] 5) = w16 at *
        obtain ⟨mb, hmb⟩ : ∃ mb, wr.drew.heap.size = mb := ⟨_, rfl⟩
        rw [hmb] at hmade hb16
        have hmb2 : wr.heap.size = mb := hmb
        rw [hmb2]
        refine hKC.out _ _ (h16) (fun hHeld => ?_)
        clear hKC KC
        try simp only [Act.put, List.setIfInBounds_toArray, List.set_cons_zero, List.set_cons_succ]
        have hS := hHeld (by kernel_rfl)
        refine tkW (rs := [10]) (by kernel_rfl) (by simp) (AllK.cons (o := _) rfl (fun KC hKC => ?_) AllK.nil)
        go_simp
        refine (nonceT_any _ _ x Tk.out).mono ?_
        rw [Hv12.out]
        rintro e w10 ⟨rfl, hB10⟩
        have h10 := h16.trans (hB10.mono h16.size)
        have hmade := OwnR.below hmade hB10
        clear hB10
        refine hKC.out _ _ (h10) (fun hHeld => ?_)
        clear hKC KC
        try simp only [Act.put, List.setIfInBounds_toArray, List.set_cons_zero, List.set_cons_succ]
        have hS := hHeld (by kernel_rfl)
        refine tkW (rs := [22]) (by kernel_rfl) (by simp) (AllK.cons (o := _) rfl (fun KC hKC => ?_) AllK.nil)
        refine wantIt rfl (wp_add (.some 33) rfl (.tmp 27) (.tmp 32) rfl mb _ _ rfl hmade pk bk ck x.b rfl (by rw [← Hpk.out]; exact Tk.out.row.below h10) Hbk.out (by have := Hxm.out; simp; omega) (Nat.le_of_lt (hmade.lt mb rfl).2) ?_)
        intro v22 w22 hown22 hgrow22 _
        have h22 : Below wr.heap.size wr w22 := h10.grown hgrow22 h10.size (fun j e => Nat.le_trans hb16 (hmade.lt j e).1)
        rw [List.nil_append] at hown22
        have hown22 := hown22.mono (Nat.le_trans hB.size hb16)
        obtain ⟨p5, c5, rfl, hc5, hr5⟩ := hown22.row
        rw [Hbk.out] at hc5 hown22 ⊢
        clear hgrow22
        refine hKC.out _ _ (h22) (fun hHeld => ?_)
        clear hKC KC
        try simp only [Act.put, List.setIfInBounds_toArray, List.set_cons_zero, List.set_cons_succ]
        refine tkB 23 (.some 34) _ _ rfl rfl (by kernel_rfl) (by kernel_rfl) (by kernel_rfl) (by kernel_rfl) hPF rfl (fun w' => by (go_simp; try with_reducible rfl)) hHeld (fun hHeld => ?_)
        simp only [Act.put, List.setIfInBounds_toArray, List.set_cons_zero, List.set_cons_succ]
        have hS := hHeld (by kernel_rfl)
        refine tkW (rs := [24]) (by kernel_rfl) (by simp) (AllK.cons (o := _) rfl (fun KC hKC => ?_) AllK.nil)
        go_simp
        have hnc : stc ⟨x.K, x.iv.take 12, UInt32.ofNat x.n, p5, x.b, c5⟩ = [B k0, B k1, B k2, B k3, B k4, B k5, B k6, B k7, B k8, B k9, B k10, B k11, B k12, B k13, B k14, B k15, B k16, B k17, B k18, B k19, B k20, B k21, B k22, B k23, B k24, B k25, B k26, B k27, B k28, B k29, B k30, B k31, B v0, B v1, B v2, B v3, B v4, B v5, B v6, B v7, B v8, B v9, B v10, B v11, W32 (UInt32.ofNat x.n), .slice p5 bk c5] := by unfold stc; rw [HK32.out, Hv12.out, Hbk.out]; rfl
        change KC _ (World.alloc w22 (.cells ([B k0, B k1, B k2, B k3, B k4, B k5, B k6, B k7, B k8, B k9, B k10, B k11, B k12, B k13, B k14, B k15, B k16, B k17, B k18, B k19, B k20, B k21, B k22, B k23, B k24, B k25, B k26, B k27, B k28, B k29, B k30, B k31, B v0, B v1, B v2, B v3, B v4, B v5, B v6, B v7, B v8, B v9, B v10, B v11, W32 (UInt32.ofNat x.n), .slice p5 bk c5] : List Value).toArray tStr))
        rw [← hnc]
        have hA := Blk.new w22 (stc ⟨x.K, x.iv.take 12, UInt32.ofNat x.n, p5, x.b, c5⟩) tStr
        have hal : Below w22.heap.size w22 (World.alloc w22 (.cells (stc ⟨x.K, x.iv.take 12, UInt32.ofNat x.n, p5, x.b, c5⟩).toArray tStr)) := (Below.refl _ _).alloc (Nat.le_refl _) _
        have h24 := h22.trans (hal.mono h22.size)
        have hxo : StrOwn w.heap.size (World.alloc w22 (.cells (stc ⟨x.K, x.iv.take 12, UInt32.ofNat x.n, p5, x.b, c5⟩).toArray tStr)) ⟨x.K, x.iv.take 12, UInt32.ofNat x.n, p5, x.b, c5⟩ := ⟨Tk.out.K, by rw [List.length_take, Tk.out.iv]; rfl, by show OwnR _ _ (.slice p5 x.b.length c5) x.b; rw [Hbk.out]; exact hown22.below hal⟩
        generalize World.alloc w22 (.cells (stc ⟨x.K, x.iv.take 12, UInt32.ofNat x.n, p5, x.b, c5⟩).toArray tStr) = w24 at *
        obtain ⟨b24, hb24⟩ : ∃ b, w22.heap.size = b := ⟨_, rfl⟩
        rw [hb24] at hA ⊢
        clear hnc hal
        refine hKC.out _ _ (h24) (fun hHeld => ?_)
        clear hKC KC
        try simp only [Act.put, List.setIfInBounds_toArray, List.set_cons_zero, List.set_cons_succ]
        refine tkW (rs := [25]) (by kernel_rfl) (by simp) (AllK.close (o := _) rfl (by kernel_rfl) (fun KC hKC => ?_) AllK.nil)
        have hownA := owns_below Hown.out h24
        refine wantIt rfl (wp_append_own (.some 36) rfl (.tmp 11) (.tmp 35) 48 rfl w.heap.size tStr i0 _ 46 72 underStrs Hi0.out Hz0.out Hs0.out Hb0.out rfl (by decide) u3 k _ rfl hownA ⟨b24, 0, none⟩ 1 1 (stc ⟨x.K, x.iv.take 12, UInt32.ofNat x.n, p5, x.b, c5⟩) rfl (by rw [stc_len hxo.ok]) (fun a u hu => by rw [Addr.add_mid]; exact hA.whole a u hu) (stc_one _) (by unfold maxLen; omega) (by omega) (Nat.le_trans hB.size h24.size) ?_)
        intro v25 w25 hown25 hgrow25 _
        have htyp := fun j e => owns_typ hownA j e
        have hB25 := (hB.trans (h24.mono hB.size)).grown hgrow25 (Nat.le_trans hB.size h24.size) (fun j e => (World.ownsRow.lt hownA j e).1)
        have hnew := hxo.kept hgrow25 htyp
        have hold : ∀ y ∈ ss, StrOwn w.heap.size w25 y := fun y hy => ((Hco.out y hy).below h24).kept hgrow25 htyp
        clear hgrow25 htyp hownA hA hxo
        refine hKC.out _ _ (fun hHeld => ?_)
        clear hKC KC
        try simp only [Act.put, List.setIfInBounds_toArray, List.set_cons_zero, List.set_cons_succ]
        refine tkB 26 (.some 3) _ _ rfl rfl (by kernel_rfl) (by kernel_rfl) (by kernel_rfl) (by kernel_rfl) hPF rfl (fun w' => by (go_simp; try with_reducible rfl)) hHeld (fun hHeld => ?_)
        simp only [Act.put, List.setIfInBounds_toArray, List.set_cons_zero, List.set_cons_succ]
        refine tkD (by kernel_rfl) ?_ _
        clear hB
        go_wp2_with fail
        go_roundw
        case rel =>
          refine ⟨k + 1, ss ++ [⟨x.K, x.iv.take 12, UInt32.ofNat x.n, p5, x.b, c5⟩], by omega, by go_num, by rw [List.length_append, Hcl.out]; rfl, fun j h h' => ?_, fun y hy => ?_, ?_, hB25⟩
          · by_cases hj : j < ss.length
            · rw [List.getElem_append_left hj]; exact Hcf.out j hj h'
            · have hjk : j = k := by rw [List.length_append, Hcl.out] at h; rw [Hcl.out] at hj; simp at h; omega
              subst hjk
              rw [List.getElem_append_right (by omega)]
              simp only [Hcl.out, Nat.sub_self, List.getElem_cons_zero]
              rw [Hx.out]
              exact ⟨rfl, rfl, rfl, rfl⟩
          · rcases List.mem_append.1 hy with h | h
            · exact hold y h
            · obtain rfl := List.mem_singleton.1 h
              exact hnew
          · unfold stcs; rw [List.flatMap_append]
            simpa [stcs] using hown25
        case measure => (simp [intOf]; try omega)
    · have hke : k = n := by omega
      have q1 : ¬ ((k : Int) < (n : Int)) := by omega
      have hown := Hown.out
      have hcl := Hcl.out
      rw [hke] at hown hcl
      have Hown2 := hid hown
      have Hcl2 := hid hcl
      clear hke hown hcl
      go_wp2_with fail
      go_ret
      exact ⟨_, rfl, ss, Hcl2.out, Hcf.out, Hco.out, Hown2.out, hB⟩
end Go.Proofs.Ytgellbapbphnlaa
