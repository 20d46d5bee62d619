/- ctr: Crypt -/
import Derived.Test.YtlgeebnmonmdaaaCt
namespace Go.Proofs.Ytlgeebnmonmdaaa
open Go.RowKit

/-- The stream's byte number i. -/
def ksb (E : List UInt8 → List UInt8) (iv : List UInt8) (i : Nat) : UInt8 := (E (cnt iv (i / 16))).getD (i % 16) 0
def ksL (E : List UInt8 → List UInt8) (iv : List UInt8) (p L : Nat) : List UInt8 := (List.range L).map fun i => ksb E iv (p + i)
/-- Bytes under the stream from place p on. -/
def xk (E : List UInt8 → List UInt8) (iv : List UInt8) (p : Nat) (b : List UInt8) : List UInt8 := (List.range b.length).map fun i => b.getD i 0 ^^^ ksb E iv (p + i)
theorem ksL_len (E : List UInt8 → List UInt8) (iv : List UInt8) (p L : Nat) : (ksL E iv p L).length = L := by simp [ksL]
theorem xk_len (E : List UInt8 → List UInt8) (iv : List UInt8) (p : Nat) (b : List UInt8) : (xk E iv p b).length = b.length := by simp [xk]
theorem xk_get (E : List UInt8 → List UInt8) (iv : List UInt8) (p : Nat) (b : List UInt8) (i : Nat) (h : i < b.length) : (xk E iv p b).getD i 0 = b.getD i 0 ^^^ ksb E iv (p + i) := by simp [xk, h]
theorem ksL_get (E : List UInt8 → List UInt8) (iv : List UInt8) (p L i : Nat) (h : i < L) : (ksL E iv p L).getD i 0 = ksb E iv (p + i) := by simp [ksL, h]
theorem ksL_drop (E : List UInt8 → List UInt8) (iv : List UInt8) (p L k : Nat) (h : k ≤ L) : (ksL E iv p L).drop k = ksL E iv (p + k) (L - k) := by
  apply ext_getD
  · simp [ksL]
  · intro j hj
    rw [List.length_drop, ksL_len] at hj
    rw [ksL_get _ _ _ _ _ hj]
    have : ((ksL E iv p L).drop k).getD j 0 = (ksL E iv p L).getD (k + j) 0 := by simp [List.getD]
    rw [this, ksL_get _ _ _ _ _ (by omega), Nat.add_assoc]
theorem ksL_block (E : List UInt8 → List UInt8) (iv : List UInt8) (f : Nat) (h : (E (cnt iv f)).length = 16) : E (cnt iv f) = ksL E iv (16 * f) 16 := by
  apply ext_getD
  · rw [ksL_len, h]
  · intro j hj
    rw [ksL_get _ _ _ _ _ (by omega)]
    unfold ksb
    rw [show (16 * f + j) / 16 = f by omega, show (16 * f + j) % 16 = j by omega]
/-- One part of the bytes at hand. -/
theorem xk_part (E : List UInt8 → List UInt8) (iv : List UInt8) (p L : Nat) (b : List UInt8) : List.zipWith (· ^^^ ·) b (ksL E iv p L) = xk E iv p (b.take (min b.length L)) := by
  apply ext_getD
  · rw [List.length_zipWith, ksL_len, xk_len, List.length_take]; omega
  · intro j hj
    rw [List.length_zipWith, ksL_len] at hj
    rw [xk_get _ _ _ _ _ (by rw [List.length_take]; omega)]
    have h1 : (List.zipWith (· ^^^ ·) b (ksL E iv p L)).getD j 0 = b.getD j 0 ^^^ (ksL E iv p L).getD j 0 := by
      simp only [List.getD, List.getElem?_zipWith]
      rw [List.getElem?_eq_getElem (show j < b.length by omega), List.getElem?_eq_getElem (show j < (ksL E iv p L).length by rw [ksL_len]; omega)]
      rfl
    have h2 : (b.take (min b.length L)).getD j 0 = b.getD j 0 := by simp only [List.getD, List.getElem?_take, if_pos hj]
    rw [h1, h2, ksL_get _ _ _ _ _ (by omega)]
theorem xk_append (E : List UInt8 → List UInt8) (iv : List UInt8) (p : Nat) (a b : List UInt8) : xk E iv p (a ++ b) = xk E iv p a ++ xk E iv (p + a.length) b := by
  apply ext_getD
  · simp [xk]
  · intro j hj
    rw [xk_len, List.length_append] at hj
    rw [xk_get _ _ _ _ _ (by rw [List.length_append]; exact hj)]
    by_cases h : j < a.length
    · have e1 : (xk E iv p a ++ xk E iv (p + a.length) b).getD j 0 = (xk E iv p a).getD j 0 := by simp [List.getD, List.getElem?_append_left (show j < (xk E iv p a).length by rw [xk_len]; exact h)]
      have e2 : (a ++ b).getD j 0 = a.getD j 0 := by simp [List.getD, List.getElem?_append_left h]
      rw [e1, e2, xk_get _ _ _ _ _ h]
    · have e1 : (xk E iv p a ++ xk E iv (p + a.length) b).getD j 0 = (xk E iv (p + a.length) b).getD (j - a.length) 0 := by
        simp [List.getD, List.getElem?_append_right (show (xk E iv p a).length ≤ j by rw [xk_len]; omega), xk_len]
      have e2 : (a ++ b).getD j 0 = b.getD (j - a.length) 0 := by simp [List.getD, List.getElem?_append_right (show a.length ≤ j by omega)]
      rw [e1, e2, xk_get _ _ _ _ _ (by omega), show p + a.length + (j - a.length) = p + j by omega]
theorem xk_xk (E : List UInt8 → List UInt8) (iv : List UInt8) (p : Nat) (b : List UInt8) : xk E iv p (xk E iv p b) = b := by
  apply ext_getD
  · simp [xk]
  · intro j hj
    rw [xk_len, xk_len] at hj
    rw [xk_get _ _ _ _ _ (by rw [xk_len]; exact hj), xk_get _ _ _ _ _ hj, UInt8.xor_assoc, UInt8.xor_self, UInt8.xor_zero]

/-- Where something is left, it lies in a block of its own type. -/
def LeftB (w : World) (L : Nat) (pa : Option Addr) : Prop := 0 < L → ∃ b o cs, pa = some ⟨b, o, none⟩ ∧ Blk w b cs tA16
/-- A stream, p bytes done. -/
def StreamAt (w : World) (sb : Nat) (kv : Option Addr) (E : List UInt8 → List UInt8) (iv : List UInt8) (p : Nat) : Prop :=
  ∃ f pa L cap, Blk w sb (scells kv (cnt iv f) (.slice pa L cap) p) tStream ∧ p + L = 16 * f ∧ RowAt w pa (ksL E iv p L) ∧ L ≤ cap ∧ L ≤ 16 ∧ Off [sb] pa ∧ LeftB w L pa

/-- The address of a slice's rest. -/
def sfrom (pa : Option Addr) (c k : Nat) : Option Addr := if c = k then pa else pa.map fun x => x.add k
theorem sfrom_row {w : World} {pa : Option Addr} {l : List UInt8} {m c k : Nat} (h : RowAt w pa l) (hl : l.length = m) (hc : m ≤ c) : RowAt w (sfrom pa c k) (l.drop k) := by
  unfold sfrom
  split
  · rename_i e
    rw [List.drop_of_length_le (by omega)]
    exact RowAt.nil _ _
  · intro j hj
    rw [List.length_drop] at hj
    obtain ⟨b, o, e, h1, h2⟩ := h (k + j) (by omega)
    subst e
    refine ⟨b, o + k, by rw [Option.map_some, Addr.add_mid], h1, ?_⟩
    rw [Nat.add_assoc, h2]
    simp [List.getD]
theorem sfrom_off {F : List Nat} {pa : Option Addr} (c k : Nat) (h : Off F pa) : Off F (sfrom pa c k) := by
  unfold sfrom
  split
  · exact h
  · intro a e
    cases pa with
    | none => cases e
    | some x =>
      have hx := h x rfl
      cases e
      have e2 : (x.add k).block = x.block := by unfold Addr.add; split <;> rfl
      show (x.add k).block ∉ F
      rw [e2]; exact hx

/-- Crypt on its way: q bytes of b are done, m are left. -/
structure CS (w w' : World) (sb : Nat) (kv : Option Addr) (E : List UInt8 → List UInt8) (iv : List UInt8) (p t : Nat) (b : List UInt8) (q m f : Nat) (pa : Option Addr) (L cap : Nat) (pb : Option Addr) (c : Nat) (v : Value) : Prop where
  hq : q + m = b.length
  hs : Blk w' sb (scells kv (cnt iv f) (.slice pa L cap) t) tStream
  hf : p + q + L = 16 * f
  hr : RowAt w' pa (ksL E iv (p + q) L)
  hl : L ≤ cap
  h16 : L ≤ 16
  ho : Off [sb] pa
  hb : RowAt w' pb (b.drop q)
  hc : m ≤ c
  hob : 0 < m → Off [sb] pb
  hv : OwnR w.heap.size w' v (xk E iv p (b.take q))
  hch : Chg w.heap.size [sb] w w'
  hne : 0 < L → ∀ j, v.ownBlock = some j → Off [j] pa
  hpl : 0 < m → ∀ a, pb = some a → a.block < w.heap.size
  hta : LeftB w' L pa

set_option maxRecDepth 100000 in
set_option maxHeartbeats 4000000 in
theorem crypt_s (w : World) (sb : Nat) (kv : Option Addr) (E : List UInt8 → List UInt8) (iv : List UInt8) (p : Nat) (hs : StreamAt w sb kv E iv p) (hk : KeyV w kv E) (pb : Option Addr) (n cap : Nat) (b : List UInt8) (hb : RowAt w pb b) (hn : b.length = n) (hc : n ≤ cap) (hof : 0 < n → Off [sb] pb) (hp : p + n < 1000000000000) :
    Calls Try.prog 20 #[.pointer (some ⟨sb, 0, none⟩), .slice pb n cap] w fun e w' => ∃ v, e = .returned v ∧ OwnR w.heap.size w' v (xk E iv p b) ∧ StreamAt w' sb kv E iv (p + n) ∧ Chg w.heap.size [sb] w w' ∧ KeyV w' kv E := by
  have Hn := hid hn
  obtain ⟨t, ht⟩ : ∃ t, p + n = t := ⟨_, rfl⟩
  have htl : (p : Int) + (n : Int) = (t : Int) := by omega
  have ht9 : t < 1000000000000 := by omega
  rw [ht]
  have Ht := hid ht
  have hsl : sb < w.heap.size := by obtain ⟨_, _, _, _, h, _⟩ := hs; exact h.lt
  have HK : Hid (∀ w', Chg w.heap.size [sb] w w' → KeyV w' kv E) := hid (fun w' hc => by obtain ⟨_, _, _, _, h, _⟩ := hs; exact hk.chg hc (Nat.le_refl _) h)
  clear ht
  go_enter Try.func20, Try.ntmps20
  go_wp2_with fail
  refine wp_scope_jumps 0 (fun a' w' => ∃ (q m f : Nat) (pa : Option Addr) (cap : Nat) (pb' : Option Addr) (c' : Nat) (v u6 u7 u8 u9 u10 u11 u12 u13 u14 u15 u16 u17 u18 u19 u20 u21 u22 u23 u24 u25 u26 u27 u28 u29 u30 u31 u32 u33 u34 u35 u36 u37 u38 u39 u40 u41 u42 u43 u44 u45 u46 : Value), a' = { tmps := #[.pointer (some ⟨sb, 0, none⟩), .slice pb' m c', undef, undef, .slice none 0 0, v, u6, u7, u8, u9, u10, u11, u12, u13, u14, u15, u16, u17, u18, u19, u20, u21, u22, u23, u24, u25, u26, u27, u28, u29, u30, u31, u32, u33, u34, u35, u36, u37, u38, u39, u40, u41, u42, u43, u44, u45, u46], defers := [] } ∧ CS w w' sb kv E iv p t b q m f pa 16 cap pb' c' v)
    (fun a' _ => match a'.tmps.getD 1 undef with | .slice _ m _ => m | _ => 0) rfl ?first ?pass
  case' first =>
    obtain ⟨f, pa, L, cp, hsb, hf, hr, hl, h16, ho, hta⟩ := hs
    have hnx := cnt_len iv f
    have ha := hsb.cell 18
    rw [scells_at _ _ _ _ hnx] at ha
    have hfr := hsb.frozen 18
    have hsb2 := hsb.set 18 (.int .i64 (t : Int))
    rw [scells_set18 _ _ _ _ _ hnx] at hsb2
    have hC0 := (Chg.refl w.heap.size [sb] w).setCell (p := ⟨sb, 18, none⟩) (.inl (by simp)) (.int .i64 (t : Int))
    obtain ⟨q, hq0⟩ : ∃ q : Nat, q = 0 := ⟨0, rfl⟩
    obtain ⟨m, hmn⟩ : ∃ m, m = n := ⟨n, rfl⟩
    have hcs : CS w (w.setCell ⟨sb, 18, none⟩ (.int .i64 (t : Int))) sb kv E iv p t b q m f pa L cp pb cap (.slice none 0 0) :=
      ⟨by omega, hsb2, by omega, by rw [hq0, Nat.add_zero]; exact hr.chg hC0 (Nat.le_refl _) ho, hl, h16, ho, by rw [hq0]; exact hb.chg2 hC0 (Nat.le_refl _) (fun h => hof (by rw [← hn]; exact h)), by omega, (fun h => hof (by omega)), by rw [hq0]; exact OwnR.nil _ _, hC0,
        (fun _ j e => by cases e), (fun h0 => hb.pos (by omega)), fun h => by (obtain ⟨x, o, cs, e, hx⟩ := hta h; exact ⟨x, o, cs, e, hx.setNe (hx.ne hsb (by decide)) _⟩)⟩
    have Hcs := hid hcs
    clear hcs hC0 hsb2 hn hk hr hl h16 ho hf hnx hsb hb hof hq0 hta
    go_wp2_with fail
    go_step3
    rw [← hmn]
    clear hmn ha hfr hc
    generalize w.setCell ⟨sb, 18, none⟩ (.int .i64 (t : Int)) = w' at *
    generalize pb = pb' at *
    generalize cap = c' at *
  case' pass =>
    rintro a' w' ⟨q, m, f, pa, cp, pb', c', v, u6, u7, u8, u9, u10, u11, u12, u13, u14, u15, u16, u17, u18, u19, u20, u21, u22, u23, u24, u25, u26, u27, u28, u29, u30, u31, u32, u33, u34, u35, u36, u37, u38, u39, u40, u41, u42, u43, u44, u45, u46, rfl, hcs⟩
    have Hcs := hid hcs
    obtain ⟨L, hL⟩ : ∃ L : Nat, L = 16 := ⟨_, rfl⟩
    rw [← hL] at Hcs
    have HL := hid hL
    clear hcs hL hn hs hk hb hof hc
  all_goals
    have H := Hcs.out
    have hcn := cnt_len iv f
    have hl17 := H.hs.cell 17
    rw [scells_left _ _ _ _ hcn] at hl17
    obtain ⟨k, hk'⟩ : ∃ k, min m L = k := ⟨_, rfl⟩
    have hbl : (b.drop q).length = m := by rw [List.length_drop, ← H.hq]; omega
    have hx0 := xor_any w' pb' pa m c' L cp k _ _ H.hb H.hr hbl (ksL_len _ _ _ _) (by have := H.hq; have := Hn.out; omega) hk'.symm
    rw [xk_part, hbl, hk'] at hx0
    have hkm : k ≤ m := by omega
    have hkL : k ≤ L := by omega
    have hYl0 : (xk E iv (p + q) ((b.drop q).take k)).length = k := by rw [xk_len, List.length_take, hbl]; omega
    have hcat0 : xk E iv p (b.take q) ++ xk E iv (p + q) ((b.drop q).take k) = xk E iv p (b.take (q + k)) := by
      have e : b.take (q + k) = b.take q ++ (b.drop q).take k := List.take_add
      rw [e, xk_append, List.length_take, Nat.min_eq_left (by have := H.hq; omega)]
    have hXl0 : (xk E iv p (b.take q)).length = q := by rw [xk_len, List.length_take, Nat.min_eq_left (by have := H.hq; omega)]
    have hqn0 : q + m = n := by rw [H.hq, Hn.out]
    obtain ⟨Y, hY⟩ : ∃ Y, xk E iv (p + q) ((b.drop q).take k) = Y := ⟨_, rfl⟩
    rw [hY] at hx0 hYl0 hcat0
    have hx := hid hx0
    have hcat := hid hcat0
    have hYl := hid hYl0
    have hXl := hid hXl0
    have hKm := hid hk'
    have hqn := hid hqn0
    have hcn' := hid hcn
    clear H hcn hk' hbl hY hx0 hcat0 hYl0 hXl0 hqn0
    go_wp2_with (first | (go_at_call 39; refine hx.out.mono ?_; rintro e w2 ⟨rfl, hP, hB2⟩; have hv2 := Hcs.out.hv.below (hB2.mono (Nat.le_refl _) |> fun h => h); have hs2 := hB2.size; have hP2 := hP.rowAt0; have hsw := Hcs.out.hch.size) | (refine wpList_addO hv2 rfl (.tmp 24) (.tmp 25) rfl rfl _ k k Y rfl hP2 hYl.out (by rw [hXl.out]; have := hqn.out; omega) (by omega) ?_; intro v' w3 hown3 hgrow3 hob3; rw [hcat.out] at hown3))
    have H := Hcs.out
    have hs3 := (H.hs.below hB2 H.hs.lt).kept hgrow3 (fun e => by have := (H.hv.lt sb e).1; omega)
    have hr3 : RowAt w3 pa (ksL E iv (p + q) L) := (H.hr.below hB2).kept2 hgrow3 (fun hX j e => by
      have : 0 < L := by rw [← List.length_pos_iff, ksL_len] at hX; exact hX
      exact H.hne this j e)
    have hb3 : RowAt w3 pb' (b.drop q) := (H.hb.below hB2).kept2 hgrow3 (fun hX j e a ea => by
      have hm0 : 0 < m := by rw [← List.length_pos_iff, List.length_drop] at hX; have := H.hq; omega
      have h1 := H.hpl hm0 a ea
      have h2 := (H.hv.lt j e).1
      simp; omega)
    have hC3 : Chg w.heap.size [sb] w w3 := (H.hch.trans (Chg.ofBelow (hB2.mono hsw))).grown hgrow3 (by omega) (fun j e => .inr (H.hv.lt j e).1)
    have hne3 : 0 < L - k → ∀ j, v'.ownBlock = some j → Off [j] (sfrom pa cp k) := fun h0 j e => by
      refine sfrom_off _ _ ?_
      rcases hob3 with h1 | h1
      · exact H.hne (by omega) j (by rw [← h1]; exact e)
      · rw [h1] at e
        cases e
        intro a ea
        have := H.hr.pos (by rw [ksL_len]; omega) a ea
        simp; omega
    have hr4 := sfrom_row (k := k) hr3 (ksL_len _ _ _ _) H.hl
    rw [ksL_drop _ _ _ _ _ hkL, Nat.add_assoc] at hr4
    have hbl : (b.drop q).length = m := by rw [List.length_drop, ← H.hq]; omega
    have hb4 := sfrom_row (k := k) hb3 hbl H.hc
    rw [List.drop_drop] at hb4
    have hO1 := sfrom_off cp k H.ho
    have hO2 : 0 < m - k → Off [sb] (sfrom pb' c' k) := fun h => sfrom_off c' k (H.hob (by omega))
    have hbl2 : (b.drop (q + k)).length = m - k := by rw [List.length_drop]; have := H.hq; omega
    have hpl3 : 0 < m - k → ∀ a, sfrom pb' c' k = some a → a.block < w.heap.size := fun h0 a ea => by
      have h1 := H.hpl (by omega)
      unfold sfrom at ea
      split at ea
      · exact h1 a ea
      · cases pb' with
        | none => cases ea
        | some x =>
          cases ea
          have e2 : (x.add k).block = x.block := by unfold Addr.add; split <;> rfl
          show (x.add k).block < _
          rw [e2]; exact h1 x rfl
    have hf' : p + (q + k) + (L - k) = 16 * f := by have := H.hf; omega
    have hta3 : 0 < L - k → ∃ x o cs, sfrom pa cp k = some ⟨x, o, none⟩ ∧ Blk w3 x cs tA16 := fun h0 => by
      obtain ⟨x, o, cs, e, hx⟩ := H.hta (by omega)
      have hlx := H.hl
      refine ⟨x, o + k, cs, ?_, (hx.below hB2 hx.lt).kept hgrow3 (fun e2 => ?_)⟩
      · unfold sfrom; rw [if_neg (by omega), e, Option.map_some, Addr.add_mid]
      · obtain ⟨cs2, hx2⟩ := hv2.typ x e2
        exact absurd rfl ((hx.below hB2 hx.lt).ne hx2 (by decide))
    have hlc := H.hl
    have hmc := H.hc
    have hc17 := hs3.cell 17
    have hf17 := hs3.frozen 17
    rw [scells_left _ _ _ _ hcn'.out] at hc17
    have hs4 := (hs3.drew).set 17 (.slice (sfrom pa cp k) (L - k) (cp - k))
    rw [scells_set17 _ _ _ _ _ hcn'.out] at hs4
    have Hs4 := hid hs4
    have q1 : (k : Int) ≤ (m : Int) := by omega
    have q2 : (k : Int) ≤ (L : Int) := by omega
    have q3 : 0 ≤ (k : Int) := by omega
    clear H hs4 hbl
    try simp only [Act.put]
    refine tkR (fun w' => w'.cell? ⟨sb, 17, none⟩ = some (.slice pa L cp)) [15] (by kernel_rfl) (fun c a d v w h => by cases d <;> exact h) (hc17) (fun hPF hHeld => ?_)
    refine tkB 0 (.some 27) _ _ rfl rfl (by kernel_rfl) (by kernel_rfl) (by kernel_rfl) (by kernel_rfl) hPF rfl (fun w' => by (go_simp; try with_reducible rfl)) hHeld (fun hHeld => ?_)
    simp only [Act.put, List.setIfInBounds_toArray, List.set_cons_zero, List.set_cons_succ]
    refine tkB 1 (.some 28) _ _ rfl rfl (by kernel_rfl) (by kernel_rfl) (by kernel_rfl) (by kernel_rfl) hPF rfl (fun w' => by (go_simp; try with_reducible rfl)) hHeld (fun hHeld => ?_)
    simp only [Act.put, List.setIfInBounds_toArray, List.set_cons_zero, List.set_cons_succ]
    refine tkB 2 (.some 29) _ _ rfl rfl (by kernel_rfl) (by kernel_rfl) (by kernel_rfl) (by kernel_rfl) hPF rfl (fun w' => by (go_simp; try with_reducible rfl)) hHeld (fun hHeld => ?_)
    simp only [Act.put, List.setIfInBounds_toArray, List.set_cons_zero, List.set_cons_succ]
    refine tkB 3 (.some 30) _ _ rfl rfl (by kernel_rfl) (by kernel_rfl) (by kernel_rfl) (by kernel_rfl) hPF rfl (fun w' => by (go_simp; try with_reducible rfl)) hHeld (fun hHeld => ?_)
    simp only [Act.put, List.setIfInBounds_toArray, List.set_cons_zero, List.set_cons_succ]
    refine tkA 4 (.some 31) _ (.slice (sfrom pb' c' k) (m - k) (c' - k)) rfl rfl (by kernel_rfl) (by kernel_rfl) (by kernel_rfl) (by kernel_rfl) (by kernel_rfl) hPF rfl (fun w' hw' => by (go_simp; simp [sfrom])) hHeld (fun hHeld => ?_)
    simp only [Act.put, List.setIfInBounds_toArray, List.set_cons_zero, List.set_cons_succ]
    refine tkB 5 (.some 32) _ _ rfl rfl (by kernel_rfl) (by kernel_rfl) (by kernel_rfl) (by kernel_rfl) hPF rfl (fun w' => by (go_simp; try with_reducible rfl)) hHeld (fun hHeld => ?_)
    simp only [Act.put, List.setIfInBounds_toArray, List.set_cons_zero, List.set_cons_succ]
    refine tkB 6 (.some 33) _ _ rfl rfl (by kernel_rfl) (by kernel_rfl) (by kernel_rfl) (by kernel_rfl) hPF rfl (fun w' => by (go_simp; try with_reducible rfl)) hHeld (fun hHeld => ?_)
    simp only [Act.put, List.setIfInBounds_toArray, List.set_cons_zero, List.set_cons_succ]
    refine tkB 7 (.some 34) _ _ rfl rfl (by kernel_rfl) (by kernel_rfl) (by kernel_rfl) (by kernel_rfl) hPF rfl (fun w' => by (go_simp; try with_reducible rfl)) hHeld (fun hHeld => ?_)
    simp only [Act.put, List.setIfInBounds_toArray, List.set_cons_zero, List.set_cons_succ]
    refine tkA 8 (.some 35) _ _ rfl rfl (by kernel_rfl) (by kernel_rfl) (by kernel_rfl) (by kernel_rfl) (by kernel_rfl) hPF rfl (fun w' hw' => by (go_simp; try with_reducible rfl)) hHeld (fun hHeld => ?_)
    simp only [Act.put, List.setIfInBounds_toArray, List.set_cons_zero, List.set_cons_succ]
    refine tkB 9 (.some 36) _ _ rfl rfl (by kernel_rfl) (by kernel_rfl) (by kernel_rfl) (by kernel_rfl) hPF rfl (fun w' => by (go_simp; try with_reducible rfl)) hHeld (fun hHeld => ?_)
    simp only [Act.put, List.setIfInBounds_toArray, List.set_cons_zero, List.set_cons_succ]
    refine tkB 10 (.some 37) _ _ rfl rfl (by kernel_rfl) (by kernel_rfl) (by kernel_rfl) (by kernel_rfl) hPF rfl (fun w' => by (go_simp; try with_reducible rfl)) hHeld (fun hHeld => ?_)
    simp only [Act.put, List.setIfInBounds_toArray, List.set_cons_zero, List.set_cons_succ]
    refine tkA 11 (.some 38) _ (.slice (sfrom pa cp k) (L - k) (cp - k)) rfl rfl (by kernel_rfl) (by kernel_rfl) (by kernel_rfl) (by kernel_rfl) (by kernel_rfl) hPF rfl (fun w' hw' => by (go_simp; simp [sfrom])) hHeld (fun hHeld => ?_)
    simp only [Act.put, List.setIfInBounds_toArray, List.set_cons_zero, List.set_cons_succ]
    refine tkB 12 (.some 1) _ _ rfl rfl (by kernel_rfl) (by kernel_rfl) (by kernel_rfl) (by kernel_rfl) hPF rfl (fun w' => by (go_simp; try with_reducible rfl)) hHeld (fun hHeld => ?_)
    simp only [Act.put, List.setIfInBounds_toArray, List.set_cons_zero, List.set_cons_succ]
    refine tkB 13 (.some 39) _ _ rfl rfl (by kernel_rfl) (by kernel_rfl) (by kernel_rfl) (by kernel_rfl) hPF rfl (fun w' => by (go_simp; try with_reducible rfl)) hHeld (fun hHeld => ?_)
    simp only [Act.put, List.setIfInBounds_toArray, List.set_cons_zero, List.set_cons_succ]
    refine tkB 14 (.some 40) _ _ rfl rfl (by kernel_rfl) (by kernel_rfl) (by kernel_rfl) (by kernel_rfl) hPF rfl (fun w' => by (go_simp; try with_reducible rfl)) hHeld (fun hHeld => ?_)
    simp only [Act.put, List.setIfInBounds_toArray, List.set_cons_zero, List.set_cons_succ]
    refine tkW (rs := [15]) (by kernel_rfl) (by simp) (AllK.close (o := _) rfl (by kernel_rfl) (fun KC hKC => ?_) AllK.nil)
    go_simp
    refine hKC.out _ _ (fun hHeld => ?_)
    clear hKC KC
    try simp only [Act.put]
    refine tkD (by kernel_rfl) ?_ _
    obtain ⟨m', hm'⟩ : ∃ m', m - k = m' := ⟨_, rfl⟩
    rw [hm'] at hpl3 hO2 hbl2
    have Hbl2 := hid hbl2
    have hcm : m' ≤ c' - k := by omega
    have hC34 : Chg w3.heap.size [sb] w3 (w3.setCell ⟨sb, 17, none⟩ (.slice (sfrom pa cp k) (L - k) (cp - k))).drew := ((Chg.refl w3.heap.size [sb] w3).setCell (p := ⟨sb, 17, none⟩) (.inl (by simp)) _).drew
    have hs5 : Blk (w3.setCell ⟨sb, 17, none⟩ (.slice (sfrom pa cp k) (L - k) (cp - k))).drew sb (scells kv (cnt iv f) (.slice (sfrom pa cp k) (L - k) (cp - k)) t) tStream := (Hs4.out).drew
    have hsz5 : (w3.setCell ⟨sb, 17, none⟩ (.slice (sfrom pa cp k) (L - k) (cp - k))).drew.heap.size = w3.heap.size := by simp [World.setCell]
    have hC5 := hC3.trans (hC34.mono (M := w.heap.size) hC3.size (fun _ _ h => h))
    have hta5 : LeftB (w3.setCell ⟨sb, 17, none⟩ (.slice (sfrom pa cp k) (L - k) (cp - k))).drew (L - k) (sfrom pa cp k) := fun h0 => by
      obtain ⟨x, o, cs, e, hx⟩ := hta3 h0
      exact ⟨x, o, cs, e, (hx.setNe (hx.ne hs3 (by decide)) _).drew⟩
    have hr5 := hr4.chg hC34 (Nat.le_refl _) hO1
    have hb5 := hb4.chg2 hC34 (Nat.le_refl _) (fun h => hO2 (by rw [← Hbl2.out]; exact h))
    have ho5 := hown3.chg hC34 (Nat.le_refl _) (fun g e => by have := (hown3.lt g e).1; simp; omega)
    generalize (w3.setCell ⟨sb, 17, none⟩ (.slice (sfrom pa cp k) (L - k) (cp - k))).drew = w5 at *
    have hv5 : ∀ j, v'.ownBlock = some j → j < w5.heap.size := fun j e => (ho5.lt j e).2
    clear hs3 hr3 hb3 hC3 hr4 hb4 hown3 hgrow3 hc17 hf17 hC34 hbl2 hta3 hP hP2 hv2 hB2 hx hob3 hHeld hPF
    have Hsz5 := hid hsz5
    have Hm' := hid hm'
    clear hsz5
    rw [hm']
    by_cases h0 : m' = 0
    · subst h0
      have hqk : q + k = b.length := by have := Hcs.out.hq; omega
      rw [hqk, List.take_of_length_le (Nat.le_refl _)] at ho5
      have hst : StreamAt w5 sb kv E iv t := ⟨f, _, _, _, hs5, by have := Ht.out; have := Hn.out; omega, hr5.congr (by rw [← Ht.out, ← Hn.out, ← hqk]), by omega, by have := Hcs.out.h16; omega, hO1, hta5⟩
      have Hst := hid hst
      have Hky := HK.out _ hC5
      clear hs5 hr5 hb5 hst hqk hm'
      go_wp2_with fail
      simp only [Exit.jump]
      go_ret
      exact ⟨_, rfl, ho5, Hst.out, hC5, Hky⟩
    · have hb0 : ((m' : Int) == 0) = false := by rw [beq_eq_false_iff_ne]; omega
      have hkL2 := hid (show k = L by have := Hm'.out; have := hKm.out; omega)
      have hky := HK.out _ hC5
      go_wp2_with (refine (fill_any w5 sb kv E (cnt iv f) _ t hs5 hky hcn'.out).mono ?_; rintro e w6 ⟨rfl, gb, hge, hG6, hs6, hC6⟩)
      go_step3
      have hel : (E (cnt iv f)).length = 16 := hky.len _ hcn'.out
      have hfk : p + (q + k) = 16 * f := by have := Hcs.out.hf; have := hkL2.out; omega
      have hC6' := hC5.trans (hC6.mono (M := w.heap.size) hC5.size (fun _ _ h => h))
      have hrow : RowAt w6 (some ⟨gb, 0, none⟩) (ksL E iv (p + (q + k)) 16) := by
        rw [hfk, ← ksL_block E iv f hel]; exact hG6.rowAt0
      have hJ : CS w w6 sb kv E iv p t b (q + k) m' (f + 1) (some ⟨gb, 0, none⟩) 16 16 (sfrom pb' c' k) (c' - k) v' :=
        ⟨by have := Hcs.out.hq; have := Hm'.out; omega, by rw [← cnt_cnt]; exact hs6, by omega, hrow, Nat.le_refl _, Nat.le_refl _, fun a e => by (cases e; simp; have := hC5.size; omega),
          hb5.chg2 hC6 (Nat.le_refl _) (fun h => hO2 (by rw [← Hbl2.out]; exact h)), hcm, hO2, ho5.chg hC6 (Nat.le_refl _) (fun g e => by have := (ho5.lt g e).1; simp; omega), hC6',
          (fun _ j e a ea => by (cases ea; have := hv5 j e; simp; omega)), hpl3, fun _ => ⟨gb, 0, _, rfl, hG6⟩⟩
      first
      | exact ⟨rfl, q + k, m', f + 1, _, _, _, _, _, _, _, _, _, _, _, _, _, _, _, _, _, _, _, _, _, _, _, _, _, _, _, _, _, _, _, _, _, _, _, _, _, _, _, _, _, _, _, _, _, _, rfl, hJ⟩
      | exact ⟨rfl, ⟨q + k, m', f + 1, _, _, _, _, _, _, _, _, _, _, _, _, _, _, _, _, _, _, _, _, _, _, _, _, _, _, _, _, _, _, _, _, _, _, _, _, _, _, _, _, _, _, _, _, _, _, rfl, hJ⟩, by (have h1 := Hm'.out; have h2 := hkL2.out; have h3 := HL.out; simp; omega)⟩

theorem StreamAt.kept {w w' : World} {sb : Nat} {kv : Option Addr} {E : List UInt8 → List UInt8} {iv : List UInt8} {p : Nat} {row : Option Nat} (h : StreamAt w sb kv E iv p) (hg : w.grownBy w' row) (ht : ∀ j, row = some j → ∃ cs, Blk w j cs tU8) : StreamAt w' sb kv E iv p := by
  obtain ⟨f, pa, L, cp, hsb, hf, hr, hl, h16, ho, hta⟩ := h
  refine ⟨f, pa, L, cp, hsb.kept hg (fun e => ?_), hf, hr.kept2 hg (fun hX j e => ?_), hl, h16, ho, fun h0 => ?_⟩
  · obtain ⟨cs, hx⟩ := ht sb e
    exact absurd rfl (hsb.ne hx (by decide))
  · have h0 : 0 < L := by rw [← List.length_pos_iff, ksL_len] at hX; exact hX
    obtain ⟨b, o, cs, e2, hb⟩ := hta h0
    obtain ⟨cs2, hx⟩ := ht j e
    have hne := hb.ne hx (by decide)
    intro a ea
    rw [e2] at ea; cases ea
    simpa using hne
  · obtain ⟨b, o, cs, e2, hb⟩ := hta h0
    refine ⟨b, o, cs, e2, hb.kept hg (fun e => ?_)⟩
    obtain ⟨cs2, hx⟩ := ht b e
    exact absurd rfl (hb.ne hx (by decide))

set_option maxRecDepth 100000 in
theorem crypt_nil (w : World) (pb : Option Addr) (n cap : Nat) : Calls Try.prog 20 #[.pointer none, .slice pb n cap] w fun e w' => e = .returned (.slice none 0 0) ∧ w = w' := by
  go_enter Try.func20, Try.ntmps20
  go_wp2_with fail
  refine wp_scope_straight ?_
  go_wp2_with fail
  rw [Exit.noGoto_ret]
  go_ret
  exact ⟨rfl, rfl⟩

set_option maxRecDepth 100000 in
set_option maxHeartbeats 1000000 in
/-- ctr.Crypt. -/
theorem crypt_any (w : World) (kv : Option Addr) (E : List UInt8 → List UInt8) (iv : List UInt8) (hk : KeyV w kv E) (hiv : iv.length = 16) (pb : Option Addr) (n cap : Nat) (b : List UInt8) (hb : RowAt w pb b) (hn : b.length = n) (hc : n ≤ cap) (hp : n < 1000000000) :
    Calls Try.prog 14 #[.pointer kv, .agg (bys iv).toArray, .slice pb n cap] w fun e w' => ∃ v, e = .returned v ∧ OwnR w.heap.size w' v (xk E iv 0 b) ∧ Below w.heap.size w w' := by
  have h0 := Blk.new w (bys iv) tA16
  have hB0 : Below w.heap.size w (w.alloc (.cells (bys iv).toArray tA16)) := (Below.refl _ _).alloc (Nat.le_refl _) _
  have hsz : (Try.prog.info? 23).map (·.size) = some (bys iv).length := by rw [size54, bys_length, hiv]
  have hs1 : (w.alloc (.cells (bys iv).toArray tA16)).heap.size = w.heap.size + 1 := by simp
  have hk0 := hk.below hB0
  have hb0 := hb.below hB0
  have hpos := hb.pos
  clear hk hb
  go_enter Try.func14, Try.ntmps14
  go_wp2_with (refine wpList_load_mid rfl 23 (.tmp 4) rfl w.heap.size 0 rfl (bys iv) _ h0.whole under54 rfl hsz ?_)
  change Calls _ _ _ (w.alloc (.cells (bys iv).toArray tA16)) _
  generalize w.alloc (.cells (bys iv).toArray tA16) = w1 at *
  refine (new_any w1 kv iv hiv).mono ?_
  rintro e w2 ⟨rfl, hS2, hB2⟩
  have hst : StreamAt w2 (w1.heap.size + 1) kv E iv 0 := ⟨0, none, 0, 0, by rw [cnt_zero iv hiv]; exact hS2, rfl, RowAt.nil _ _, Nat.le_refl _, by omega, (fun a e => by cases e), fun h => absurd h (by decide)⟩
  have hw2 := hS2.lt
  have HC := hid (crypt_s w2 (w1.heap.size + 1) kv E iv 0 hst (hk0.below hB2) pb n cap b (hb0.below hB2) hn hc (fun h a e => by have := hpos (by omega) a e; simp; omega) (by omega))
  have hsz2 := hB2.size
  have HB2 := hid (hB0.trans (hB2.mono (by omega)))
  clear hst hk0 hb0 hS2 hB2 hB0 h0 hpos
  have Hs1 := hid hs1
  clear hs1
  go_wp2_with fail
  refine HC.out.mono ?_
  rintro e w3 ⟨v, rfl, hown, hst, hC3, _⟩
  go_wp2_with fail
  go_ret
  refine ⟨_, rfl, hown.mono (by have := Hs1.out; omega), ?_⟩
  exact HB2.out.trans (hC3.below (by have := Hs1.out; omega) (fun k hk => by simp at hk; have := Hs1.out; omega))
end Go.Proofs.Ytlgeebnmonmdaaa
