/- gcm: what is sealed is opened: plain lemmas; GcmBack, walked -/
import Derived.Test.YtgellbapbphnlaaK10
namespace Go.Proofs.Ytgellbapbphnlaa
open Go.RowKit

theorem wpList_load_midG {P : Program} {ops : Array Oper} {rest : List Oper} {op : Oper} {a : Act} {w : World} {Q : Exit → Act → World → Prop} (hw : Region.wanted op (yielded ops a.tmps) = true) (ty : TypeId) (x : Operand) (ho : op.op = .load ty x)
    (b o : Nat) (hx : a.eval x = .pointer (some ⟨b, o, none⟩)) (cs : List Value) (d : TypeDesc) (hc : w.rangeAt b o cs)
    (hu : P.underlying ty = some d) (hd : d.isRow = true) (hi : (P.info? ty).map (·.size) = some cs.length)
    (h : wpList P ops Q rest (a.put op.dst (.agg cs.toArray)) w) : wpList P ops Q (op :: rest) a w :=
  wpList_step fun K hK => by rw [if_pos hw]; exact wp_load_mid ty x ho b o hx cs d hc hu hd hi (hK _ _ h)
theorem xor_twice {X S : List UInt8} (h : X.length = S.length) : List.zipWith (· ^^^ ·) (List.zipWith (· ^^^ ·) X S) S = X := by
  apply List.ext_getElem
  · simp; omega
  · intro i h1 h2
    simp only [List.getElem_zipWith]
    rw [UInt8.xor_assoc, UInt8.xor_self, UInt8.xor_zero]
/-- What keys have. -/
structure Enc16 (E : List UInt8 → List UInt8) : Prop where
  len : ∀ s : List UInt8, s.length = 16 → (E s).length = 16
theorem enc_rkK (K : List UInt8) (long : Bool) (hK : K.length = 32) : 16 * roundsOf (rkK K long) + 16 ≤ (rkK K long).length ∧ ∀ s : List UInt8, s.length = 16 → (enc (rkK K long) s).length = 16 := by
  have hk := kn_km long
  have hl : (K.take (kn long)).length = kn long := by rw [List.length_take]; omega
  have h := rkOf_len (km long) (K.take (kn long)) (hl.trans hk.1) hk.2.1
  exact ⟨h.2, fun s hs => enc_l16 (km long) (K.take (kn long)) s (hl.trans hk.1) hk.2.1 hs⟩
theorem sealG_len (E : List UInt8 → List UInt8) (c aad b : List UInt8) (hE : ∀ s : List UInt8, s.length = 16 → (E s).length = 16) (hc : c.length = 16) : (sealG E c aad b).length = b.length + 16 := by
  unfold sealG
  rw [List.length_append, tagF_len _ _ _ _ (hE c hc), List.length_zipWith, streamF_len E c _ hE hc, Nat.min_self]
theorem sealG_take (E : List UInt8 → List UInt8) (c aad b : List UInt8) (hE : ∀ s : List UInt8, s.length = 16 → (E s).length = 16) (hc : c.length = 16) :
    (sealG E c aad b).take b.length = List.zipWith (· ^^^ ·) b (streamF E c b.length) ∧ (sealG E c aad b).drop b.length = tagF E c aad (List.zipWith (· ^^^ ·) b (streamF E c b.length)) := by
  have h : (List.zipWith (· ^^^ ·) b (streamF E c b.length)).length = b.length := by rw [List.length_zipWith, streamF_len E c _ hE hc, Nat.min_self]
  unfold sealG
  generalize List.zipWith (· ^^^ ·) b (streamF E c b.length) = X at *
  rw [← h]
  exact ⟨List.take_left, List.drop_left⟩
theorem open_seal (E : List UInt8 → List UInt8) (c aad b : List UInt8) (hE : ∀ s : List UInt8, s.length = 16 → (E s).length = 16) (hc : c.length = 16) : openG E c aad (sealG E c aad b) = some b := by
  have hl := sealG_len E c aad b hE hc
  obtain ⟨h1, h2⟩ := sealG_take E c aad b hE hc
  unfold openG
  rw [hl, Nat.add_sub_cancel, h1, h2, if_pos rfl, xor_twice (by rw [streamF_len E c _ hE hc])]

set_option maxRecDepth 100000 in
set_option maxHeartbeats 4000000 in
theorem gcmBack_walk (K : List UInt8) (long : Bool) (pi : Option Addr) (l ci : Nat) (iv : List UInt8) (pa : Option Addr) (n ca : Nat) (a : List UInt8) (pb : Option Addr) (m cb : Nat) (b : List UInt8) (w : World) (hK : K.length = 32)
    (hi : RowAt w pi iv) (hl : iv.length = l) (ha : RowAt w pa a) (hn : a.length = n) (hb : RowAt w pb b) (hm : b.length = m) (_ : m ≤ cb) :
    Calls Try.prog 11 #[.agg (kc10 K long (.slice pi l ci) (.slice pa n ca)).toArray, .slice pb m cb] w fun e w' => e = .returned (.bool true) ∧ Below w.heap.size w w' := by
  have h0 := Blk.new w (kc10 K long (.slice pi l ci) (.slice pa n ca)) tKy10
  have hB0 : Below w.heap.size w (w.alloc (.cells (kc10 K long (.slice pi l ci) (.slice pa n ca)).toArray tKy10)) := (Below.refl _ _).alloc (Nat.le_refl _) _
  by_cases h100 : m ≤ 100
  · have hsz : (Try.prog.info? 55).map (·.size) = some (kc10 K long (.slice pi l ci) (.slice pa n ca)).length := by rw [sizeK10, kc10_len _ _ _ _ hK]
    have q1 : ¬ (100 < (m : Int)) := by omega
    have hi0 := hi.below hB0
    have ha0 := ha.below hB0
    have hb0 := hb.below hB0
    have Hl := hid hl
    have Hn := hid hn
    have Hm := hid hm
    clear hi hl ha hn hb hm
    go_enter Try.func11, Try.ntmps11
    go_wp2_with (refine wpList_load_midG rfl 55 (.tmp 2) rfl w.heap.size 0 rfl (kc10 K long (.slice pi l ci) (.slice pa n ca)) _ h0.whole Try.underlying55 rfl hsz ?_)
    change Calls _ _ _ (w.alloc (.cells (kc10 K long (.slice pi l ci) (.slice pa n ca)).toArray tKy10)) _
    generalize w.alloc (.cells (kc10 K long (.slice pi l ci) (.slice pa n ca)).toArray tKy10) = w1 at *
    refine (short10_any w1 K long pi pa l ci n ca hK).mono ?_
    rintro e w2 ⟨rfl, hB2⟩
    have h0 := h0.below hB2 h0.lt
    have hi0 := hi0.below hB2
    have ha0 := ha0.below hB2
    have hb0 := hb0.below hB2
    have hB := hB0.trans (hB2.mono hB0.size)
    obtain ⟨sh, hsh⟩ : ∃ z, decide (l ≤ 100 ∧ n ≤ 100) = z := ⟨_, rfl⟩
    rw [hsh]
    clear hB2 hB0
    have c33 := h0.cell 33
    have c34 := h0.cell 34
    rw [(kc10_at _ _ _ _ hK).2.1] at c33
    rw [(kc10_at _ _ _ _ hK).2.2] at c34
    cases sh with
    | false =>
      clear hsh
      go_wp2_with fail
      go_ret
      exact ⟨rfl, hB⟩
    | true =>
      obtain ⟨hl100, hn100⟩ : l ≤ 100 ∧ n ≤ 100 := of_decide_eq_true hsh
      clear hsh
      by_cases hl0 : l = 0
      · subst hl0
        go_wp2_with fail
        go_ret
        exact ⟨rfl, hB⟩
      · have q2 : ((l : Int) == 0) = false := by rw [beq_eq_false_iff_ne]; omega
        go_wp2_with (refine wpList_load_mid rfl 55 (.tmp 2) rfl w.heap.size 0 rfl (kc10 K long (.slice pi l ci) (.slice pa n ca)) _ h0.whole Try.underlying55 rfl hsz ?_)
        refine (keys10_any w2 K long _ _ hK).mono ?_
        rintro e w3 ⟨kb, rfl, hKA, hB3⟩
        have h0 := h0.below hB3 h0.lt
        have hi0 := hi0.below hB3
        have ha0 := ha0.below hB3
        have hb0 := hb0.below hB3
        have hB := hB.trans (hB3.mono hB.size)
        have c33 := h0.cell 33
        have c34 := h0.cell 34
        rw [(kc10_at _ _ _ _ hK).2.1] at c33
        rw [(kc10_at _ _ _ _ hK).2.2] at c34
        obtain ⟨hrl, hE⟩ := enc_rkK K long hK
        have hos := open_seal (enc (rkK K long)) (firstF (enc (rkK K long)) iv) a b hE (firstF_len _ _)
        have hsl := sealG_len (enc (rkK K long)) (firstF (enc (rkK K long)) iv) a b hE (firstF_len _ _)
        obtain ⟨y, hy⟩ : ∃ y, sealG (enc (rkK K long)) (firstF (enc (rkK K long)) iv) a b = y := ⟨_, rfl⟩
        have Hrl := hid hrl
        have Hy := hid hy
        rw [hy] at hos hsl
        rw [Hm.out] at hsl
        have Hos := hid hos
        have Hsl := hid hsl
        clear hos hsl hrl hE hy hB3
        go_wp2_with fail
        refine (gseal_any w3 kb (rkK K long) hKA Hrl.out pi l ci iv hi0 Hl.out (by omega) hl0 pa n ca a ha0 Hn.out (by omega) pb m cb b hb0 Hm.out (by omega)).mono ?_
        rintro e w4 ⟨v, rfl, hown, hB4⟩
        rw [Hy.out] at hown
        have h0 := h0.below hB4 h0.lt
        have hi0 := hi0.below hB4
        have ha0 := ha0.below hB4
        have hb0 := hb0.below hB4
        have hKA := hKA.below hB4
        have hB := hB.trans (hB4.mono hB.size)
        have c33 := h0.cell 33
        have c34 := h0.cell 34
        rw [(kc10_at _ _ _ _ hK).2.1] at c33
        rw [(kc10_at _ _ _ _ hK).2.2] at c34
        obtain ⟨py, cy, rfl, hcy, hry⟩ := hown.row
        obtain ⟨t, ht⟩ : ∃ t, m + 16 = t := ⟨_, rfl⟩
        have q3 : (m : Int) + 16 = (t : Int) := by omega
        have q4 : (t : Int) ≤ 1000000000 := by omega
        have q5 : 0 ≤ (t : Int) := by omega
        have hyl : y.length = t := by rw [Hsl.out, ht]
        rw [hyl] at hcy ⊢
        have Hyl := hid hyl
        have ht9 : t < 1000000 := by omega
        have ht16 : ¬ t < 16 := by omega
        clear hown hB4 hyl ht
        go_wp2_with fail
        refine (gopen_any w4 kb (rkK K long) hKA Hrl.out pi l ci iv hi0 Hl.out (by omega) hl0 pa n ca a ha0 Hn.out (by omega) py t cy y hry Hyl.out ht9 hcy).mono ?_
        rintro e w5 ⟨v, er, rfl, hA, hB5⟩
        have hb0 := hb0.below hB5
        have hB := hB.trans (hB5.mono hB.size)
        unfold OpenA at hA
        rw [if_neg (by rw [Hyl.out]; exact ht16), Hos.out] at hA
        obtain ⟨rfl, hown⟩ := hA
        obtain ⟨px, cx, rfl, hcx, hrx⟩ := hown.row
        rw [Hm.out]
        have s1 := str_row (n := m) (c := cx) hrx Hm.out
        have s2 := str_row (n := m) (c := cb) hb0 Hm.out
        obtain ⟨st, hst⟩ : ∃ s, str b = s := ⟨_, rfl⟩
        rw [hst] at s1 s2
        clear hown hrx hst hB5 hKA h0 c33 c34
        go_wp2_with fail
        refine (awake10_any _).mono ?_
        rintro e w7 ⟨rfl, hB7⟩
        go_wp2_with fail
        go_ret
        exact ⟨rfl, hB.trans (hB7.mono hB.size)⟩
  · have q1 : 100 < (m : Int) := by omega
    go_enter Try.func11, Try.ntmps11
    go_wp2_with fail
    go_ret
    exact ⟨rfl, hB0⟩
end Go.Proofs.Ytgellbapbphnlaa
