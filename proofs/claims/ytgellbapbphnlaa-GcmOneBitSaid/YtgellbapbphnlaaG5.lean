/- gcm: GcmOneBit, walked -/
import Derived.Test.YtgellbapbphnlaaGz
import Derived.Test.YtgellbapbphnlaaG4
namespace Go.Proofs.Ytgellbapbphnlaa
open Go.RowKit

abbrev tOB : TypeId := 75
def obc (K : List UInt8) (long : Bool) (vi va vb : Value) (at' : Nat) (aad : Bool) : List Value := kc10 K long vi va ++ [vb, .int .u16 at', .bool aad]
theorem obc_len (K : List UInt8) (long : Bool) (vi va vb : Value) (at' : Nat) (aad : Bool) (hK : K.length = 32) : (obc K long vi va vb at' aad).length = 38 := by simp [obc, kc10, bys, hK]
theorem obc_at (K : List UInt8) (long : Bool) (vi va vb : Value) (at' : Nat) (aad : Bool) (hK : K.length = 32) : (obc K long vi va vb at' aad)[35]? = some vb ∧ (obc K long vi va vb at' aad)[36]? = some (.int .u16 at') ∧ (obc K long vi va vb at' aad)[37]? = some (.bool aad) := by
  have h := kc10_len K long vi va hK
  unfold obc
  refine ⟨?_, ?_, ?_⟩ <;> (rw [List.getElem?_append_right (by rw [h]; decide), h]; rfl)
theorem obc_key {w : World} {b : Nat} {K : List UInt8} {long : Bool} {vi va vb : Value} {at' : Nat} {aad : Bool} {T : TypeId} (h : Blk w b (obc K long vi va vb at' aad) T) : w.rangeAt b 0 (kc10 K long vi va) := by
  intro j v hv
  have hj := (List.getElem?_eq_some_iff.1 hv).1
  rw [h.cell]
  unfold obc
  rw [Nat.zero_add, List.getElem?_append_left hj, hv]
theorem be_nought {x : List UInt8} (h : x.length = 16) (h0 : x ≠ z16) : be x ≠ 0 := fun e => h0 (be_inj (by rw [h]; rfl) (by rw [e]; decide))
theorem kc10_one (K : List UInt8) (long : Bool) (pi pa : Option Addr) (l ci n ca : Nat) : ∀ v ∈ kc10 K long (.slice pi l ci) (.slice pa n ca), v.oneCell' = true := by
  intro v hv
  unfold kc10 at hv
  rcases List.mem_append.1 hv with h | h
  · exact bys_one _ v h
  · simp only [List.mem_cons, List.not_mem_nil, or_false] at h
    rcases h with rfl | rfl | rfl <;> rfl

set_option maxRecDepth 100000 in
set_option maxHeartbeats 8000000 in
theorem gcmOneBit_walk (K : List UInt8) (long : Bool) (pi : Option Addr) (l ci : Nat) (iv : List UInt8) (pa : Option Addr) (n ca : Nat) (a : List UInt8) (pb : Option Addr) (m cb : Nat) (b : List UInt8) (at' : Nat) (aad : Bool) (w : World) (hK : K.length = 32)
    (hi : RowAt w pi iv) (hl : iv.length = l) (ha : RowAt w pa a) (hn : a.length = n) (hb : RowAt w pb b) (hm : b.length = m) (hat : at' < 65536) :
    Calls Try.prog 13 #[.agg (obc K long (.slice pi l ci) (.slice pa n ca) (.slice pb m cb) at' aad).toArray] w fun e w' => e = .returned (.bool true) ∧ Below w.heap.size w w' := by
  have hq0 := Blk.new w (obc K long (.slice pi l ci) (.slice pa n ca) (.slice pb m cb) at' aad) tOB
  have hBq : Below w.heap.size w (w.alloc (.cells (obc K long (.slice pi l ci) (.slice pa n ca) (.slice pb m cb) at' aad).toArray tOB)) := (Below.refl _ _).alloc (Nat.le_refl _) _
  have hsz : (Try.prog.info? 55).map (·.size) = some (kc10 K long (.slice pi l ci) (.slice pa n ca)).length := by rw [sizeK10, kc10_len _ _ _ _ hK]
  have a1 : IntKind.i64.wrap (at' : Int) = (at' : Int) := by rw [IntKind.wrap_i64]; omega
  have a2 : (at' : Int) ≤ 65535 := by omega
  have hi0 := hi.below hBq
  have ha0 := ha.below hBq
  have hb0 := hb.below hBq
  have Hl := hid hl
  have Hn := hid hn
  have Hm := hid hm
  clear hi hl ha hn hb hm
  go_enter Try.func13, Try.ntmps13
  go_wp2_with fail
  change Code.wp _ _ _ _ (w.alloc (.cells (obc K long (.slice pi l ci) (.slice pa n ca) (.slice pb m cb) at' aad).toArray tOB))
  generalize w.alloc (.cells (obc K long (.slice pi l ci) (.slice pa n ca) (.slice pb m cb) at' aad).toArray tOB) = w0 at *
  have o1 := (obc_at K long (.slice pi l ci) (.slice pa n ca) (.slice pb m cb) at' aad hK)
  try simp only [Act.put]
  refine tkR (fun w' => Below w0.heap.size w0 w') [] (by kernel_rfl) (fun c a d v w h => by cases d <;> exact h) ((Below.refl _ _).drew) (fun hPF hHeld => ?_)
  refine tkB 0 (.some 16) _ _ rfl rfl (by kernel_rfl) (by kernel_rfl) (by kernel_rfl) (by kernel_rfl) hPF rfl (fun w' => by (go_simp; try with_reducible rfl)) hHeld (fun hHeld => ?_)
  simp only [Act.put, List.setIfInBounds_toArray, List.set_cons_zero, List.set_cons_succ]
  refine tkL 1 (.some 17) _ rfl rfl 55 (.tmp 16) rfl w.heap.size 0 (kc10 K long (.slice pi l ci) (.slice pa n ca)) _ (by kernel_rfl) (by kernel_rfl) (by kernel_rfl) (by kernel_rfl) (by kernel_rfl) hPF rfl rfl (fun w' hw' => obc_key (hq0.below hw' hq0.lt)) Try.underlying55 rfl hsz hHeld (fun hHeld => ?_)
  simp only [Act.put, List.setIfInBounds_toArray, List.set_cons_zero, List.set_cons_succ]
  refine tkB 2 (.some 18) _ _ rfl rfl (by kernel_rfl) (by kernel_rfl) (by kernel_rfl) (by kernel_rfl) hPF rfl (fun w' => by (go_simp; try with_reducible rfl)) hHeld (fun hHeld => ?_)
  simp only [Act.put, List.setIfInBounds_toArray, List.set_cons_zero, List.set_cons_succ]
  refine tkA 3 (.some 19) _ _ rfl rfl (by kernel_rfl) (by kernel_rfl) (by kernel_rfl) (by kernel_rfl) (by kernel_rfl) hPF rfl (fun w' hw' => by (have h1 := (hq0.below hw' hq0.lt).cell 35; rw [o1.1] at h1; go_simp; try with_reducible rfl)) hHeld (fun hHeld => ?_)
  simp only [Act.put, List.setIfInBounds_toArray, List.set_cons_zero, List.set_cons_succ]
  refine tkB 4 (.some 20) _ _ rfl rfl (by kernel_rfl) (by kernel_rfl) (by kernel_rfl) (by kernel_rfl) hPF rfl (fun w' => by (go_simp; try with_reducible rfl)) hHeld (fun hHeld => ?_)
  simp only [Act.put, List.setIfInBounds_toArray, List.set_cons_zero, List.set_cons_succ]
  refine tkA 5 (.some 21) _ _ rfl rfl (by kernel_rfl) (by kernel_rfl) (by kernel_rfl) (by kernel_rfl) (by kernel_rfl) hPF rfl (fun w' hw' => by (have h1 := (hq0.below hw' hq0.lt).cell 36; rw [o1.2.1] at h1; go_simp; try with_reducible rfl)) hHeld (fun hHeld => ?_)
  simp only [Act.put, List.setIfInBounds_toArray, List.set_cons_zero, List.set_cons_succ]
  refine tkB 6 (.some 22) _ _ rfl rfl (by kernel_rfl) (by kernel_rfl) (by kernel_rfl) (by kernel_rfl) hPF rfl (fun w' => by (go_simp; try with_reducible rfl)) hHeld (fun hHeld => ?_)
  simp only [Act.put, List.setIfInBounds_toArray, List.set_cons_zero, List.set_cons_succ]
  refine tkA 7 (.some 23) _ _ rfl rfl (by kernel_rfl) (by kernel_rfl) (by kernel_rfl) (by kernel_rfl) (by kernel_rfl) hPF rfl (fun w' hw' => by (have h1 := (hq0.below hw' hq0.lt).cell 37; rw [o1.2.2] at h1; go_simp; try with_reducible rfl)) hHeld (fun hHeld => ?_)
  simp only [Act.put, List.setIfInBounds_toArray, List.set_cons_zero, List.set_cons_succ]
  have hS := hHeld (by kernel_rfl)
  refine tkW (rs := [8]) (by kernel_rfl) (by simp) (AllK.cons (o := _) rfl (fun KC hKC => ?_) AllK.nil)
  go_simp
  have hS2 := hS.alloc hS.size (.cells (kc10 (List.replicate 32 0) false (.slice none 0 0) (.slice none 0 0)).toArray tKy10)
  have hz := Blk.new w0.drew (kc10 (List.replicate 32 0) false (.slice none 0 0) (.slice none 0 0)) tKy10
  change KC _ (w0.drew.alloc (.cells (kc10 (List.replicate 32 0) false (.slice none 0 0) (.slice none 0 0)).toArray tKy10))
  refine hKC.out _ _ (hS2) (fun hHeld => ?_)
  clear hKC KC
  try simp only [Act.put, List.setIfInBounds_toArray, List.set_cons_zero, List.set_cons_succ]
  have hS := hHeld (by kernel_rfl)
  refine tkW (rs := [9]) (by kernel_rfl) (by simp) (AllK.cons (o := _) rfl (fun KC hKC => ?_) AllK.nil)
  refine wantIt rfl (wp_storeD none rfl 55 (.tmp 3) (.tmp 17) rfl w0.drew.heap.size 0 (kc10 K long (.slice pi l ci) (.slice pa n ca)).toArray rfl rfl (hz.there 0 _ (by rw [List.size_toArray, kc10_len _ _ _ _ hK, kc10_len _ _ _ _ (by rw [List.length_replicate])]; decide)) (by rw [sizeK10, List.size_toArray, kc10_len _ _ _ _ hK]) (all_oneCell_toArray (kc10_one _ _ _ _ _ _ _ _)) ?_)
  refine hKC.out _ _ (hS2.trans (((Chg.refl w0.heap.size [] (w0.drew.alloc (.cells (kc10 (List.replicate 32 0) false (.slice none 0 0) (.slice none 0 0)).toArray tKy10))).setCells (.inr (Nat.le_refl _)) _ _).below (Nat.le_refl _) (by simp))) (fun hHeld => ?_)
  clear hKC KC
  try simp only [Act.put]
  refine tkB 10 (.some 4) _ _ rfl rfl (by kernel_rfl) (by kernel_rfl) (by kernel_rfl) (by kernel_rfl) hPF rfl (fun w' => by (go_simp; try with_reducible rfl)) hHeld (fun hHeld => ?_)
  simp only [Act.put, List.setIfInBounds_toArray, List.set_cons_zero, List.set_cons_succ]
  refine tkB 11 (.some 5) _ _ rfl rfl (by kernel_rfl) (by kernel_rfl) (by kernel_rfl) (by kernel_rfl) hPF rfl (fun w' => by (go_simp; try with_reducible rfl)) hHeld (fun hHeld => ?_)
  simp only [Act.put, List.setIfInBounds_toArray, List.set_cons_zero, List.set_cons_succ]
  refine tkB 12 (.some 6) _ _ rfl rfl (by kernel_rfl) (by kernel_rfl) (by kernel_rfl) (by kernel_rfl) hPF rfl (fun w' => by (go_simp; try with_reducible rfl)) hHeld (fun hHeld => ?_)
  simp only [Act.put, List.setIfInBounds_toArray, List.set_cons_zero, List.set_cons_succ]
  refine tkD (by kernel_rfl) ?_ _
  have h0 : Blk ((w0.drew.alloc (.cells (kc10 (List.replicate 32 0) false (.slice none 0 0) (.slice none 0 0)).toArray tKy10)).setCells w0.drew.heap.size 0 (kc10 K long (.slice pi l ci) (.slice pa n ca))) w0.drew.heap.size (kc10 K long (.slice pi l ci) (.slice pa n ca)) tKy10 := by
    have := hz.setCells (kc10 K long (.slice pi l ci) (.slice pa n ca)) 0 (by rw [kc10_len _ _ _ _ hK, kc10_len _ _ _ _ (by rw [List.length_replicate])]; decide)
    rw [splice_whole _ _ (by rw [kc10_len _ _ _ _ hK, kc10_len _ _ _ _ (by rw [List.length_replicate])])] at this
    exact this
  have hBz : Below w0.heap.size w0 ((w0.drew.alloc (.cells (kc10 (List.replicate 32 0) false (.slice none 0 0) (.slice none 0 0)).toArray tKy10)).setCells w0.drew.heap.size 0 (kc10 K long (.slice pi l ci) (.slice pa n ca))) := hS2.trans (((Chg.refl w0.heap.size [] (w0.drew.alloc (.cells (kc10 (List.replicate 32 0) false (.slice none 0 0) (.slice none 0 0)).toArray tKy10))).setCells (.inr (Nat.le_refl _)) _ _).below (Nat.le_refl _) (by simp))
  have hi0 := hi0.below hBz
  have ha0 := ha0.below hBz
  have hb0 := hb0.below hBz
  have hB0 := hBq.trans (hBz.mono hBq.size)
  clear hq0 hz hS2 hBz hBq hHeld hPF o1
  change Exit.then _ _ _ _ ((w0.drew.alloc (.cells (kc10 (List.replicate 32 0) false (.slice none 0 0) (.slice none 0 0)).toArray tKy10)).setCells w0.drew.heap.size 0 (kc10 K long (.slice pi l ci) (.slice pa n ca)))
  generalize (w0.drew.alloc (.cells (kc10 (List.replicate 32 0) false (.slice none 0 0) (.slice none 0 0)).toArray tKy10)).setCells w0.drew.heap.size 0 (kc10 K long (.slice pi l ci) (.slice pa n ca)) = w1 at *
  have h0 : Blk w1 w0.heap.size (kc10 K long (.slice pi l ci) (.slice pa n ca)) tKy10 := h0
  generalize w0.heap.size = zb at *
  by_cases hm100 : m ≤ 100
  · have qb0 : ¬ (100 < (m : Int)) := by omega
    go_wp2_with (refine wpList_load_midG rfl 55 (.tmp 3) rfl zb 0 rfl (kc10 K long (.slice pi l ci) (.slice pa n ca)) _ h0.whole Try.underlying55 rfl hsz ?_)
    refine (short10_any w1 K long pi pa l ci n ca hK).mono ?_
    rintro e w2 ⟨rfl, hB2⟩
    have h0 := h0.below hB2 h0.lt
    have hi0 := hi0.below hB2
    have ha0 := ha0.below hB2
    have hb0 := hb0.below hB2
    have hB := hB0.trans (hB2.mono hB0.size)
    obtain ⟨sh, hsh⟩ : ∃ z, decide (l ≤ 100 ∧ n ≤ 100) = z := ⟨_, rfl⟩
    rw [hsh]
    clear hB2 hB0
    have c33 := h0.cell 33
    have c34 := h0.cell 34
    rw [(kc10_at _ _ _ _ hK).2.1] at c33
    rw [(kc10_at _ _ _ _ hK).2.2] at c34
    cases sh with
    | false =>
      clear hsh
      go_wp2_with fail
      go_ret
      exact ⟨rfl, hB⟩
    | true =>
      obtain ⟨hl100, hn100⟩ : l ≤ 100 ∧ n ≤ 100 := of_decide_eq_true hsh
      clear hsh
      by_cases hl0 : l = 0
      · subst hl0
        go_wp2_with fail
        go_ret
        exact ⟨rfl, hB⟩
      · have q2 : ((l : Int) == 0) = false := by rw [beq_eq_false_iff_ne]; omega
        go_wp2_with (refine wpList_load_mid rfl 55 (.tmp 3) rfl zb 0 rfl (kc10 K long (.slice pi l ci) (.slice pa n ca)) _ h0.whole Try.underlying55 rfl hsz ?_)
        refine (keys10_any w2 K long _ _ hK).mono ?_
        rintro e w3 ⟨kb, rfl, hKA, hB3⟩
        have h0 := h0.below hB3 h0.lt
        have hi0 := hi0.below hB3
        have ha0 := ha0.below hB3
        have hb0 := hb0.below hB3
        have hB := hB.trans (hB3.mono hB.size)
        obtain ⟨hrl, hE⟩ := enc_rkK K long hK
        have Hrl := hid hrl
        clear hrl hB3 c33 c34
        go_wp2_with fail
        change Calls _ _ #[_, .agg (bys z16).toArray] _ _
        refine (enc_any w3 kb _ z16 hKA rfl).mono ?_
        rintro e w3' ⟨rfl, hB3⟩
        have h0 := h0.below hB3 h0.lt
        have hi0 := hi0.below hB3
        have ha0 := ha0.below hB3
        have hb0 := hb0.below hB3
        have hKA := hKA.below hB3
        have hB := hB.trans (hB3.mono hB.size)
        clear hB3
        generalize w3' = w3 at *
        obtain ⟨E, hEe⟩ : ∃ E, enc (rkK K long) = E := ⟨_, rfl⟩
        rw [hEe] at hE
        have hc := firstF_len E iv
        obtain ⟨c, hce⟩ : ∃ c, firstF E iv = c := ⟨_, rfl⟩
        rw [hce] at hc
        have hYl := hE z16 rfl
        have HE := hid hE
        have HEe := hid hEe
        have Hce := hid hce
        have Hc := hid hc
        rw [show enc (rkK K long) z16 = E z16 from by rw [hEe]]
        obtain ⟨Y, hY⟩ : ∃ Y, E z16 = Y := ⟨_, rfl⟩
        rw [hY] at hYl ⊢
        have hzl : (z16 : List UInt8).length = Y.length := by rw [hYl]; rfl
        obtain ⟨eqb, heqb⟩ : ∃ z, decide (Y = z16) = z := ⟨_, rfl⟩
        have heq : ∀ w, (Op.equalIn 10000 36 (.agg (bys Y).toArray) (.agg #[.int .u8 0, .int .u8 0, .int .u8 0, .int .u8 0, .int .u8 0, .int .u8 0, .int .u8 0, .int .u8 0, .int .u8 0, .int .u8 0, .int .u8 0, .int .u8 0, .int .u8 0, .int .u8 0, .int .u8 0, .int .u8 0])).run Try.prog w = .ok eqb w := fun w => by
          have := run_equalIn_bytes (P := Try.prog) 9998 36 5 .u8 Y z16 (by rw [hYl]; exact under54) under5 size5 hzl.symm w
          rw [← heqb]; exact this
        have HY := hid hY
        have Heqb := hid heqb
        clear hE hEe hce hc hY heqb hzl
        cases eqb with
        | true =>
          go_wp2_with fail
          refine (awake10_any _).mono ?_
          rintro e w9 ⟨rfl, hB9⟩
          go_wp2_with fail
          go_ret
          exact ⟨rfl, hB.trans (hB9.mono hB.size)⟩
        | false =>
          have hbe : be (E z16) ≠ 0 := by rw [HY.out]; exact be_nought hYl (of_decide_eq_false Heqb.out)
          have c33 := h0.cell 33
          have c34 := h0.cell 34
          rw [(kc10_at _ _ _ _ hK).2.1] at c33
          rw [(kc10_at _ _ _ _ hK).2.2] at c34
          have hsl1 := sealG_len E c a b HE.out Hc.out
          rw [Hm.out] at hsl1
          obtain ⟨s, hs⟩ : ∃ s, sealG E c a b = s := ⟨_, rfl⟩
          rw [hs] at hsl1
          have Hs := hid hs
          obtain ⟨lt, hlt⟩ : ∃ lt, m + 16 = lt := ⟨_, rfl⟩
          rw [hlt] at hsl1
          have Hsl1 := hid hsl1
          have Hlt := hid hlt
          have q5 : (m : Int) + 16 = (lt : Int) := by omega
          have q6 : (lt : Int) ≤ 1000000000 := by omega
          have q7 : 0 ≤ (lt : Int) := by omega
          have lt9 : lt < 1000000 := by omega
          have lt16 : ¬ lt < 16 := by omega
          have ltm : m ≤ lt := by omega
          clear hs hsl1 hlt hYl
          go_wp2_with fail
          refine (gseal_any w3 kb (rkK K long) hKA Hrl.out pi l ci iv hi0 Hl.out (by omega) hl0 pa n ca a ha0 Hn.out (by omega) pb m cb b hb0 Hm.out (by omega)).mono ?_
          rw [HEe.out, Hce.out, Hs.out]
          rintro e w4 ⟨v, rfl, hown4, hS4⟩
          have c33 := (h0.below hS4 h0.lt).cell 33
          have c34 := (h0.below hS4 h0.lt).cell 34
          rw [(kc10_at _ _ _ _ hK).2.1] at c33
          rw [(kc10_at _ _ _ _ hK).2.2] at c34
          have c34' := ((h0.below hS4 h0.lt).alloc (.cells #[] 5)).cell 34
          rw [(kc10_at _ _ _ _ hK).2.2] at c34'
          obtain ⟨g, cs, rest, rfl, hcs, hg, hgb⟩ := hown4.blk (by rw [Hsl1.out]; omega)
          rw [Hsl1.out] at hcs ⊢
          have hrs := hgb.headRow
          have ha4 := (ha0.below hS4).below ((Below.refl w4.heap.size w4).alloc (Nat.le_refl _) (.cells #[] 5))
          go_upto_region 13 with (refine wpList_addO (OwnR.made w4) rfl (.tmp 71) (.tmp 73) rfl rfl pa n ca a rfl ha4 Hn.out (by simp; omega) (by simp) ?_; intro v5 w5 hown5 hgrow5 _)
          have hS5 : Below w4.heap.size w4 w5 := ((Below.refl _ _).alloc (Nat.le_refl _) _).grown hgrow5 (by simp) (fun j e => ((OwnR.made w4).lt j e).1)
          rw [List.nil_append] at hown5
          clear hgrow5 ha4
          cases aad with
          | true =>
            by_cases hn0 : n = 0
            · have t1 : ¬ ((n : Int) > 0) := by omega
              have t2 : ¬ (0 < (n : Int)) := by omega
              have hB := hB.trans ((hS4.trans (hS5.mono hS4.size)).mono hB.size)
              obtain ⟨po, co, rfl, hco, hro⟩ := hown5.row
              rw [Hn.out]
              clear hS5 hKA h0 hrs hS4 hown5 hgb hown4 hro hn0
              go_wp2_with fail
              refine (awake10_any _).mono ?_
              rintro e w9 ⟨rfl, hB9⟩
              go_wp2_with fail
              go_ret
              exact ⟨rfl, hB.trans (hB9.mono hB.size)⟩
            · have t1 : 0 < (n : Int) := by omega
              have hgb4 := hgb
              clear hgb hg
              have gg := hcs
              obtain ⟨g4, hg4⟩ : ∃ g4, g = g4 := ⟨_, rfl⟩
              obtain ⟨ps, hps⟩ : ∃ ps : Option Addr, some (⟨g, 0, none⟩ : Addr) = ps := ⟨_, rfl⟩
              rw [hps] at hrs ⊢
              obtain ⟨g, cg, rest, rfl, hcg, hg, hgb⟩ := hown5.blk (by rw [Hn.out]; omega)
              rw [Hn.out] at hcg ⊢
              clear hown5 hown4 hgb4 hg4 hps
              obtain ⟨n8, hn8⟩ : ∃ n8, 8 * n = n8 := ⟨_, rfl⟩
              obtain ⟨d, hd⟩ : ∃ d, at' % n8 = d := ⟨_, rfl⟩
              have hdl : d < n8 := by rw [← hd]; exact Nat.mod_lt _ (by omega)
              have e1 : (8 : Int) * (n : Int) = (n8 : Int) := by omega
              have e2 : (at' : Int).tmod (n8 : Int) = (d : Int) := by rw [Int.tmod_eq_emod_of_nonneg (by omega), ← hd]; exact (Int.natCast_emod _ _).symm
              have e3 : (at' : Int) % (n8 : Int) = (d : Int) := by rw [← hd]; exact (Int.natCast_emod _ _).symm
              have e4 : ((n8 : Int) == 0) = false := by rw [beq_eq_false_iff_ne]; omega
              have e5 : ¬ ((n8 : Int) = 0) := by omega
              have e6 : 0 ≤ (d : Int) := by omega
              have e7 : 0 ≤ (n8 : Int) := by omega
              have e8 : (n8 : Int) ≤ 1000000 := by omega
              obtain ⟨q, hq⟩ : ∃ q, d / 8 = q := ⟨_, rfl⟩
              obtain ⟨r, hr⟩ : ∃ r, d % 8 = r := ⟨_, rfl⟩
              have d1 : (d : Int).tdiv 8 = (q : Int) := by rw [Int.tdiv_eq_ediv_of_nonneg (by omega)]; omega
              have d2 : (d : Int) / 8 = (q : Int) := by omega
              have d3 : (d : Int).tmod 8 = (r : Int) := by rw [Int.tmod_eq_emod_of_nonneg (by omega)]; omega
              have d4 : (d : Int) % 8 = (r : Int) := by omega
              have d7 : IntKind.i64.wrap (q : Int) = (q : Int) := by rw [IntKind.wrap_i64]; omega
              have hqn : q < n := by omega
              have d8 : (q : Int) < (n : Int) := by omega
              have d9 : 0 ≤ (q : Int) := by omega
              have hr8 : r < 8 := by omega
              obtain ⟨v, hv0, hv⟩ := shl_one r hr8
              have hc5 := hgb.headCell q (by rw [Hn.out]; omega)
              have hf5 := hgb.frozen q
              have hgs : Blk (w5.setCell ⟨g, q, none⟩ (.int .u8 (bv (a.getD q 0 ^^^ v)))) g (bys (a.set q (a.getD q 0 ^^^ v)) ++ rest) tU8 := by
                have := hgb.set q (.int .u8 (bv (a.getD q 0 ^^^ v)))
                rw [bys_setAt _ _ _ _ (by rw [Hn.out]; omega)] at this
                exact this
              have htl : (a.set q (a.getD q 0 ^^^ v)).length = n := by rw [List.length_set, Hn.out]
              have hnone := open_bitA E c a b HE.out Hc.out hbe q (a.getD q 0 ^^^ v) (by rw [Hn.out]; exact hqn) (xor_ne hv0)
              rw [Hs.out] at hnone
              have hS6 : Below w3.heap.size w3 (w5.setCell ⟨g, q, none⟩ (.int .u8 (bv (a.getD q 0 ^^^ v)))) := (hS5.mono hS4.size |> fun h => hS4.trans h).trans (((Chg.refl w3.heap.size [] w5).setCell (p := ⟨g, q, none⟩) (.inr (Nat.le_trans hS4.size hg)) _).below (Nat.le_refl _) (by simp))
              have hrs6 : RowAt (w5.setCell ⟨g, q, none⟩ (.int .u8 (bv (a.getD q 0 ^^^ v)))) ps s := hrs.below (hS5.trans (((Chg.refl w4.heap.size [] w5).setCell (p := ⟨g, q, none⟩) (.inr hg) _).below (Nat.le_refl _) (by simp)))
              obtain ⟨t, ht⟩ : ∃ t, a.set q (a.getD q 0 ^^^ v) = t := ⟨_, rfl⟩
              rw [ht] at hgs hnone htl
              generalize a.getD q 0 = x0 at *
              have Hnone := hid hnone
              have Htl := hid htl
              have Hgs := hid hgs
              have HS6 := hid hS6
              have Hrs6 := hid hrs6
              clear hn8 hd hq hr ht hnone htl hgs hS5 hS6 hgb hrs6 hrs
              go_upto_region 15 with fail
              try simp only [Act.put]
              refine tkR (fun w' => w'.cell? ⟨g, q, none⟩ = some (.int .u8 (bv x0))) [10] (by kernel_rfl) (fun c a d v w h => by cases d <;> exact h) (hc5) (fun hPF hHeld => ?_)
              refine tkB 0 (.some 87) _ _ rfl rfl (by kernel_rfl) (by kernel_rfl) (by kernel_rfl) (by kernel_rfl) hPF rfl (fun w' => by (go_simp; try with_reducible rfl)) hHeld (fun hHeld => ?_)
              simp only [Act.put, List.setIfInBounds_toArray, List.set_cons_zero, List.set_cons_succ]
              refine tkB 1 (.some 88) _ _ rfl rfl (by kernel_rfl) (by kernel_rfl) (by kernel_rfl) (by kernel_rfl) hPF rfl (fun w' => by (go_simp; try with_reducible rfl)) hHeld (fun hHeld => ?_)
              simp only [Act.put, List.setIfInBounds_toArray, List.set_cons_zero, List.set_cons_succ]
              refine tkB 2 (.some 89) _ _ rfl rfl (by kernel_rfl) (by kernel_rfl) (by kernel_rfl) (by kernel_rfl) hPF rfl (fun w' => by (go_simp; try with_reducible rfl)) hHeld (fun hHeld => ?_)
              simp only [Act.put, List.setIfInBounds_toArray, List.set_cons_zero, List.set_cons_succ]
              refine tkB 3 (.some 90) _ _ rfl rfl (by kernel_rfl) (by kernel_rfl) (by kernel_rfl) (by kernel_rfl) hPF rfl (fun w' => by (go_simp; try with_reducible rfl)) hHeld (fun hHeld => ?_)
              simp only [Act.put, List.setIfInBounds_toArray, List.set_cons_zero, List.set_cons_succ]
              refine tkA 4 (.some 91) _ _ rfl rfl (by kernel_rfl) (by kernel_rfl) (by kernel_rfl) (by kernel_rfl) (by kernel_rfl) hPF rfl (fun w' hw' => by (have h1 := hw'; go_simp; try with_reducible rfl)) hHeld (fun hHeld => ?_)
              simp only [Act.put, List.setIfInBounds_toArray, List.set_cons_zero, List.set_cons_succ]
              refine tkB 5 (.some 92) _ _ rfl rfl (by kernel_rfl) (by kernel_rfl) (by kernel_rfl) (by kernel_rfl) hPF rfl (fun w' => by (go_simp; try with_reducible rfl)) hHeld (fun hHeld => ?_)
              simp only [Act.put, List.setIfInBounds_toArray, List.set_cons_zero, List.set_cons_succ]
              refine tkB 6 (.some 93) _ _ rfl rfl (by kernel_rfl) (by kernel_rfl) (by kernel_rfl) (by kernel_rfl) hPF rfl (fun w' => by (go_simp; try with_reducible rfl)) hHeld (fun hHeld => ?_)
              simp only [Act.put, List.setIfInBounds_toArray, List.set_cons_zero, List.set_cons_succ]
              refine tkB 7 (.some 94) _ _ rfl rfl (by kernel_rfl) (by kernel_rfl) (by kernel_rfl) (by kernel_rfl) hPF rfl (fun w' => by (go_simp; try with_reducible rfl)) hHeld (fun hHeld => ?_)
              simp only [Act.put, List.setIfInBounds_toArray, List.set_cons_zero, List.set_cons_succ]
              refine tkB 8 (.some 95) _ _ rfl rfl (by kernel_rfl) (by kernel_rfl) (by kernel_rfl) (by kernel_rfl) hPF rfl (fun w' => by (go_simp; try with_reducible rfl)) hHeld (fun hHeld => ?_)
              simp only [Act.put, List.setIfInBounds_toArray, List.set_cons_zero, List.set_cons_succ]
              refine tkB 9 (.some 96) _ _ rfl rfl (by kernel_rfl) (by kernel_rfl) (by kernel_rfl) (by kernel_rfl) hPF rfl (fun w' => by (go_simp; try with_reducible rfl)) hHeld (fun hHeld => ?_)
              simp only [Act.put, List.setIfInBounds_toArray, List.set_cons_zero, List.set_cons_succ]
              refine tkW (rs := [10]) (by kernel_rfl) (by simp) (AllK.close (o := _) rfl (by kernel_rfl) (fun KC hKC => ?_) AllK.nil)
              go_simp
              refine hKC.out _ _ (fun hHeld => ?_)
              clear hKC KC
              try simp only [Act.put]
              refine tkD (by kernel_rfl) ?_ _
              have hS6 := HS6.out.drew
              have hrt := (Hgs.out.drew).headRow
              have hrs := Hrs6.out.drew
              have h0 := h0.below hS6 h0.lt
              have hi0 := hi0.below hS6
              have hKA := hKA.below hS6
              have hB := hB.trans (hS6.mono hB.size)
              change Exit.then _ _ _ _ (w5.setCell ⟨g, q, none⟩ (.int .u8 (bv (x0 ^^^ v)))).drew
              generalize (w5.setCell ⟨g, q, none⟩ (.int .u8 (bv (x0 ^^^ v)))).drew = W at *
              have c33 := h0.cell 33
              rw [(kc10_at _ _ _ _ hK).2.1] at c33
              clear hS6 hHeld hPF hc5 hf5
              go_wp2_with fail
              refine (gopen_any W kb (rkK K long) hKA Hrl.out pi l ci iv hi0 Hl.out (by omega) hl0 (some ⟨g, 0, none⟩) n cg t hrt Htl.out (by omega) ps lt cs s hrs Hsl1.out lt9 hcs).mono ?_
              rw [HEe.out, Hce.out, Hnone.out]
              rintro e w6 ⟨v, er, rfl, hA, hB6⟩
              unfold OpenA at hA
              rw [if_neg (by rw [Hsl1.out]; exact lt16)] at hA
              obtain ⟨rfl, rfl⟩ := hA
              have hB := hB.trans (hB6.mono hB.size)
              clear hB6 hrt hrs hKA h0 c33
              go_wp2_with fail
              refine (awake10_any _).mono ?_
              rintro e w9 ⟨rfl, hB9⟩
              go_wp2_with fail
              go_ret
              exact ⟨rfl, hB.trans (hB9.mono hB.size)⟩
          | false =>
            by_cases hm0 : m = 0
            · have t1 : ¬ (0 < (m : Int)) := by omega
              obtain ⟨po, co, rfl, hco, hro⟩ := hown5.row
              rw [Hn.out]
              have hB := hB.trans ((hS4.trans (hS5.mono hS4.size)).mono hB.size)
              clear hS5 hKA h0 hrs hS4 hown5 hgb hown4 hro hm0
              go_wp2_with fail
              refine (awake10_any _).mono ?_
              rintro e w9 ⟨rfl, hB9⟩
              go_wp2_with fail
              go_ret
              exact ⟨rfl, hB.trans (hB9.mono hB.size)⟩
            · have t1 : 0 < (m : Int) := by omega
              have hgb := hgb.below hS5 hgb.lt
              have lg := (hown4.lt g rfl).2
              have hoff : ∀ po : Option Addr, ∀ n co, v5 = .slice po n co → Off [g] po := fun po n co e x hx => by
                subst hx
                have := (hown5.lt x.block (by rw [e]; rfl)).1
                simp only [List.mem_singleton]; omega
              obtain ⟨po, co, rfl, hco, hro⟩ := hown5.row
              have hoff := hoff po _ _ rfl
              rw [Hn.out] at hco ⊢
              clear hown5 hown4 lg
              obtain ⟨n8, hn8⟩ : ∃ n8, 8 * m = n8 := ⟨_, rfl⟩
              obtain ⟨d, hd⟩ : ∃ d, at' % n8 = d := ⟨_, rfl⟩
              have hdl : d < n8 := by rw [← hd]; exact Nat.mod_lt _ (by omega)
              have e1 : (8 : Int) * (m : Int) = (n8 : Int) := by omega
              have e2 : (at' : Int).tmod (n8 : Int) = (d : Int) := by rw [Int.tmod_eq_emod_of_nonneg (by omega), ← hd]; exact (Int.natCast_emod _ _).symm
              have e3 : (at' : Int) % (n8 : Int) = (d : Int) := by rw [← hd]; exact (Int.natCast_emod _ _).symm
              have e4 : ((n8 : Int) == 0) = false := by rw [beq_eq_false_iff_ne]; omega
              have e5 : ¬ ((n8 : Int) = 0) := by omega
              have e6 : 0 ≤ (d : Int) := by omega
              have e7 : 0 ≤ (n8 : Int) := by omega
              have e8 : (n8 : Int) ≤ 1000000 := by omega
              obtain ⟨q, hq⟩ : ∃ q, d / 8 = q := ⟨_, rfl⟩
              obtain ⟨r, hr⟩ : ∃ r, d % 8 = r := ⟨_, rfl⟩
              have d1 : (d : Int).tdiv 8 = (q : Int) := by rw [Int.tdiv_eq_ediv_of_nonneg (by omega)]; omega
              have d2 : (d : Int) / 8 = (q : Int) := by omega
              have d3 : (d : Int).tmod 8 = (r : Int) := by rw [Int.tmod_eq_emod_of_nonneg (by omega)]; omega
              have d4 : (d : Int) % 8 = (r : Int) := by omega
              have d7 : IntKind.i64.wrap (q : Int) = (q : Int) := by rw [IntKind.wrap_i64]; omega
              have hqn : q < m := by omega
              have d8 : (q : Int) < (lt : Int) := by omega
              have d9 : 0 ≤ (q : Int) := by omega
              have hr8 : r < 8 := by omega
              obtain ⟨v, hv0, hv⟩ := shl_one r hr8
              have hc5 := hgb.headCell q (by rw [Hsl1.out]; omega)
              have hf5 := hgb.frozen q
              have hgs : Blk (w5.setCell ⟨g, q, none⟩ (.int .u8 (bv (s.getD q 0 ^^^ v)))) g (bys (s.set q (s.getD q 0 ^^^ v)) ++ rest) tU8 := by
                have := hgb.set q (.int .u8 (bv (s.getD q 0 ^^^ v)))
                rw [bys_setAt _ _ _ _ (by rw [Hsl1.out]; omega)] at this
                exact this
              have htl : (s.set q (s.getD q 0 ^^^ v)).length = lt := by rw [List.length_set, Hsl1.out]
              have hnone := open_bitT E c a b HE.out Hc.out hbe q (s.getD q 0 ^^^ v) (by rw [Hm.out]; exact hqn) (by rw [Hs.out]; exact xor_ne hv0)
              rw [Hs.out] at hnone
              have hS6 : Below w3.heap.size w3 (w5.setCell ⟨g, q, none⟩ (.int .u8 (bv (s.getD q 0 ^^^ v)))) := (hS5.mono hS4.size |> fun h => hS4.trans h).trans (((Chg.refl w3.heap.size [] w5).setCell (p := ⟨g, q, none⟩) (.inr hg) _).below (Nat.le_refl _) (by simp))
              have hro6 : RowAt (w5.setCell ⟨g, q, none⟩ (.int .u8 (bv (s.getD q 0 ^^^ v)))) po a := hro.chg ((Chg.refl w5.heap.size [g] w5).setCell (p := ⟨g, q, none⟩) (.inl (by simp)) _) (Nat.le_refl _) hoff
              obtain ⟨t, ht⟩ : ∃ t, s.set q (s.getD q 0 ^^^ v) = t := ⟨_, rfl⟩
              rw [ht] at hgs hnone htl
              generalize s.getD q 0 = x0 at *
              have Hnone := hid hnone
              have Htl := hid htl
              have Hgs := hid hgs
              have HS6 := hid hS6
              have Hro6 := hid hro6
              clear hn8 hd hq hr ht hnone htl hgs hS5 hS6 hgb hro6 hro hoff
              go_upto_region 18 with fail
              try simp only [Act.put]
              refine tkR (fun w' => w'.cell? ⟨g, q, none⟩ = some (.int .u8 (bv x0))) [10] (by kernel_rfl) (fun c a d v w h => by cases d <;> exact h) (hc5) (fun hPF hHeld => ?_)
              refine tkB 0 (.some 110) _ _ rfl rfl (by kernel_rfl) (by kernel_rfl) (by kernel_rfl) (by kernel_rfl) hPF rfl (fun w' => by (go_simp; try with_reducible rfl)) hHeld (fun hHeld => ?_)
              simp only [Act.put, List.setIfInBounds_toArray, List.set_cons_zero, List.set_cons_succ]
              refine tkB 1 (.some 111) _ _ rfl rfl (by kernel_rfl) (by kernel_rfl) (by kernel_rfl) (by kernel_rfl) hPF rfl (fun w' => by (go_simp; try with_reducible rfl)) hHeld (fun hHeld => ?_)
              simp only [Act.put, List.setIfInBounds_toArray, List.set_cons_zero, List.set_cons_succ]
              refine tkB 2 (.some 112) _ _ rfl rfl (by kernel_rfl) (by kernel_rfl) (by kernel_rfl) (by kernel_rfl) hPF rfl (fun w' => by (go_simp; try with_reducible rfl)) hHeld (fun hHeld => ?_)
              simp only [Act.put, List.setIfInBounds_toArray, List.set_cons_zero, List.set_cons_succ]
              refine tkB 3 (.some 113) _ _ rfl rfl (by kernel_rfl) (by kernel_rfl) (by kernel_rfl) (by kernel_rfl) hPF rfl (fun w' => by (go_simp; try with_reducible rfl)) hHeld (fun hHeld => ?_)
              simp only [Act.put, List.setIfInBounds_toArray, List.set_cons_zero, List.set_cons_succ]
              refine tkA 4 (.some 114) _ _ rfl rfl (by kernel_rfl) (by kernel_rfl) (by kernel_rfl) (by kernel_rfl) (by kernel_rfl) hPF rfl (fun w' hw' => by (have h1 := hw'; go_simp; try with_reducible rfl)) hHeld (fun hHeld => ?_)
              simp only [Act.put, List.setIfInBounds_toArray, List.set_cons_zero, List.set_cons_succ]
              refine tkB 5 (.some 115) _ _ rfl rfl (by kernel_rfl) (by kernel_rfl) (by kernel_rfl) (by kernel_rfl) hPF rfl (fun w' => by (go_simp; try with_reducible rfl)) hHeld (fun hHeld => ?_)
              simp only [Act.put, List.setIfInBounds_toArray, List.set_cons_zero, List.set_cons_succ]
              refine tkB 6 (.some 116) _ _ rfl rfl (by kernel_rfl) (by kernel_rfl) (by kernel_rfl) (by kernel_rfl) hPF rfl (fun w' => by (go_simp; try with_reducible rfl)) hHeld (fun hHeld => ?_)
              simp only [Act.put, List.setIfInBounds_toArray, List.set_cons_zero, List.set_cons_succ]
              refine tkB 7 (.some 117) _ _ rfl rfl (by kernel_rfl) (by kernel_rfl) (by kernel_rfl) (by kernel_rfl) hPF rfl (fun w' => by (go_simp; try with_reducible rfl)) hHeld (fun hHeld => ?_)
              simp only [Act.put, List.setIfInBounds_toArray, List.set_cons_zero, List.set_cons_succ]
              refine tkB 8 (.some 118) _ _ rfl rfl (by kernel_rfl) (by kernel_rfl) (by kernel_rfl) (by kernel_rfl) hPF rfl (fun w' => by (go_simp; try with_reducible rfl)) hHeld (fun hHeld => ?_)
              simp only [Act.put, List.setIfInBounds_toArray, List.set_cons_zero, List.set_cons_succ]
              refine tkB 9 (.some 119) _ _ rfl rfl (by kernel_rfl) (by kernel_rfl) (by kernel_rfl) (by kernel_rfl) hPF rfl (fun w' => by (go_simp; try with_reducible rfl)) hHeld (fun hHeld => ?_)
              simp only [Act.put, List.setIfInBounds_toArray, List.set_cons_zero, List.set_cons_succ]
              refine tkW (rs := [10]) (by kernel_rfl) (by simp) (AllK.close (o := _) rfl (by kernel_rfl) (fun KC hKC => ?_) AllK.nil)
              go_simp
              refine hKC.out _ _ (fun hHeld => ?_)
              clear hKC KC
              try simp only [Act.put]
              refine tkD (by kernel_rfl) ?_ _
              have hS6 := HS6.out.drew
              have hrt := (Hgs.out.drew).headRow
              have hro := Hro6.out.drew
              have h0 := h0.below hS6 h0.lt
              have hi0 := hi0.below hS6
              have hKA := hKA.below hS6
              have hB := hB.trans (hS6.mono hB.size)
              change Exit.then _ _ _ _ (w5.setCell ⟨g, q, none⟩ (.int .u8 (bv (x0 ^^^ v)))).drew
              generalize (w5.setCell ⟨g, q, none⟩ (.int .u8 (bv (x0 ^^^ v)))).drew = W at *
              have c33 := h0.cell 33
              rw [(kc10_at _ _ _ _ hK).2.1] at c33
              clear hS6 hHeld hPF hc5 hf5
              go_wp2_with fail
              refine (gopen_any W kb (rkK K long) hKA Hrl.out pi l ci iv hi0 Hl.out (by omega) hl0 po n co a hro Hn.out (by omega) (some ⟨g, 0, none⟩) lt cs t hrt Htl.out lt9 hcs).mono ?_
              rw [HEe.out, Hce.out, Hnone.out]
              rintro e w6 ⟨v, er, rfl, hA, hB6⟩
              unfold OpenA at hA
              rw [if_neg (by rw [Htl.out]; exact lt16)] at hA
              obtain ⟨rfl, rfl⟩ := hA
              have hB := hB.trans (hB6.mono hB.size)
              clear hB6 hrt hro hKA h0 c33
              go_wp2_with fail
              refine (awake10_any _).mono ?_
              rintro e w9 ⟨rfl, hB9⟩
              go_wp2_with fail
              go_ret
              exact ⟨rfl, hB.trans (hB9.mono hB.size)⟩
  · have qb0 : 100 < (m : Int) := by omega
    go_wp2_with fail
    go_ret
    exact ⟨rfl, hB0⟩
end Go.Proofs.Ytgellbapbphnlaa
