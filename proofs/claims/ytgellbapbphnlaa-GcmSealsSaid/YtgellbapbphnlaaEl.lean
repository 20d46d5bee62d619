/- ghash: elements, times x -/
import Derived.Test.YtgellbapbphnlaaBg
import Derived.Test.YtgellbapbphnlaaGf
import Derived.Deep.DeepCutAuto
namespace Go.Proofs.Ytgellbapbphnlaa
open Go.RowKit

def hiN (n : Nat) : Nat := n / 18446744073709551616
def loN (n : Nat) : Nat := n % 18446744073709551616
/-- An element's cells. -/
abbrev elc (n : Nat) : List Value := [U64 (hiN n), U64 (loN n)]
abbrev tEl : TypeId := 151
theorem hiN_lt {n : Nat} (h : n < 2 ^ 128) : hiN n < 18446744073709551616 := by unfold hiN; omega
theorem loN_lt (n : Nat) : loN n < 18446744073709551616 := by unfold loN; omega
theorem hilo (n : Nat) : hiN n * 18446744073709551616 + loN n = n := by unfold hiN loN; omega
theorem hiN_of {a b : Nat} (hb : b < 18446744073709551616) : hiN (a * 18446744073709551616 + b) = a := by unfold hiN; omega
theorem loN_of {a b : Nat} (hb : b < 18446744073709551616) : loN (a * 18446744073709551616 + b) = b := by unfold loN; omega
theorem hiN_xor (x y : Nat) : hiN (x ^^^ y) = hiN x ^^^ hiN y := Nat.xor_div_two_pow (n := 64)
theorem loN_xor (x y : Nat) : loN (x ^^^ y) = loN x ^^^ loN y := Nat.xor_mod_two_pow (n := 64)
theorem bx_nat (m k : Nat) (hm : m < 18446744073709551616) (hk : k < 18446744073709551616) : bits .xor .u64 (m : Int) (k : Int) = ((m ^^^ k : Nat) : Int) := by
  rw [u64_xor_nat _ _ hm hk]
theorem onN_hi (n : Nat) : hiN (onN n) = (hiN n / 2) ^^^ (if loN n % 2 = 1 then 16212958658533785600 else 0) := by
  unfold onN
  rw [hiN_xor, Nat.shiftRight_eq_div_pow, Nat.testBit_zero]
  have h1 : hiN (n / 2 ^ 1) = hiN n / 2 := by unfold hiN; omega
  have h2 : loN n % 2 = n % 2 := by unfold loN; omega
  rw [h1, h2]
  congr 1
  by_cases h : n % 2 = 1
  · simp only [h, decide_true, if_true]; decide
  · simp only [h, decide_false, if_false]; rfl
theorem onN_lo (n : Nat) : loN (onN n) = loN n / 2 + hiN n % 2 * 9223372036854775808 := by
  unfold onN
  have h0 : loN (if n.testBit 0 = true then W128 else 0) = 0 := by cases n.testBit 0 <;> decide
  rw [loN_xor, h0, Nat.xor_zero, Nat.shiftRight_eq_div_pow]
  unfold loN hiN
  omega
theorem or_half (x c : Nat) (h : x < 9223372036854775808) (hc : c < 2) : bits .or .u64 (x : Int) ((c * 9223372036854775808 : Nat) : Int) = ((x + c * 9223372036854775808 : Nat) : Int) := by
  rw [u64_or_nat _ _ (by omega) (by omega)]
  have := Nat.two_pow_add_eq_or_of_lt (i := 63) (b := x) (by omega) c
  rw [Nat.or_comm, show c * 9223372036854775808 = 2 ^ 63 * c by omega, ← this, Nat.add_comm]
theorem sizeEl : (Try.prog.info? 151).map (·.size) = some 2 := by kernel_rfl
theorem blkEl (w : World) (a b x d : Value) : Blk (((w.alloc (.cells #[a, b] tEl)).alloc (.cells #[x, d] tEl)).alloc (.cells #[x, d] tEl)) (w.heap.size + 1) [x, d] tEl := by
  have := (Blk.new (w.alloc (.cells #[a, b] tEl)) [x, d] tEl).alloc (.cells #[x, d] tEl)
  simpa using this
set_option maxRecDepth 100000 in
set_option maxHeartbeats 1000000 in
theorem on_any (w : World) (n : Nat) (hn : n < 2 ^ 128) :
    Calls Try.prog 113 #[.agg (elc n).toArray] w fun e w' => e = .returned (.agg (elc (onN n)).toArray) ∧ Below w.heap.size w w' := by
  obtain ⟨a, ha⟩ : ∃ a, hiN n = a := ⟨_, rfl⟩
  obtain ⟨b, hb⟩ : ∃ b, loN n = b := ⟨_, rfl⟩
  have h1 := onN_hi n
  have h2 := onN_lo n
  have la := hiN_lt hn
  have lb := loN_lt n
  unfold elc
  rw [ha, hb] at h1 h2
  rw [ha] at la
  rw [hb] at lb
  rw [ha, hb, h1, h2]
  obtain ⟨q, hq⟩ : ∃ q, a / 2 = q := ⟨_, rfl⟩
  obtain ⟨r, hr⟩ : ∃ r, b / 2 = r := ⟨_, rfl⟩
  obtain ⟨c, hc⟩ : ∃ c, a % 2 * 9223372036854775808 = c := ⟨_, rfl⟩
  obtain ⟨d, hd⟩ : ∃ d, r + c = d := ⟨_, rfl⟩
  obtain ⟨x, hx⟩ : ∃ x, q ^^^ 16212958658533785600 = x := ⟨_, rfl⟩
  have e1 : (a : Int) / 2 = (q : Int) := by omega
  have e2 : (b : Int) / 2 = (r : Int) := by omega
  have e3 : IntKind.u64.wrap ((a : Int) * 9223372036854775808) = (c : Int) := by rw [IntKind.wrap_u64]; omega
  have e4 : bits .or .u64 (r : Int) (c : Int) = (d : Int) := by rw [← hc, or_half _ _ (by omega) (by omega), hc, hd]
  have e5 : bits .xor .u64 (q : Int) 16212958658533785600 = (x : Int) := by
    have := bx_nat q 16212958658533785600 (by omega) (by decide)
    rw [hx] at this; exact this
  rw [hq, hr, hc, hd]
  have hB : ∀ o1 o2 o3 : Obj, Below w.heap.size w (((w.alloc o1).alloc o2).alloc o3) := fun o1 o2 o3 => (((Below.refl _ _).alloc (Nat.le_refl _) _).alloc (by simp) _).alloc (by simp; omega) _
  by_cases ho : b % 2 = 1
  · have e6 : bits .and .u64 (b : Int) 1 = 1 := by
      have := u64_and_nat b 1 lb (by decide)
      rw [Nat.and_one_is_mod, ho] at this; exact this
    rw [if_pos ho, hx]
    clear h1 h2 ha hb hn hq hr hc hd hx ho la lb
    go_enter Try.func113, Try.ntmps113
    go_wp2_with fail
    refine bodyPost_ret (v := .agg [U64 x, U64 d].toArray) (results_cell_row (P := Try.prog) (p := 2) (ty := 151) rfl _ _ (w.heap.size + 1) tEl _ (0, 0) _ rfl (blkEl w (U64 a) (U64 b) (U64 x) (U64 d)) Try.underlying151 rfl sizeEl) rfl ⟨rfl, hB _ _ _⟩
  · have e6 : bits .and .u64 (b : Int) 1 = 0 := by
      have := u64_and_nat b 1 lb (by decide)
      rw [Nat.and_one_is_mod, show b % 2 = 0 by omega] at this; exact this
    rw [if_neg ho, Nat.xor_zero]
    clear h1 h2 ha hb hn hq hr hc hd hx e5 ho la lb
    go_enter Try.func113, Try.ntmps113
    go_wp2_with fail
    refine bodyPost_ret (v := .agg [U64 q, U64 d].toArray) (results_cell_row (P := Try.prog) (p := 2) (ty := 151) rfl _ _ (w.heap.size + 1) tEl _ (0, 0) _ rfl (blkEl w (U64 a) (U64 b) (U64 q) (U64 d)) Try.underlying151 rfl sizeEl) rfl ⟨rfl, hB _ _ _⟩

theorem bit_hi (e k : Nat) (he : e < 2 ^ 128) (h : k ≤ 63) : bits .and .u64 ((hiN e : Int) / 2 ^ (63 - k)) 1 = if e.testBit (127 - k) = true then 1 else 0 := by
  have e1 : ((hiN e : Int) / 2 ^ (63 - k)) = ((hiN e / 2 ^ (63 - k) : Nat) : Int) := by simp
  have e3 : hiN e / 2 ^ (63 - k) = e / 2 ^ (127 - k) := by
    unfold hiN
    rw [show (18446744073709551616 : Nat) = 2 ^ 64 from rfl, Nat.div_div_eq_div_mul, ← Nat.pow_add]
    congr 2; omega
  have e2 := u64_and_nat (hiN e / 2 ^ (63 - k)) 1 (Nat.lt_of_le_of_lt (Nat.div_le_self _ _) (hiN_lt he)) (by decide)
  rw [e1]
  refine Eq.trans e2 ?_
  rw [Nat.and_one_is_mod, e3, Nat.testBit_eq_decide_div_mod_eq]
  by_cases h2 : e / 2 ^ (127 - k) % 2 = 1
  · rw [h2]; rfl
  · rw [show e / 2 ^ (127 - k) % 2 = 0 by omega]; rfl
theorem bit_lo (e s : Nat) (h : s ≤ 63) : bits .and .u64 ((loN e : Int) / 2 ^ s) 1 = if e.testBit s = true then 1 else 0 := by
  have e1 : ((loN e : Int) / 2 ^ s) = ((loN e / 2 ^ s : Nat) : Int) := by simp
  have e3 : (loN e).testBit s = e.testBit s := by
    show (e % 2 ^ 64).testBit s = _
    rw [Nat.testBit_mod_two_pow, decide_eq_true (by omega), Bool.true_and]
  have e2 := u64_and_nat (loN e / 2 ^ s) 1 (Nat.lt_of_le_of_lt (Nat.div_le_self _ _) (loN_lt e)) (by decide)
  rw [e1]
  refine Eq.trans e2 ?_
  rw [← e3, Nat.and_one_is_mod, Nat.testBit_eq_decide_div_mod_eq]
  by_cases h2 : loN e / 2 ^ s % 2 = 1
  · rw [h2]; rfl
  · rw [show loN e / 2 ^ s % 2 = 0 by omega]; rfl
set_option maxRecDepth 100000 in
set_option maxHeartbeats 2000000 in
theorem times_any (w : World) (e f : Nat) (he : e < 2 ^ 128) (hf : f < 2 ^ 128) :
    Calls Try.prog 109 #[.agg (elc e).toArray, .agg (elc f).toArray] w fun e' w' => e' = .returned (.agg (elc (mulN e f)).toArray) ∧ Below w.heap.size w w' := by
  have HE := hid he
  have HF := hid hf
  clear he hf
  go_enter Try.func109, Try.ntmps109
  go_wp2_with fail
  go_loopw [9] (fun i wx => ∃ k : Nat, k ≤ 128 ∧ i = .int .i64 k ∧ Blk wx w.heap.size (elc e) tEl ∧ Blk wx (w.heap.size + 1) (elc (onI k f)) tEl ∧ Blk wx (w.heap.size + 1 + 1) (elc 0) tEl ∧ Blk wx (w.heap.size + 1 + 1 + 1) (elc (mulTo e f k)) tEl ∧ Below w.heap.size w wx) (fun i _ => 128 - (intOf i).toNat)
  case atStart =>
    refine ⟨0, by omega, rfl, ?_, ?_, ?_, ?_, ?_⟩
    · exact (((Blk.new w (elc e) tEl).alloc _).alloc _).alloc _
    · have := ((Blk.new (w.alloc (.cells (elc e).toArray tEl)) (elc f) tEl).alloc (.cells #[U64 0, U64 0] tEl)).alloc (.cells #[U64 0, U64 0] tEl)
      (simp only [World.size_alloc] at this; exact this)
    · have := (Blk.new ((w.alloc (.cells (elc e).toArray tEl)).alloc (.cells (elc f).toArray tEl)) (elc 0) tEl).alloc (.cells #[U64 0, U64 0] tEl)
      (simp only [World.size_alloc] at this; exact this)
    · have := Blk.new (((w.alloc (.cells (elc e).toArray tEl)).alloc (.cells (elc f).toArray tEl)).alloc (.cells #[U64 0, U64 0] tEl)) (elc 0) tEl
      (simp only [World.size_alloc] at this; exact this)
    · exact ((((Below.refl _ _).alloc (Nat.le_refl _) _).alloc (by simp) _).alloc (by simp; omega) _).alloc (by simp; omega) _
  case round =>
    obtain ⟨k, hk, rfl, h0, h1, h2, h3, hB⟩ := hrel
    by_cases hlt : k < 128
    · obtain ⟨F, hF⟩ : ∃ F, onI k f = F := ⟨_, rfl⟩
      obtain ⟨G, hG⟩ : ∃ G, onN F = G := ⟨_, rfl⟩
      obtain ⟨O, hO⟩ : ∃ O, mulTo e f k = O := ⟨_, rfl⟩
      have hFl : F < 2 ^ 128 := by rw [← hF]; exact onI_lt k HF.out
      have hOl : O < 2 ^ 128 := by rw [← hO]; exact mulTo_lt e HF.out k
      have hmu : mulTo e f (k + 1) = O ^^^ (if e.testBit (127 - k) = true then F else 0) := by rw [mulTo, hO, hF]
      have HFl := hid hFl
      have HOl := hid hOl
      have HG := hid hG
      have HFe := hid hF
      rw [hF] at h1
      rw [hO] at h3
      clear hF hG hO hFl hOl
      have c0 := h0.cell 0
      have c1 := h0.cell 1
      have d0 := h1.cell 0
      have d1 := h1.cell 1
      have g0 := h3.cell 0
      have g1 := h3.cell 1
      have f0 := h3.frozen 0
      have f1 := h3.frozen 1
      simp only [List.getElem?_cons_zero, List.getElem?_cons_succ] at c0 c1 d0 d1 g0 g1
      by_cases h63 : k ≤ 63
      · have q2 : ¬ (63 < (k : Int)) := by omega
        have hand := bit_hi e k HE.out h63
        have H0 := hid h0
        have H1 := hid h1
        have H2 := hid h2
        have H3 := hid h3
        have HBB := hid hB
        clear h0 h1 h2 h3 hB
        cases hbit : e.testBit (127 - k)
        · rw [hbit] at hand hmu
          simp only [Bool.false_eq_true, if_false, Nat.xor_zero] at hand hmu
          have Hmu := hid hmu
          clear hmu hbit
          go_wp2_with fail
          refine (on_any _ F HFl.out).mono ?_
          rintro e' w2 ⟨rfl, hB2⟩
          rw [HG.out]
          have l1 := H1.out.lt
          have l3 := H3.out.lt
          have h0 := H0.out.below hB2 H0.out.lt
          have h1 := H1.out.below hB2 H1.out.lt
          have h2 := H2.out.below hB2 H2.out.lt
          have h3 := H3.out.below hB2 H3.out.lt
          have hB := HBB.out.trans (hB2.mono HBB.out.size)
          have f0 := h1.frozen 0
          have f1 := h1.frozen 1
          have d0 := h1.cell 0
          have d1 := h1.cell 1
          simp only [List.getElem?_cons_zero, List.getElem?_cons_succ] at d0 d1
          have h1' := (h1.set 0 (U64 (hiN G))).set 1 (U64 (loN G))
          have h0' := (h0.setNe (a := ⟨w.heap.size + 1, 0, none⟩) (by simp) (U64 (hiN G))).setNe (a := ⟨w.heap.size + 1, 1, none⟩) (by simp) (U64 (loN G))
          have h2' := (h2.setNe (a := ⟨w.heap.size + 1, 0, none⟩) (by simp) (U64 (hiN G))).setNe (a := ⟨w.heap.size + 1, 1, none⟩) (by simp) (U64 (loN G))
          have h3' := (h3.setNe (a := ⟨w.heap.size + 1, 0, none⟩) (by simp only; omega) (U64 (hiN G))).setNe (a := ⟨w.heap.size + 1, 1, none⟩) (by simp only; omega) (U64 (loN G))
          have hB' := hB.trans ((((Chg.refl w.heap.size [] w2).setCell (p := ⟨w.heap.size + 1, 0, none⟩) (.inr (by simp)) (U64 (hiN G))).setCell (p := ⟨w.heap.size + 1, 1, none⟩) (.inr (by simp)) (U64 (loN G))).below (Nat.le_refl _) (by simp))
          have K1 := hid h1'
          have K0 := hid h0'
          have K2 := hid h2'
          have K3 := hid h3'
          have KB := hid hB'
          clear h0 h1 h2 h3 hB h1' h0' h2' h3' hB' l1 l3
          go_wp2_with fail
          go_roundw
          case rel => exact ⟨k + 1, by omega, by go_num, K0.out, by rw [onI_succ, HFe.out, HG.out]; exact K1.out, K2.out, by rw [Hmu.out]; exact K3.out, KB.out⟩
          case measure => (simp [intOf]; try omega)
        · rw [hbit] at hand hmu
          simp only [if_true] at hand hmu
          have hxa := bx_nat (hiN O) (hiN F) (hiN_lt HOl.out) (hiN_lt HFl.out)
          have hxb := bx_nat (loN O) (loN F) (loN_lt O) (loN_lt F)
          rw [← hiN_xor] at hxa
          rw [← loN_xor] at hxb
          obtain ⟨X, hX⟩ : ∃ X, O ^^^ F = X := ⟨_, rfl⟩
          rw [hX] at hxa hxb hmu
          have Hmu := hid hmu
          have L3 := H3.out.lt
          have h3 := (H3.out.set 0 (U64 (hiN X))).set 1 (U64 (loN X))
          have h0 := (H0.out.setNe (a := ⟨w.heap.size + 1 + 1 + 1, 0, none⟩) (by simp only; omega) (U64 (hiN X))).setNe (a := ⟨w.heap.size + 1 + 1 + 1, 1, none⟩) (by simp only; omega) (U64 (loN X))
          have h1 := (H1.out.setNe (a := ⟨w.heap.size + 1 + 1 + 1, 0, none⟩) (by simp only; omega) (U64 (hiN X))).setNe (a := ⟨w.heap.size + 1 + 1 + 1, 1, none⟩) (by simp only; omega) (U64 (loN X))
          have h2 := (H2.out.setNe (a := ⟨w.heap.size + 1 + 1 + 1, 0, none⟩) (by simp only; omega) (U64 (hiN X))).setNe (a := ⟨w.heap.size + 1 + 1 + 1, 1, none⟩) (by simp only; omega) (U64 (loN X))
          have hB := HBB.out.trans ((((Chg.refl w.heap.size [] wr).setCell (p := ⟨w.heap.size + 1 + 1 + 1, 0, none⟩) (.inr (by simp only; omega)) (U64 (hiN X))).setCell (p := ⟨w.heap.size + 1 + 1 + 1, 1, none⟩) (.inr (by simp only; omega)) (U64 (loN X))).below (Nat.le_refl _) (by simp))
          clear H0 H1 H2 H3 HBB
          have H0 := hid h0
          have H1 := hid h1
          have H2 := hid h2
          have H3 := hid h3
          have HBB := hid hB
          clear h0 h1 h2 h3 hB hmu hbit hX
          go_wp2_with fail
          refine (on_any _ F HFl.out).mono ?_
          rintro e' w2 ⟨rfl, hB2⟩
          rw [HG.out]
          have l1 := H1.out.lt
          have l3 := H3.out.lt
          have h0 := H0.out.below hB2 H0.out.lt
          have h1 := H1.out.below hB2 H1.out.lt
          have h2 := H2.out.below hB2 H2.out.lt
          have h3 := H3.out.below hB2 H3.out.lt
          have hB := HBB.out.trans (hB2.mono HBB.out.size)
          have f0 := h1.frozen 0
          have f1 := h1.frozen 1
          have d0 := h1.cell 0
          have d1 := h1.cell 1
          simp only [List.getElem?_cons_zero, List.getElem?_cons_succ] at d0 d1
          have h1' := (h1.set 0 (U64 (hiN G))).set 1 (U64 (loN G))
          have h0' := (h0.setNe (a := ⟨w.heap.size + 1, 0, none⟩) (by simp) (U64 (hiN G))).setNe (a := ⟨w.heap.size + 1, 1, none⟩) (by simp) (U64 (loN G))
          have h2' := (h2.setNe (a := ⟨w.heap.size + 1, 0, none⟩) (by simp) (U64 (hiN G))).setNe (a := ⟨w.heap.size + 1, 1, none⟩) (by simp) (U64 (loN G))
          have h3' := (h3.setNe (a := ⟨w.heap.size + 1, 0, none⟩) (by simp only; omega) (U64 (hiN G))).setNe (a := ⟨w.heap.size + 1, 1, none⟩) (by simp only; omega) (U64 (loN G))
          have hB' := hB.trans ((((Chg.refl w.heap.size [] w2).setCell (p := ⟨w.heap.size + 1, 0, none⟩) (.inr (by simp)) (U64 (hiN G))).setCell (p := ⟨w.heap.size + 1, 1, none⟩) (.inr (by simp)) (U64 (loN G))).below (Nat.le_refl _) (by simp))
          have K1 := hid h1'
          have K0 := hid h0'
          have K2 := hid h2'
          have K3 := hid h3'
          have KB := hid hB'
          clear h0 h1 h2 h3 hB h1' h0' h2' h3' hB' l1 l3
          go_wp2_with fail
          go_roundw
          case rel => exact ⟨k + 1, by omega, by go_num, K0.out, by rw [onI_succ, HFe.out, HG.out]; exact K1.out, K2.out, by rw [Hmu.out]; exact K3.out, KB.out⟩
          case measure => (simp [intOf]; try omega)
      ·
        have q2 : 63 < (k : Int) := by omega
        obtain ⟨s, hs⟩ : ∃ s, 127 - k = s := ⟨_, rfl⟩
        have q3 : (63 : Int) - ((k : Int) - 63 - 1) = (s : Int) := by omega
        have q4 : (0 : Int) ≤ (s : Int) := by omega
        have hand := bit_lo e s (by omega)
        rw [hs] at hmu
        clear hs
        have H0 := hid h0
        have H1 := hid h1
        have H2 := hid h2
        have H3 := hid h3
        have HBB := hid hB
        clear h0 h1 h2 h3 hB
        cases hbit : e.testBit s
        · rw [hbit] at hand hmu
          simp only [Bool.false_eq_true, if_false, Nat.xor_zero] at hand hmu
          have Hmu := hid hmu
          clear hmu hbit
          go_wp2_with fail
          refine (on_any _ F HFl.out).mono ?_
          rintro e' w2 ⟨rfl, hB2⟩
          rw [HG.out]
          have l1 := H1.out.lt
          have l3 := H3.out.lt
          have h0 := H0.out.below hB2 H0.out.lt
          have h1 := H1.out.below hB2 H1.out.lt
          have h2 := H2.out.below hB2 H2.out.lt
          have h3 := H3.out.below hB2 H3.out.lt
          have hB := HBB.out.trans (hB2.mono HBB.out.size)
          have f0 := h1.frozen 0
          have f1 := h1.frozen 1
          have d0 := h1.cell 0
          have d1 := h1.cell 1
          simp only [List.getElem?_cons_zero, List.getElem?_cons_succ] at d0 d1
          have h1' := (h1.set 0 (U64 (hiN G))).set 1 (U64 (loN G))
          have h0' := (h0.setNe (a := ⟨w.heap.size + 1, 0, none⟩) (by simp) (U64 (hiN G))).setNe (a := ⟨w.heap.size + 1, 1, none⟩) (by simp) (U64 (loN G))
          have h2' := (h2.setNe (a := ⟨w.heap.size + 1, 0, none⟩) (by simp) (U64 (hiN G))).setNe (a := ⟨w.heap.size + 1, 1, none⟩) (by simp) (U64 (loN G))
          have h3' := (h3.setNe (a := ⟨w.heap.size + 1, 0, none⟩) (by simp only; omega) (U64 (hiN G))).setNe (a := ⟨w.heap.size + 1, 1, none⟩) (by simp only; omega) (U64 (loN G))
          have hB' := hB.trans ((((Chg.refl w.heap.size [] w2).setCell (p := ⟨w.heap.size + 1, 0, none⟩) (.inr (by simp)) (U64 (hiN G))).setCell (p := ⟨w.heap.size + 1, 1, none⟩) (.inr (by simp)) (U64 (loN G))).below (Nat.le_refl _) (by simp))
          have K1 := hid h1'
          have K0 := hid h0'
          have K2 := hid h2'
          have K3 := hid h3'
          have KB := hid hB'
          clear h0 h1 h2 h3 hB h1' h0' h2' h3' hB' l1 l3
          go_wp2_with fail
          go_roundw
          case rel => exact ⟨k + 1, by omega, by go_num, K0.out, by rw [onI_succ, HFe.out, HG.out]; exact K1.out, K2.out, by rw [Hmu.out]; exact K3.out, KB.out⟩
          case measure => (simp [intOf]; try omega)
        · rw [hbit] at hand hmu
          simp only [if_true] at hand hmu
          have hxa := bx_nat (hiN O) (hiN F) (hiN_lt HOl.out) (hiN_lt HFl.out)
          have hxb := bx_nat (loN O) (loN F) (loN_lt O) (loN_lt F)
          rw [← hiN_xor] at hxa
          rw [← loN_xor] at hxb
          obtain ⟨X, hX⟩ : ∃ X, O ^^^ F = X := ⟨_, rfl⟩
          rw [hX] at hxa hxb hmu
          have Hmu := hid hmu
          have L3 := H3.out.lt
          have h3 := (H3.out.set 0 (U64 (hiN X))).set 1 (U64 (loN X))
          have h0 := (H0.out.setNe (a := ⟨w.heap.size + 1 + 1 + 1, 0, none⟩) (by simp only; omega) (U64 (hiN X))).setNe (a := ⟨w.heap.size + 1 + 1 + 1, 1, none⟩) (by simp only; omega) (U64 (loN X))
          have h1 := (H1.out.setNe (a := ⟨w.heap.size + 1 + 1 + 1, 0, none⟩) (by simp only; omega) (U64 (hiN X))).setNe (a := ⟨w.heap.size + 1 + 1 + 1, 1, none⟩) (by simp only; omega) (U64 (loN X))
          have h2 := (H2.out.setNe (a := ⟨w.heap.size + 1 + 1 + 1, 0, none⟩) (by simp only; omega) (U64 (hiN X))).setNe (a := ⟨w.heap.size + 1 + 1 + 1, 1, none⟩) (by simp only; omega) (U64 (loN X))
          have hB := HBB.out.trans ((((Chg.refl w.heap.size [] wr).setCell (p := ⟨w.heap.size + 1 + 1 + 1, 0, none⟩) (.inr (by simp only; omega)) (U64 (hiN X))).setCell (p := ⟨w.heap.size + 1 + 1 + 1, 1, none⟩) (.inr (by simp only; omega)) (U64 (loN X))).below (Nat.le_refl _) (by simp))
          clear H0 H1 H2 H3 HBB
          have H0 := hid h0
          have H1 := hid h1
          have H2 := hid h2
          have H3 := hid h3
          have HBB := hid hB
          clear h0 h1 h2 h3 hB hmu hbit hX
          go_wp2_with fail
          refine (on_any _ F HFl.out).mono ?_
          rintro e' w2 ⟨rfl, hB2⟩
          rw [HG.out]
          have l1 := H1.out.lt
          have l3 := H3.out.lt
          have h0 := H0.out.below hB2 H0.out.lt
          have h1 := H1.out.below hB2 H1.out.lt
          have h2 := H2.out.below hB2 H2.out.lt
          have h3 := H3.out.below hB2 H3.out.lt
          have hB := HBB.out.trans (hB2.mono HBB.out.size)
          have f0 := h1.frozen 0
          have f1 := h1.frozen 1
          have d0 := h1.cell 0
          have d1 := h1.cell 1
          simp only [List.getElem?_cons_zero, List.getElem?_cons_succ] at d0 d1
          have h1' := (h1.set 0 (U64 (hiN G))).set 1 (U64 (loN G))
          have h0' := (h0.setNe (a := ⟨w.heap.size + 1, 0, none⟩) (by simp) (U64 (hiN G))).setNe (a := ⟨w.heap.size + 1, 1, none⟩) (by simp) (U64 (loN G))
          have h2' := (h2.setNe (a := ⟨w.heap.size + 1, 0, none⟩) (by simp) (U64 (hiN G))).setNe (a := ⟨w.heap.size + 1, 1, none⟩) (by simp) (U64 (loN G))
          have h3' := (h3.setNe (a := ⟨w.heap.size + 1, 0, none⟩) (by simp only; omega) (U64 (hiN G))).setNe (a := ⟨w.heap.size + 1, 1, none⟩) (by simp only; omega) (U64 (loN G))
          have hB' := hB.trans ((((Chg.refl w.heap.size [] w2).setCell (p := ⟨w.heap.size + 1, 0, none⟩) (.inr (by simp)) (U64 (hiN G))).setCell (p := ⟨w.heap.size + 1, 1, none⟩) (.inr (by simp)) (U64 (loN G))).below (Nat.le_refl _) (by simp))
          have K1 := hid h1'
          have K0 := hid h0'
          have K2 := hid h2'
          have K3 := hid h3'
          have KB := hid hB'
          clear h0 h1 h2 h3 hB h1' h0' h2' h3' hB' l1 l3
          go_wp2_with fail
          go_roundw
          case rel => exact ⟨k + 1, by omega, by go_num, K0.out, by rw [onI_succ, HFe.out, HG.out]; exact K1.out, K2.out, by rw [Hmu.out]; exact K3.out, KB.out⟩
          case measure => (simp [intOf]; try omega)
    · have hke : k = 128 := by omega
      obtain ⟨O, hO⟩ : ∃ O, mulN e f = O := ⟨_, rfl⟩
      rw [hke, show mulTo e f 128 = mulN e f from rfl, hO] at h3
      have HO := hid hO
      have q1 : ¬ ((k : Int) < 128) := by omega
      clear hO hke hlt
      have g0 := h3.cell 0
      have g1 := h3.cell 1
      have r0 := h2.cell 0
      have r1 := h2.cell 1
      have f0 := h2.frozen 0
      have f1 := h2.frozen 1
      simp only [List.getElem?_cons_zero, List.getElem?_cons_succ] at g0 g1 r0 r1
      have L := h2.lt
      have h2' := (h2.set 0 (U64 (hiN O))).set 1 (U64 (loN O))
      have hB' := hB.trans ((((Chg.refl w.heap.size [] wr).setCell (p := ⟨w.heap.size + 1 + 1, 0, none⟩) (.inr (by simp only; omega)) (U64 (hiN O))).setCell (p := ⟨w.heap.size + 1 + 1, 1, none⟩) (.inr (by simp only; omega)) (U64 (loN O))).below (Nat.le_refl _) (by simp))
      have H2 := hid h2'
      have HBB := hid hB'
      clear h0 h1 h2 h3 hB h2' hB'
      go_wp2_with fail
      refine bodyPost_ret (v := .agg (elc O).toArray) (results_cell_row (P := Try.prog) (p := 4) (ty := 151) rfl _ _ (w.heap.size + 1 + 1) tEl _ (0, 0) _ rfl H2.out Try.underlying151 rfl sizeEl) rfl ⟨by rw [HO.out], HBB.out⟩
end Go.Proofs.Ytgellbapbphnlaa
