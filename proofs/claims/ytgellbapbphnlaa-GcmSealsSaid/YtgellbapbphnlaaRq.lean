import Derived.Test.YtgellbapbphnlaaGp
import Derived.Test.YtgellbapbphnlaaKv
import Derived.Test.YtgellbapbphnlaaRc
import Derived.Test.YtgellbapbphnlaaGm
import Derived.Test.YtgellbapbphnlaaRts
import Derived.Test.YtgellbapbphnlaaGy
/- the reference's product -/
namespace Go.Proofs.Ytgellbapbphnlaa
open Go.RowKit

theorem shr_byte (y : UInt8) (s : Nat) (h : s < 8) : (bv y : Int) / 2 ^ s = (((y >>> UInt8.ofNat s).toNat : Nat) : Int) := by
  have e : (UInt8.ofNat s).toNat % 8 = s := by simp; omega
  rw [UInt8.toNat_shiftRight, e, Nat.shiftRight_eq_div_pow]
  show ((y.toNat : Nat) : Int) / 2 ^ s = _
  simp
theorem atB_le (x : List UInt8) (i : Nat) : atB x i ≤ 1 := by unfold atB; omega
set_option maxRecDepth 100000 in
set_option maxHeartbeats 1000000 in
theorem at_any (w : World) (x : List UInt8) (i : Nat) (hx : x.length = 16) (hi : i < 128) :
    Calls Try.prog 110 #[.agg (bys x).toArray, .int .i64 i] w fun e w' => e = .returned (.int .i64 (atB x i)) ∧ Below w.heap.size w w' := by
  have h0 := Blk.new w (bys x) tA16
  have hB0 : Below w.heap.size w (w.alloc (.cells (bys x).toArray tA16)) := (Below.refl _ _).alloc (Nat.le_refl _) _
  obtain ⟨q, hq⟩ : ∃ q, i / 8 = q := ⟨_, rfl⟩
  obtain ⟨r, hr⟩ : ∃ r, i % 8 = r := ⟨_, rfl⟩
  obtain ⟨s, hs⟩ : ∃ s, 7 - r = s := ⟨_, rfl⟩
  have e1 : (i : Int).tdiv 8 = (q : Int) := by rw [Int.tdiv_eq_ediv_of_nonneg (by omega)]; omega
  have e2 : (i : Int) / 8 = (q : Int) := by omega
  have e3 : (i : Int).tmod 8 = (r : Int) := by rw [Int.tmod_eq_emod_of_nonneg (by omega)]; omega
  have e4 : (i : Int) % 8 = (r : Int) := by omega
  have e5 : (7 : Int) - (r : Int) = (s : Int) := by omega
  have e6 : 0 ≤ (s : Int) := by omega
  have e7 : (q : Int) < 16 := by omega
  have e8 : 0 ≤ (q : Int) := by omega
  have c := h0.cellAt (bys_get x q (by omega))
  have ha : atB x i = (x.getD q 0 >>> UInt8.ofNat s).toNat % 2 := by unfold atB; rw [hq, hr, hs]
  have hsh := shr_byte (x.getD q 0) s (by omega)
  have hlt := (x.getD q 0 >>> UInt8.ofNat s).toNat_lt
  rw [ha]
  generalize (x.getD q 0 >>> UInt8.ofNat s).toNat = z at *
  generalize x.getD q 0 = y at *
  obtain ⟨o, ho⟩ : ∃ o, z % 2 = o := ⟨_, rfl⟩
  have e9 : (z : Int).tmod 2 = (o : Int) := by rw [Int.tmod_eq_emod_of_nonneg (by omega)]; omega
  have e10 : (z : Int) % 2 = (o : Int) := by omega
  have e11 : IntKind.i64.wrap (z : Int) = (z : Int) := by rw [IntKind.wrap_i64]; omega
  have e12 : (z : Int) ≤ 255 := by omega
  rw [ho]
  clear ha hlt ho hq hr hs
  go_enter Try.func110, Try.ntmps110
  go_wp2_with fail
  go_ret
  exact ⟨rfl, hB0⟩

def pc (p : List Nat) : List Value := p.map fun (n : Nat) => .int .i64 ((n : Nat) : Int)
theorem pc_len (p : List Nat) : (pc p).length = p.length := by simp [pc]
theorem pc_get (p : List Nat) (j : Nat) (h : j < p.length) : (pc p)[j]? = some (.int .i64 ((p.getD j 0 : Nat) : Int)) := by
  simp [pc, List.getElem?_eq_getElem h, List.getD]
theorem pc_set (p : List Nat) (j n : Nat) : (pc p).set j (.int .i64 (n : Int)) = pc (p.set j n) := by simp [pc, List.map_set]
theorem pc_inc (p : List Nat) (j : Nat) : (pc p).set j (.int .i64 ((p.getD j 0 + 1 : Nat) : Int)) = pc (incP p j) := pc_set p j _
theorem set_getD_self (p : List Nat) (j : Nat) (h : j < p.length) : p.set j (p.getD j 0) = p := by
  simp [List.getD, List.getElem?_eq_getElem h]
/-- One step of a row. -/
theorem pc_row (i k : Nat) (b : List UInt8) (p : List Nat) (h : i + k < p.length) : (pc (rowP i b p k)).set (i + k) (.int .i64 (((rowP i b p k).getD (i + k) 0 + atB b k : Nat) : Int)) = pc (rowP i b p (k + 1)) := by
  have hl := rowP_len i b p k
  have ha := atB_le b k
  rw [rowP]
  by_cases h1 : atB b k = 1
  · rw [if_pos h1, h1, pc_inc]
  · rw [if_neg h1, show atB b k = 0 by omega, Nat.add_zero, pc_set, set_getD_self _ _ (by omega)]
abbrev tP256 : TypeId := 155
theorem zc155 : Try.zeroCells155 = (pc (List.replicate 256 0)).toArray := by kernel_rfl
theorem shl_byte (s : Nat) (h : s < 8) : IntKind.u8.wrap ((2 : Int) ^ s) = bv ((1 : UInt8) <<< UInt8.ofNat s) := by
  have : s = 0 ∨ s = 1 ∨ s = 2 ∨ s = 3 ∨ s = 4 ∨ s = 5 ∨ s = 6 ∨ s = 7 := by omega
  rcases this with rfl | rfl | rfl | rfl | rfl | rfl | rfl | rfl <;> decide
/-- Mul on its way. -/
structure MS (w wx : World) (A B : List UInt8) (p : List Nat) : Prop where
  a : Blk wx w.heap.size (bys A) tA16
  b : Blk wx (w.heap.size + 1) (bys B) tA16
  r : Blk wx (w.heap.size + 1 + 1) (bys z16) tA16
  p : Blk wx (w.heap.size + 1 + 1 + 1) (pc p) tP256
  B : Below w.heap.size w wx
theorem MS.below {w wx wy : World} {A B : List UInt8} {p : List Nat} (h : MS w wx A B p) (hb : Below wx.heap.size wx wy) : MS w wy A B p :=
  ⟨h.a.below hb h.a.lt, h.b.below hb h.b.lt, h.r.below hb h.r.lt, h.p.below hb h.p.lt, h.B.trans (hb.mono h.B.size)⟩
theorem MS.set {w wx : World} {A B : List UInt8} {p p' : List Nat} (h : MS w wx A B p) (j : Nat) (v : Value) (hp : (pc p).set j v = pc p') : MS w (wx.setCell ⟨w.heap.size + 1 + 1 + 1, j, none⟩ v) A B p' :=
  ⟨h.a.setNe (by simp only; omega) _, h.b.setNe (by simp only; omega) _, h.r.setNe (by simp only; omega) _, by (have := h.p.set j v; rw [hp] at this; exact this),
    h.B.trans (((Chg.refl w.heap.size [] wx).setCell (p := ⟨w.heap.size + 1 + 1 + 1, j, none⟩) (.inr (by simp only; omega)) v).below (Nat.le_refl _) (by simp))⟩
theorem MS.drew {w wx : World} {A B : List UInt8} {p : List Nat} (h : MS w wx A B p) : MS w wx.drew A B p := ⟨h.a, h.b, h.r, h.p, h.B.drew⟩

set_option maxRecDepth 100000 in
set_option maxHeartbeats 4000000 in
theorem refmul_any (w : World) (A B : List UInt8) (hA : A.length = 16) (hB : B.length = 16) :
    Calls Try.prog 97 #[.agg (bys A).toArray, .agg (bys B).toArray] w fun e w' => e = .returned (.agg (bys (toBe 16 (mulN (be A) (be B)))).toArray) ∧ Below w.heap.size w w' := by
  have hszA : (Try.prog.info? 36).map (·.size) = some (bys A).length := by rw [size54, bys_length, hA]
  have hszB : (Try.prog.info? 36).map (·.size) = some (bys B).length := by rw [size54, bys_length, hB]
  have HA := hid hA
  have HB := hid hB
  obtain ⟨P0, hP0⟩ : ∃ P0 : List Nat, List.replicate 256 0 = P0 := ⟨_, rfl⟩
  have hms : MS w ((((w.alloc (.cells (bys A).toArray tA16)).alloc (.cells (bys B).toArray tA16)).alloc (.cells (bys z16).toArray tA16)).alloc (.cells (pc P0).toArray tP256)) A B P0 :=
    ⟨(((Blk.new w (bys A) tA16).alloc _).alloc _).alloc _,
      by (have := ((Blk.new (w.alloc (.cells (bys A).toArray tA16)) (bys B) tA16).alloc (.cells (bys z16).toArray tA16)).alloc (.cells (pc P0).toArray tP256); simp only [World.size_alloc] at this; exact this),
      by (have := (Blk.new ((w.alloc (.cells (bys A).toArray tA16)).alloc (.cells (bys B).toArray tA16)) (bys z16) tA16).alloc (.cells (pc P0).toArray tP256); simp only [World.size_alloc] at this; exact this),
      by (have := Blk.new (((w.alloc (.cells (bys A).toArray tA16)).alloc (.cells (bys B).toArray tA16)).alloc (.cells (bys z16).toArray tA16)) (pc P0) tP256; simp only [World.size_alloc] at this; exact this),
      ((((Below.refl _ _).alloc (Nat.le_refl _) _).alloc (by simp) _).alloc (by simp; omega) _).alloc (by simp; omega) _⟩
  have hz := zc155
  rw [hP0] at hz
  have hp0 : prodP A B 0 = P0 := by rw [← hP0]; rfl
  have Hp0 := hid hp0
  have Hz := hid hz
  clear hA hB hP0 hz hp0
  go_enter Try.func97, Try.ntmps97
  go_wp2_with fail
  rw [Hz.out]
  change Code.wp _ _ _ _ ((((w.alloc (.cells (bys A).toArray tA16)).alloc (.cells (bys B).toArray tA16)).alloc (.cells (bys z16).toArray tA16)).alloc (.cells (pc P0).toArray tP256))
  generalize (((w.alloc (.cells (bys A).toArray tA16)).alloc (.cells (bys B).toArray tA16)).alloc (.cells (bys z16).toArray tA16)).alloc (.cells (pc P0).toArray tP256) = W at *
  go_loopw [6] (fun i wx => ∃ k : Nat, k ≤ 128 ∧ i = .int .i64 k ∧ MS w wx A B (prodP A B k)) (fun i _ => 128 - (intOf i).toNat)
  case atStart => exact ⟨0, by omega, rfl, by rw [Hp0.out]; exact hms⟩
  case round =>
    clear hms
    obtain ⟨i, hi, rfl, hM⟩ := hrel
    by_cases hlt : i < 128
    · have q1 : (i : Int) < 128 := by omega
      have hstep : prodP A B (i + 1) = if atB A i = 1 then rowP i B (prodP A B i) 128 else prodP A B i := rfl
      have hle := prodP_le A B i (by omega)
      have hpl := prodP_len A B i
      obtain ⟨p, hp⟩ : ∃ p, prodP A B i = p := ⟨_, rfl⟩
      rw [hp] at hM hstep hle hpl
      have Hstep := hid hstep
      have Hle := hid hle
      have Hpl := hid hpl
      have HM := hid hM
      have hMa := hM.a
      clear hstep hle hpl hp hM
      go_wp2_with (refine wpList_load_mid rfl 36 (.tmp 2) rfl w.heap.size 0 rfl (bys A) _ hMa.whole under54 rfl hszA ?_)
      refine (at_any wr A i HA.out hlt).mono ?_
      rintro e w2 ⟨rfl, hB2⟩
      have hM2 := HM.out.below hB2
      have h01 := atB_le A i
      clear HM hMa hB2
      by_cases h1 : atB A i = 1
      · have hstep := Hstep.out
        rw [if_pos h1] at hstep
        have Hst := hid hstep
        have q2 : (((atB A i : Nat) : Int) == 0) = false := by rw [beq_eq_false_iff_ne]; omega
        generalize atB A i = ai at *
        clear hstep Hstep h1 h01
        go_wp2_with fail
        go_loopw [7] (fun j wx => ∃ k : Nat, k ≤ 128 ∧ j = .int .i64 k ∧ MS w wx A B (rowP i B p k)) (fun j _ => 128 - (intOf j).toNat)
        case atStart => exact ⟨0, by omega, rfl, hM2⟩
        case round =>
          clear hM2
          obtain ⟨k, hk, rfl, hM⟩ := hrel
          by_cases hkl : k < 128
          · have hrl := rowP_len i B p k
            have hrle := rowP_le i B p (128 * i) Hle.out k (by rw [Hpl.out]; omega) (i + k)
            have hpr := pc_row i k B p (by rw [Hpl.out]; omega)
            have hget := pc_get (rowP i B p k) (i + k) (by rw [hrl, Hpl.out]; omega)
            have hpb := hM.p
            have hf := hM.p.frozen (i + k)
            have h01 := atB_le B k
            obtain ⟨t, ht⟩ : ∃ t, i + k = t := ⟨_, rfl⟩
            obtain ⟨x, hx⟩ : ∃ x, (rowP i B p k).getD (i + k) 0 = x := ⟨_, rfl⟩
            rw [hx] at hget hrle hpr
            rw [ht] at hget hf hpr
            have hc := hpb.cellAt hget
            obtain ⟨y, hy⟩ : ∃ y, x + atB B k = y := ⟨_, rfl⟩
            rw [hy] at hpr
            obtain ⟨o, ho⟩ : ∃ o, atB B k = o := ⟨_, rfl⟩
            rw [ho] at hy h01
            have q2 : (i : Int) + (k : Int) = (t : Int) := by omega
            have q3 : IntKind.i64.wrap (t : Int) = (t : Int) := by rw [IntKind.wrap_i64]; omega
            have q4 : (x : Int) + (o : Int) = (y : Int) := by omega
            have q5 : IntKind.i64.wrap (y : Int) = (y : Int) := by rw [IntKind.wrap_i64]; omega
            have q6 : (t : Int) < 256 := by omega
            have q7 : 0 ≤ (t : Int) := by omega
            have q8 : (k : Int) < 128 := by omega
            have hB := hM.b
            have HM := hid hM.drew
            have Hpr := hid hpr
            have Ho := hid ho
            have hbd : Below wr.heap.size wr wr.drew := (Below.refl _ _).drew
            clear hM hpr hx ht hy ho hrle hrl
            go_wp2_with fail
            try simp only [Act.put]
            refine tkR (fun w' => Below wr.heap.size wr w') [10] (by kernel_rfl) (fun c a d v w h => by cases d <;> exact h) (hbd) (fun hPF hHeld => ?_)
            refine tkB 0 (.some 23) _ _ rfl rfl (by kernel_rfl) (by kernel_rfl) (by kernel_rfl) (by kernel_rfl) hPF rfl (fun w' => by (go_simp; try with_reducible rfl)) hHeld (fun hHeld => ?_)
            simp only [Act.put, List.setIfInBounds_toArray, List.set_cons_zero, List.set_cons_succ]
            refine tkB 1 (.some 24) _ _ rfl rfl (by kernel_rfl) (by kernel_rfl) (by kernel_rfl) (by kernel_rfl) hPF rfl (fun w' => by (go_simp; try with_reducible rfl)) hHeld (fun hHeld => ?_)
            simp only [Act.put, List.setIfInBounds_toArray, List.set_cons_zero, List.set_cons_succ]
            refine tkB 2 (.some 25) _ _ rfl rfl (by kernel_rfl) (by kernel_rfl) (by kernel_rfl) (by kernel_rfl) hPF rfl (fun w' => by (go_simp; try with_reducible rfl)) hHeld (fun hHeld => ?_)
            simp only [Act.put, List.setIfInBounds_toArray, List.set_cons_zero, List.set_cons_succ]
            refine tkB 3 (.some 26) _ _ rfl rfl (by kernel_rfl) (by kernel_rfl) (by kernel_rfl) (by kernel_rfl) hPF rfl (fun w' => by (go_simp; try with_reducible rfl)) hHeld (fun hHeld => ?_)
            simp only [Act.put, List.setIfInBounds_toArray, List.set_cons_zero, List.set_cons_succ]
            refine tkA 4 (.some 27) _ _ rfl rfl (by kernel_rfl) (by kernel_rfl) (by kernel_rfl) (by kernel_rfl) (by kernel_rfl) hPF rfl (fun w' hw' => by (have h1 := (hpb.below hw' hpb.lt).cellAt hget; go_simp; try with_reducible rfl)) hHeld (fun hHeld => ?_)
            simp only [Act.put, List.setIfInBounds_toArray, List.set_cons_zero, List.set_cons_succ]
            refine tkL 5 (.some 28) _ rfl rfl 36 (.tmp 3) rfl (w.heap.size + 1) 0 (bys B) _ (by kernel_rfl) (by kernel_rfl) (by kernel_rfl) (by kernel_rfl) (by kernel_rfl) hPF rfl rfl (fun w' hw' => (hB.below hw' hB.lt).whole) under54 rfl hszB hHeld (fun hHeld => ?_)
            simp only [Act.put, List.setIfInBounds_toArray, List.set_cons_zero, List.set_cons_succ]
            refine tkB 6 (.some 29) _ _ rfl rfl (by kernel_rfl) (by kernel_rfl) (by kernel_rfl) (by kernel_rfl) hPF rfl (fun w' => by (go_simp; try with_reducible rfl)) hHeld (fun hHeld => ?_)
            simp only [Act.put, List.setIfInBounds_toArray, List.set_cons_zero, List.set_cons_succ]
            have hS := hHeld (by kernel_rfl)
            refine tkW (rs := [7]) (by kernel_rfl) (by simp) (AllK.cons (o := _) rfl (fun KC hKC => ?_) AllK.nil)
            go_simp
            refine (at_any _ B k HB.out hkl).mono ?_
            rintro e w5 ⟨rfl, hB5⟩
            rw [Ho.out]
            have hM5 := HM.out.below hB5
            have hc5 := (hpb.below (hbd.trans hB5) hpb.lt).cellAt hget
            have hf5 := (hpb.below (hbd.trans hB5) hpb.lt).frozen t
            have HM6 := hid (hM5.set t _ Hpr.out)
            clear hM5
            refine hKC.out _ _ (hS.trans (hB5.mono hS.size)) (fun hHeld => ?_)
            clear hKC KC
            try simp only [Act.put, List.setIfInBounds_toArray, List.set_cons_zero, List.set_cons_succ]
            refine tkB 8 (.some 31) _ _ rfl rfl (by kernel_rfl) (by kernel_rfl) (by kernel_rfl) (by kernel_rfl) hPF rfl (fun w' => by (go_simp; try with_reducible rfl)) hHeld (fun hHeld => ?_)
            simp only [Act.put, List.setIfInBounds_toArray, List.set_cons_zero, List.set_cons_succ]
            refine tkB 9 (.some 32) _ _ rfl rfl (by kernel_rfl) (by kernel_rfl) (by kernel_rfl) (by kernel_rfl) hPF rfl (fun w' => by (go_simp; try with_reducible rfl)) hHeld (fun hHeld => ?_)
            simp only [Act.put, List.setIfInBounds_toArray, List.set_cons_zero, List.set_cons_succ]
            refine tkW (rs := [10]) (by kernel_rfl) (by simp) (AllK.close (o := _) rfl (by kernel_rfl) (fun KC hKC => ?_) AllK.nil)
            go_simp
            refine hKC.out _ _ (fun hHeld => ?_)
            clear hKC KC
            try simp only [Act.put]
            refine tkD (by kernel_rfl) ?_ _
            go_wp2_with fail
            go_roundw
            case rel => exact ⟨k + 1, by omega, by go_num, HM6.out⟩
            case measure => (simp [intOf]; try omega)
          · have hke : k = 128 := by omega
            have q8 : ¬ ((k : Int) < 128) := by omega
            rw [hke, ← Hst.out] at hM
            have HM := hid hM
            clear hke hM hkl
            go_wp2_with fail
            go_roundw
            case rel => exact ⟨i + 1, by omega, by go_num, HM.out⟩
            case measure => (simp [intOf]; try omega)
      · have hstep := Hstep.out
        rw [if_neg h1] at hstep
        have Hst := hid hstep
        have h0 : atB A i = 0 := by omega
        rw [h0]
        rw [← hstep] at hM2
        have HM := hid hM2
        clear hstep Hstep h1 h01 h0 hM2
        go_wp2_with fail
        go_roundw
        case rel => exact ⟨i + 1, by omega, by go_num, HM.out⟩
        case measure => (simp [intOf]; try omega)
    · have hie : i = 128 := by omega
      have q1 : ¬ ((i : Int) < 128) := by omega
      rw [hie] at hM
      obtain ⟨P, hP⟩ : ∃ P, prodP A B 128 = P := ⟨_, rfl⟩
      have hPl := prodP_len A B 128
      have hPle := prodP_le A B 128 (Nat.le_refl _)
      have hfin := ref_mul A B HA.out HB.out
      rw [hP] at hM hPl hPle hfin
      have HPl := hid hPl
      have HPle := hid hPle
      have Hfin := hid hfin
      have hM : MS w wr A B (foldP P 0) := hM
      clear hie hlt hP hPl hPle hfin
      go_wp2_with fail
      go_loopw [8] (fun v wx => ∃ d e : Nat, e + d = 254 ∧ d ≤ 127 ∧ v = .int .i64 e ∧ MS w wx A B (foldP P d)) (fun v _ => (intOf v).toNat)
      case atStart => exact ⟨0, 254, rfl, by omega, rfl, hM⟩
      case round =>
        clear hM
        obtain ⟨d, e, hed, hd, rfl, hM⟩ := hrel
        by_cases hd127 : d < 127
        · have q2 : (128 : Int) ≤ (e : Int) := by omega
          have hstep : foldP P (d + 1) = downP (foldP P d) (254 - d) := rfl
          rw [show 254 - d = e by omega] at hstep
          have hle := foldP_le P (128 * 128) HPl.out HPle.out d
          have hln := foldP_len P d
          rw [HPl.out] at hln
          obtain ⟨p, hp⟩ : ∃ p, foldP P d = p := ⟨_, rfl⟩
          rw [hp] at hM hstep hle hln
          have Hle := hid hle
          have Hln := hid hln
          have hget := pc_get p e (by rw [hln]; omega)
          have hce := hM.p.cellAt hget
          have hxle := hle e
          obtain ⟨x, hx⟩ : ∃ x, p.getD e 0 = x := ⟨_, rfl⟩
          obtain ⟨o, ho⟩ : ∃ o, x % 2 = o := ⟨_, rfl⟩
          rw [hx] at hce hxle
          have q3 : (x : Int).tmod 2 = (o : Int) := by rw [Int.tmod_eq_emod_of_nonneg (by omega)]; omega
          have q4 : (x : Int) % 2 = (o : Int) := by omega
          have q5 : (e : Int) < 256 := by omega
          have q6 : 0 ≤ (e : Int) := by omega
          have HM := hid hM
          unfold downP at hstep
          rw [hx, ho] at hstep
          clear hp hle hln hget hM
          by_cases ho1 : o = 1
          · rw [if_pos ho1] at hstep
            have Hstep := hid hstep
            subst ho1
            obtain ⟨a1, ha1⟩ : ∃ a1, e - 128 = a1 := ⟨_, rfl⟩
            obtain ⟨a2, ha2⟩ : ∃ a2, e - 127 = a2 := ⟨_, rfl⟩
            obtain ⟨a3, ha3⟩ : ∃ a3, e - 126 = a3 := ⟨_, rfl⟩
            obtain ⟨a4, ha4⟩ : ∃ a4, e - 121 = a4 := ⟨_, rfl⟩
            have r1 : (e : Int) - 128 = (a1 : Int) := by omega
            have r2 : (e : Int) - 127 = (a2 : Int) := by omega
            have r3 : (e : Int) - 126 = (a3 : Int) := by omega
            have r4 : (e : Int) - 121 = (a4 : Int) := by omega
            have s1 : (a1 : Int) < 256 := by omega
            have s2 : (a2 : Int) < 256 := by omega
            have s3 : (a3 : Int) < 256 := by omega
            have s4 : (a4 : Int) < 256 := by omega
            rw [ha1, ha2, ha3, ha4] at hstep
            have Hstep := hid hstep
            have L1 : a1 < 256 := by omega
            have L2 : a2 < 256 := by omega
            have L3 : a3 < 256 := by omega
            have L4 : a4 < 256 := by omega
            have hinc := fun (p : List Nat) (j : Nat) (hl : p.length = 256) (hj : j < 256) => pc_get p j (by rw [hl]; exact hj)
            have Hinc := hid hinc
            clear hstep hx ho ha1 ha2 ha3 ha4 hinc
            have hl0 := Hln.out
            have hle0 : ∀ j, p.getD j 0 ≤ 20000 := fun j => by have := Hle.out j; omega
            obtain ⟨p0, hp0⟩ : ∃ z, p = z := ⟨_, rfl⟩
            rw [hp0] at hl0 hle0 Hstep HM
            clear hp0
            have hM := HM.out
            have hb := hle0 a1
            have c1 := hM.p.cellAt (Hinc.out _ a1 hl0 L1)
            have f1 := hM.p.frozen a1
            have hs := pc_inc p0 a1
            have hl1 : (incP p0 a1).length = 256 := by rw [incP_len, hl0]
            have hle1 : ∀ j, (incP p0 a1).getD j 0 ≤ 20001 := fun j => incP_le p0 a1 20000 (by rw [hl0]; exact L1) hle0 j
            obtain ⟨p1, hp1⟩ : ∃ z, incP p0 a1 = z := ⟨_, rfl⟩
            rw [hp1] at hs hl1 hle1
            have Hp1 := hid hp1
            obtain ⟨x1, hx1⟩ : ∃ x1, p0.getD a1 0 = x1 := ⟨_, rfl⟩
            rw [hx1] at hb c1 hs
            obtain ⟨y1, hy1⟩ : ∃ y1, x1 + 1 = y1 := ⟨_, rfl⟩
            rw [hy1] at hs
            have t1 : (x1 : Int) + 1 = (y1 : Int) := by omega
            have t2 : (y1 : Int) ≤ 30000 := by omega
            have t3 : 0 ≤ (y1 : Int) := by omega
            have HM' := hid (hM.set a1 _ hs)
            clear hM HM hs hy1 hx1 hb hp1
            go_upto_region 15 with fail
            change Code.wp _ _ _ _ (wr.setCell ⟨w.heap.size + 1 + 1 + 1, a1, none⟩ (.int .i64 (y1 : Int)))
            generalize wr.setCell ⟨w.heap.size + 1 + 1 + 1, a1, none⟩ (.int .i64 (y1 : Int)) = w1 at *
            have HM := HM'
            clear c1 f1 HM' t1 t2 t3
            have hM := HM.out
            have hb := hle1 a2
            have c1 := hM.p.cellAt (Hinc.out _ a2 hl1 L2)
            have f1 := hM.p.frozen a2
            have hs := pc_inc p1 a2
            have hl2 : (incP p1 a2).length = 256 := by rw [incP_len, hl1]
            have hle2 : ∀ j, (incP p1 a2).getD j 0 ≤ 20002 := fun j => incP_le p1 a2 20001 (by rw [hl1]; exact L2) hle1 j
            obtain ⟨p2, hp2⟩ : ∃ z, incP p1 a2 = z := ⟨_, rfl⟩
            rw [hp2] at hs hl2 hle2
            have Hp2 := hid hp2
            obtain ⟨x1, hx1⟩ : ∃ x1, p1.getD a2 0 = x1 := ⟨_, rfl⟩
            rw [hx1] at hb c1 hs
            obtain ⟨y1, hy1⟩ : ∃ y1, x1 + 1 = y1 := ⟨_, rfl⟩
            rw [hy1] at hs
            have t1 : (x1 : Int) + 1 = (y1 : Int) := by omega
            have t2 : (y1 : Int) ≤ 30000 := by omega
            have t3 : 0 ≤ (y1 : Int) := by omega
            have HM' := hid (hM.set a2 _ hs)
            clear hM HM hs hy1 hx1 hb hp2
            go_upto_region 16 with fail
            change Code.wp _ _ _ _ (w1.setCell ⟨w.heap.size + 1 + 1 + 1, a2, none⟩ (.int .i64 (y1 : Int)))
            generalize w1.setCell ⟨w.heap.size + 1 + 1 + 1, a2, none⟩ (.int .i64 (y1 : Int)) = w2 at *
            have HM := HM'
            clear c1 f1 HM' t1 t2 t3
            have hM := HM.out
            have hb := hle2 a3
            have c1 := hM.p.cellAt (Hinc.out _ a3 hl2 L3)
            have f1 := hM.p.frozen a3
            have hs := pc_inc p2 a3
            have hl3 : (incP p2 a3).length = 256 := by rw [incP_len, hl2]
            have hle3 : ∀ j, (incP p2 a3).getD j 0 ≤ 20003 := fun j => incP_le p2 a3 20002 (by rw [hl2]; exact L3) hle2 j
            obtain ⟨p3, hp3⟩ : ∃ z, incP p2 a3 = z := ⟨_, rfl⟩
            rw [hp3] at hs hl3 hle3
            have Hp3 := hid hp3
            obtain ⟨x1, hx1⟩ : ∃ x1, p2.getD a3 0 = x1 := ⟨_, rfl⟩
            rw [hx1] at hb c1 hs
            obtain ⟨y1, hy1⟩ : ∃ y1, x1 + 1 = y1 := ⟨_, rfl⟩
            rw [hy1] at hs
            have t1 : (x1 : Int) + 1 = (y1 : Int) := by omega
            have t2 : (y1 : Int) ≤ 30000 := by omega
            have t3 : 0 ≤ (y1 : Int) := by omega
            have HM' := hid (hM.set a3 _ hs)
            clear hM HM hs hy1 hx1 hb hp3
            go_upto_region 17 with fail
            change Code.wp _ _ _ _ (w2.setCell ⟨w.heap.size + 1 + 1 + 1, a3, none⟩ (.int .i64 (y1 : Int)))
            generalize w2.setCell ⟨w.heap.size + 1 + 1 + 1, a3, none⟩ (.int .i64 (y1 : Int)) = w3 at *
            have HM := HM'
            clear c1 f1 HM' t1 t2 t3
            have hM := HM.out
            have hb := hle3 a4
            have c1 := hM.p.cellAt (Hinc.out _ a4 hl3 L4)
            have f1 := hM.p.frozen a4
            have hs := pc_inc p3 a4
            have hl4 : (incP p3 a4).length = 256 := by rw [incP_len, hl3]
            have hle4 : ∀ j, (incP p3 a4).getD j 0 ≤ 20004 := fun j => incP_le p3 a4 20003 (by rw [hl3]; exact L4) hle3 j
            obtain ⟨p4, hp4⟩ : ∃ z, incP p3 a4 = z := ⟨_, rfl⟩
            rw [hp4] at hs hl4 hle4
            have Hp4 := hid hp4
            obtain ⟨x1, hx1⟩ : ∃ x1, p3.getD a4 0 = x1 := ⟨_, rfl⟩
            rw [hx1] at hb c1 hs
            obtain ⟨y1, hy1⟩ : ∃ y1, x1 + 1 = y1 := ⟨_, rfl⟩
            rw [hy1] at hs
            have t1 : (x1 : Int) + 1 = (y1 : Int) := by omega
            have t2 : (y1 : Int) ≤ 30000 := by omega
            have t3 : 0 ≤ (y1 : Int) := by omega
            have HM' := hid (hM.set a4 _ hs)
            clear hM HM hs hy1 hx1 hb hp4
            have hfin : foldP P (d + 1) = p4 := by rw [Hstep.out, Hp1.out, Hp2.out, Hp3.out, Hp4.out]
            rw [← hfin] at HM'
            have HM := HM'
            clear hfin HM'
            go_wp2_with fail
            go_roundw
            case rel => exact ⟨d + 1, e - 1, by omega, by omega, by go_num, HM.out⟩
            case measure => (simp [intOf]; try omega)
          · rw [if_neg ho1] at hstep
            have h0 : o = 0 := by omega
            subst h0
            rw [← hstep] at HM
            clear hstep hx ho ho1
            go_wp2_with fail
            go_roundw
            case rel => exact ⟨d + 1, e - 1, by omega, by omega, by go_num, HM.out⟩
            case measure => (simp [intOf]; try omega)
        · have hde : d = 127 := by omega
          have q2 : ¬ ((128 : Int) ≤ (e : Int)) := by omega
          rw [hde] at hM
          obtain ⟨Q, hQ⟩ : ∃ Q, foldP P 127 = Q := ⟨_, rfl⟩
          have hfin := Hfin.out
          have hQl := foldP_len P 127
          have hQle := foldP_le P (128 * 128) HPl.out HPle.out 127
          rw [HPl.out] at hQl
          rw [hQ] at hM hfin hQl hQle
          have hB5 : Below wr.heap.size wr (wr.alloc (.cells (bys z16).toArray tA16)) := (Below.refl _ _).alloc (Nat.le_refl _) _
          have hob := hM.p.lt
          have hM := hM.below hB5
          have hO : Blk (wr.alloc (.cells (bys z16).toArray tA16)) wr.heap.size (bys (outP Q 0)) tA16 := Blk.new _ _ _
          have Hfin2 := hid hfin
          have HQl := hid hQl
          have HQle := hid hQle
          clear hde hd127 hed hd hQ hfin hQl hQle hB5
          go_wp2_with fail
          change Code.wp _ _ _ _ (wr.alloc (.cells (bys z16).toArray tA16))
          generalize wr.alloc (.cells (bys z16).toArray tA16) = W2 at *
          generalize wr.heap.size = ob at *
          go_loopw [10] (fun v wx => ∃ k : Nat, k ≤ 128 ∧ v = .int .i64 k ∧ MS w wx A B Q ∧ Blk wx ob (bys (outP Q k)) tA16) (fun v _ => 128 - (intOf v).toNat)
          case atStart => exact ⟨0, by omega, rfl, hM, hO⟩
          case round =>
            clear hM hO
            obtain ⟨k, hk, rfl, hM, hO⟩ := hrel
            have HO := hid hO
            have HM := hid hM
            by_cases hkl : k < 128
            · have q8 : (k : Int) < 128 := by omega
              have hstep : outP Q (k + 1) = if Q.getD k 0 % 2 = 1 then setB (outP Q k) k else outP Q k := rfl
              have hget := pc_get Q k (by rw [HQl.out]; omega)
              have hcq := hM.p.cellAt hget
              have hxle := HQle.out k
              have hol := outP_len Q k
              obtain ⟨x, hx⟩ : ∃ x, Q.getD k 0 = x := ⟨_, rfl⟩
              obtain ⟨o, ho⟩ : ∃ o, x % 2 = o := ⟨_, rfl⟩
              rw [hx] at hcq hxle hstep
              rw [ho] at hstep
              have q3 : (x : Int).tmod 2 = (o : Int) := by rw [Int.tmod_eq_emod_of_nonneg (by omega)]; omega
              have q4 : (x : Int) % 2 = (o : Int) := by omega
              have q5 : 0 ≤ (k : Int) := by omega
              have q6 : (k : Int) < 256 := by omega
              clear hM hget hx
              by_cases ho1 : o = 1
              · rw [if_pos ho1] at hstep
                subst ho1
                obtain ⟨q, hq⟩ : ∃ q, k / 8 = q := ⟨_, rfl⟩
                obtain ⟨r, hr⟩ : ∃ r, k % 8 = r := ⟨_, rfl⟩
                obtain ⟨s, hs⟩ : ∃ s, 7 - r = s := ⟨_, rfl⟩
                have e1 : (k : Int).tdiv 8 = (q : Int) := by rw [Int.tdiv_eq_ediv_of_nonneg (by omega)]; omega
                have e2 : (k : Int) / 8 = (q : Int) := by omega
                have e3 : (k : Int).tmod 8 = (r : Int) := by rw [Int.tmod_eq_emod_of_nonneg (by omega)]; omega
                have e4 : (k : Int) % 8 = (r : Int) := by omega
                have e5 : (7 : Int) - (r : Int) = (s : Int) := by omega
                have e5' : IntKind.i64.wrap (s : Int) = (s : Int) := by rw [IntKind.wrap_i64]; omega
                have e6 : 0 ≤ (s : Int) := by omega
                have e7 : (q : Int) < 16 := by omega
                have e8 : 0 ≤ (q : Int) := by omega
                have e9 : IntKind.i64.wrap (q : Int) = (q : Int) := by rw [IntKind.wrap_i64]; omega
                have hv := shl_byte s (by omega)
                have hco := hO.drew.cellAt (bys_get (outP Q k) q (by rw [hol]; omega))
                have hfo := hO.frozen q
                unfold setB at hstep
                rw [hq, hr, hs] at hstep
                have hset := bys_set (outP Q k) q ((outP Q k).getD q 0 ||| ((1 : UInt8) <<< UInt8.ofNat s))
                rw [← hstep] at hset
                generalize (1 : UInt8) <<< UInt8.ofNat s = v at *
                generalize (outP Q k).getD q 0 = y at *
                have hO6 : Blk (wr.drew.setCell ⟨ob, q, none⟩ (.int .u8 (bv (y ||| v)))) ob (bys (outP Q (k + 1))) tA16 := by
                  have := hO.drew.set q (.int .u8 (bv (y ||| v)))
                  rw [hset] at this
                  exact this
                have hM6 : MS w (wr.drew.setCell ⟨ob, q, none⟩ (.int .u8 (bv (y ||| v)))) A B Q :=
                  ⟨HM.out.drew.a.setNe (by simp only; omega) _, HM.out.drew.b.setNe (by simp only; omega) _, HM.out.drew.r.setNe (by simp only; omega) _, HM.out.drew.p.setNe (by simp only; omega) _,
                    HM.out.drew.B.trans (((Chg.refl w.heap.size [] wr.drew).setCell (p := ⟨ob, q, none⟩) (.inr (by simp only; omega)) _).below (Nat.le_refl _) (by simp))⟩
                have HO6 := hid hO6
                have HM6 := hid hM6
                clear hO HO HM hO6 hM6 hset hstep hq hr hs ho
                go_wp2_with fail
                try simp only [Act.put]
                refine tkR (fun w' => w'.cell? ⟨ob, q, none⟩ = some (.int .u8 (bv y))) [12] (by kernel_rfl) (fun c a d v w h => by cases d <;> exact h) (hco) (fun hPF hHeld => ?_)
                refine tkB 0 (.some 75) _ _ rfl rfl (by kernel_rfl) (by kernel_rfl) (by kernel_rfl) (by kernel_rfl) hPF rfl (fun w' => by (go_simp; try with_reducible rfl)) hHeld (fun hHeld => ?_)
                simp only [Act.put, List.setIfInBounds_toArray, List.set_cons_zero, List.set_cons_succ]
                refine tkB 1 (.some 76) _ _ rfl rfl (by kernel_rfl) (by kernel_rfl) (by kernel_rfl) (by kernel_rfl) hPF rfl (fun w' => by (go_simp; try with_reducible rfl)) hHeld (fun hHeld => ?_)
                simp only [Act.put, List.setIfInBounds_toArray, List.set_cons_zero, List.set_cons_succ]
                refine tkB 2 (.some 77) _ _ rfl rfl (by kernel_rfl) (by kernel_rfl) (by kernel_rfl) (by kernel_rfl) hPF rfl (fun w' => by (go_simp; try with_reducible rfl)) hHeld (fun hHeld => ?_)
                simp only [Act.put, List.setIfInBounds_toArray, List.set_cons_zero, List.set_cons_succ]
                refine tkB 3 (.some 78) _ _ rfl rfl (by kernel_rfl) (by kernel_rfl) (by kernel_rfl) (by kernel_rfl) hPF rfl (fun w' => by (go_simp; try with_reducible rfl)) hHeld (fun hHeld => ?_)
                simp only [Act.put, List.setIfInBounds_toArray, List.set_cons_zero, List.set_cons_succ]
                refine tkB 4 (.some 79) _ _ rfl rfl (by kernel_rfl) (by kernel_rfl) (by kernel_rfl) (by kernel_rfl) hPF rfl (fun w' => by (go_simp; try with_reducible rfl)) hHeld (fun hHeld => ?_)
                simp only [Act.put, List.setIfInBounds_toArray, List.set_cons_zero, List.set_cons_succ]
                refine tkA 5 (.some 80) _ _ rfl rfl (by kernel_rfl) (by kernel_rfl) (by kernel_rfl) (by kernel_rfl) (by kernel_rfl) hPF rfl (fun w' hw' => by (have h1 := hw'; go_simp; try with_reducible rfl)) hHeld (fun hHeld => ?_)
                simp only [Act.put, List.setIfInBounds_toArray, List.set_cons_zero, List.set_cons_succ]
                refine tkB 6 (.some 81) _ _ rfl rfl (by kernel_rfl) (by kernel_rfl) (by kernel_rfl) (by kernel_rfl) hPF rfl (fun w' => by (go_simp; try with_reducible rfl)) hHeld (fun hHeld => ?_)
                simp only [Act.put, List.setIfInBounds_toArray, List.set_cons_zero, List.set_cons_succ]
                refine tkB 7 (.some 82) _ _ rfl rfl (by kernel_rfl) (by kernel_rfl) (by kernel_rfl) (by kernel_rfl) hPF rfl (fun w' => by (go_simp; try with_reducible rfl)) hHeld (fun hHeld => ?_)
                simp only [Act.put, List.setIfInBounds_toArray, List.set_cons_zero, List.set_cons_succ]
                refine tkB 8 (.some 83) _ _ rfl rfl (by kernel_rfl) (by kernel_rfl) (by kernel_rfl) (by kernel_rfl) hPF rfl (fun w' => by (go_simp; try with_reducible rfl)) hHeld (fun hHeld => ?_)
                simp only [Act.put, List.setIfInBounds_toArray, List.set_cons_zero, List.set_cons_succ]
                refine tkB 9 (.some 84) _ _ rfl rfl (by kernel_rfl) (by kernel_rfl) (by kernel_rfl) (by kernel_rfl) hPF rfl (fun w' => by (go_simp; try with_reducible rfl)) hHeld (fun hHeld => ?_)
                simp only [Act.put, List.setIfInBounds_toArray, List.set_cons_zero, List.set_cons_succ]
                refine tkB 10 (.some 85) _ _ rfl rfl (by kernel_rfl) (by kernel_rfl) (by kernel_rfl) (by kernel_rfl) hPF rfl (fun w' => by (go_simp; try with_reducible rfl)) hHeld (fun hHeld => ?_)
                simp only [Act.put, List.setIfInBounds_toArray, List.set_cons_zero, List.set_cons_succ]
                refine tkB 11 (.some 86) _ _ rfl rfl (by kernel_rfl) (by kernel_rfl) (by kernel_rfl) (by kernel_rfl) hPF rfl (fun w' => by (go_simp; try with_reducible rfl)) hHeld (fun hHeld => ?_)
                simp only [Act.put, List.setIfInBounds_toArray, List.set_cons_zero, List.set_cons_succ]
                refine tkW (rs := [12]) (by kernel_rfl) (by simp) (AllK.close (o := _) rfl (by kernel_rfl) (fun KC hKC => ?_) AllK.nil)
                go_simp
                refine hKC.out _ _ (fun hHeld => ?_)
                clear hKC KC
                try simp only [Act.put]
                refine tkD (by kernel_rfl) ?_ _
                go_wp2_with fail
                go_roundw
                case rel => exact ⟨k + 1, by omega, by go_num, HM6.out, HO6.out⟩
                case measure => (simp [intOf]; try omega)
              · rw [if_neg ho1] at hstep
                have h0 : o = 0 := by omega
                subst h0
                rw [← hstep] at HO
                clear hstep ho ho1 hO
                go_wp2_with fail
                go_roundw
                case rel => exact ⟨k + 1, by omega, by go_num, HM.out, HO.out⟩
                case measure => (simp [intOf]; try omega)
            · have hke : k = 128 := by omega
              have q8 : ¬ ((k : Int) < 128) := by omega
              have hO := HO.out
              rw [hke, Hfin2.out] at hO
              have hql := toBe_len 16 (mulN (be A) (be B))
              obtain ⟨z, hz⟩ : ∃ z, toBe 16 (mulN (be A) (be B)) = z := ⟨_, rfl⟩
              rw [hz] at hO hql
              have Hz := hid hz
              have hr := HM.out.r
              have hBB := HM.out.B
              have hsz : (Try.prog.info? 36).map (·.size) = some (bys z).length := by rw [size54, bys_length, hql]
              clear HO HM hz hke hkl
              go_wp2_with (first | (refine wpList_load_mid rfl 36 (.tmp 9) rfl ob 0 rfl (bys z) _ hO.whole under54 rfl hsz ?_) | (refine wpList_store_mid rfl 36 (.tmp 4) (.tmp 87) rfl (w.heap.size + 1 + 1) 0 (bys z).toArray rfl rfl (hr.there 0 _ (by rw [List.size_toArray, bys_length, bys_length, hql]; decide)) (by rw [size54, List.size_toArray, bys_length, hql]) (all_oneCell_toArray (bys_one _)) ?_))
              have h1d := hr.setCells (bys z) 0 (by rw [bys_length, bys_length, hql]; decide)
              rw [splice_whole _ _ (by rw [bys_length, bys_length, hql]; rfl)] at h1d
              refine bodyPost_ret (v := .agg (bys z).toArray) (results_cell_row (P := Try.prog) (p := 4) (ty := 36) rfl _ _ (w.heap.size + 1 + 1) tA16 _ (0, 0) _ rfl h1d under54 rfl hsz) rfl ⟨by rw [Hz.out], ?_⟩
              exact hBB.trans (((Chg.refl (w.heap.size) [] wr).setCells (b := w.heap.size + 1 + 1) (.inr (Nat.le_trans (Nat.le_succ _) (Nat.le_succ _))) (bys z) 0).below (Nat.le_refl _) (by simp))
end Go.Proofs.Ytgellbapbphnlaa

/- the reference's Padded, Sum, Lengths -/
namespace Go.Proofs.Ytgellbapbphnlaa
open Go.RowKit

/-- b with k noughts behind. -/
def padK (b : List UInt8) (k : Nat) : List UInt8 := b ++ List.replicate k 0
theorem padK_succ (b : List UInt8) (k : Nat) : padK b (k + 1) = padK b k ++ [0] := by unfold padK; rw [List.replicate_succ', List.append_assoc]
theorem padK_len (b : List UInt8) (k : Nat) : (padK b k).length = b.length + k := by simp [padK]
theorem padK_all (b : List UInt8) : padK b (padN b.length) = padZ b := rfl

theorem xor_low (x y a b : Nat) (ha : a < 256) (hb : b < 256) : (x * 256 + a) ^^^ (y * 256 + b) = (x ^^^ y) * 256 + (a ^^^ b) := by
  have h1 : ((x * 256 + a) ^^^ (y * 256 + b)) / 2 ^ 8 = (x * 256 + a) / 2 ^ 8 ^^^ (y * 256 + b) / 2 ^ 8 := Nat.xor_div_two_pow
  have h2 : ((x * 256 + a) ^^^ (y * 256 + b)) % 2 ^ 8 = (x * 256 + a) % 2 ^ 8 ^^^ (y * 256 + b) % 2 ^ 8 := Nat.xor_mod_two_pow
  rw [show (x * 256 + a) / 2 ^ 8 = x by omega, show (y * 256 + b) / 2 ^ 8 = y by omega] at h1
  rw [show (x * 256 + a) % 2 ^ 8 = a by omega, show (y * 256 + b) % 2 ^ 8 = b by omega] at h2
  generalize (x * 256 + a) ^^^ (y * 256 + b) = z at *
  omega
theorem be_xor : ∀ (n : Nat) (l r : List UInt8), l.length = n → r.length = n → be (List.zipWith (· ^^^ ·) l r) = be l ^^^ be r
  | 0, l, r, hl, hr => by
    rw [List.length_eq_zero_iff.1 hl, List.length_eq_zero_iff.1 hr]; rfl
  | n + 1, l, r, hl, hr => by
    obtain ⟨p, c, rfl⟩ : ∃ p c, l = p ++ [c] := ⟨l.dropLast, l.getLast (fun e => by subst e; simp at hl), (List.dropLast_concat_getLast _).symm⟩
    obtain ⟨q, d, rfl⟩ : ∃ q d, r = q ++ [d] := ⟨r.dropLast, r.getLast (fun e => by subst e; simp at hr), (List.dropLast_concat_getLast _).symm⟩
    have h1 : p.length = n := by simpa using hl
    have h2 : q.length = n := by simpa using hr
    rw [List.zipWith_append (by rw [h1, h2]), List.zipWith_cons_cons, List.zipWith_nil_right, be_snoc, be_snoc, be_snoc, be_xor n p q h1 h2, xor_low _ _ _ _ c.toNat_lt d.toNat_lt, UInt8.toNat_xor]
/-- The first k bytes of Y, X put to them. -/
def fillX (Y X : List UInt8) (k : Nat) : List UInt8 := (List.zipWith (· ^^^ ·) Y X).take k ++ Y.drop k
theorem fillX_len (Y X : List UInt8) (k : Nat) (h : X.length = Y.length) (hk : k ≤ Y.length) : (fillX Y X k).length = Y.length := by simp [fillX, h]; omega
theorem fillX_get (Y X : List UInt8) (k : Nat) (h : X.length = Y.length) (hk : k < Y.length) : (fillX Y X k).getD k 0 = Y.getD k 0 := by
  unfold fillX
  have hl : ((List.zipWith (· ^^^ ·) Y X).take k).length = k := by simp [h]; omega
  exact app_at 0 _ Y k hl
theorem fillX_succ (Y X : List UInt8) (k : Nat) (h : X.length = Y.length) (hk : k < Y.length) : (fillX Y X k).set k (Y.getD k 0 ^^^ X.getD k 0) = fillX Y X (k + 1) := by
  have hl : ((List.zipWith (· ^^^ ·) Y X).take k).length = k := by simp [h]; omega
  have hz : (List.zipWith (· ^^^ ·) Y X).getD k 0 = Y.getD k 0 ^^^ X.getD k 0 := by
    simp [List.getD, List.getElem?_zipWith, List.getElem?_eq_getElem hk, List.getElem?_eq_getElem (show k < X.length by omega)]
  unfold fillX
  rw [app_set (0 : UInt8) _ _ _ _ hl hk, take_succ_getD 0 _ _ (by simp [h]; exact hk), hz]
theorem fillX_all (Y X : List UInt8) (h : X.length = Y.length) : fillX Y X Y.length = List.zipWith (· ^^^ ·) Y X := by
  unfold fillX
  rw [List.drop_length, List.append_nil, List.take_of_length_le (by simp [h])]
theorem fillX_zero (Y X : List UInt8) : fillX Y X 0 = Y := by simp [fillX]

set_option maxRecDepth 100000 in
set_option maxHeartbeats 2000000 in
theorem refpadded_any (w : World) (pb : Option Addr) (n cap : Nat) (b : List UInt8) (hb : RowAt w pb b) (hn : b.length = n) (h9 : n < 1000000) :
    Calls Try.prog 63 #[.slice pb n cap] w fun e w' => ∃ v, e = .returned v ∧ OwnR w.heap.size w' v (padZ b) ∧ Below w.heap.size w w' := by
  have Hn := hid hn
  obtain ⟨D, hD⟩ : ∃ D, padN n = D := ⟨_, rfl⟩
  have hz : padK b D = padZ b := by rw [← padK_all, hn, hD]
  have hD16 : D < 16 := by rw [← hD]; unfold padN; omega
  have hDm : (n + D) % 16 = 0 := by rw [← hD]; unfold padN; omega
  have hne : ∀ k, k < D → (n + k) % 16 ≠ 0 := fun k hk => by rw [← hD] at hk; unfold padN at hk; omega
  have Hz := hid hz
  have Hne := hid hne
  have HDm := hid hDm
  have hbm := hb.below ((Below.refl w.heap.size w).alloc (Nat.le_refl _) (.cells #[] 5))
  clear hn hz hne hDm hD hb
  go_enter Try.func63, Try.ntmps63
  go_upto_region 2 with (refine wpList_addO (OwnR.made w) rfl (.tmp 4) (.tmp 5) rfl rfl pb n cap b rfl hbm Hn.out (by simp; omega) (by simp) ?_; intro v3 w3 hown3 hgrow3 _)
  have hS3 : Below w.heap.size w w3 := ((Below.refl _ _).alloc (Nat.le_refl _) _).grown hgrow3 (by simp) (fun j e => ((OwnR.made w).lt j e).1)
  rw [List.nil_append] at hown3
  have hown3 : OwnR w.heap.size w3 v3 (padK b 0) := by rw [padK]; simpa using hown3
  clear hgrow3 hbm
  go_loopw [3] (fun v wx => ∃ k : Nat, k ≤ D ∧ OwnR w.heap.size wx v (padK b k) ∧ Below w.heap.size w wx) (fun v _ => 20000000 - (match v with | .slice _ m _ => m | _ => 0))
  case atStart => exact ⟨0, by omega, hown3, hS3⟩
  case round =>
    clear hown3 hS3
    obtain ⟨k, hk, hown, hB⟩ := hrel
    have hl := padK_len b k
    rw [Hn.out] at hl
    have hsu := padK_succ b k
    obtain ⟨X, hX⟩ : ∃ X, padK b k = X := ⟨_, rfl⟩
    rw [hX] at hown hl hsu
    obtain ⟨t, ht⟩ : ∃ t, n + k = t := ⟨_, rfl⟩
    rw [ht] at hl
    have hown0 := hown
    obtain ⟨pv, cv, rfl, hcv, hrv⟩ := hown.row
    rw [hl] at hown0 ⊢
    have Hown := hid hown0
    have Hsu := hid hsu
    have Hl := hid hl
    have HX := hid hX
    have hs := hB.size
    have htb : t ≤ 2000000 := by omega
    obtain ⟨r, hr⟩ : ∃ r, t % 16 = r := ⟨_, rfl⟩
    have q1 : (t : Int).tmod 16 = (r : Int) := by rw [Int.tmod_eq_emod_of_nonneg (by omega)]; omega
    have q2 : (t : Int) % 16 = (r : Int) := by omega
    clear hown hown0 hrv hcv hsu hX hl
    by_cases hlt : k < D
    · have hr0 : r ≠ 0 := by rw [← hr, ← ht]; exact Hne.out k hlt
      have q3 : (((r : Nat) : Int) != 0) = true := by rw [bne_iff_ne]; omega
      have q4 : ¬ ((r : Int) = 0) := by omega
      have Ht := hid ht
      clear hr ht
      go_wp2_with (refine wpList_push rfl (.tmp 11) (.tmp 12) rfl w.heap.size _ _ rfl Hown.out 0 rfl (by rw [Hl.out]; omega) hs ?_; intro v' w5 hown5 hgrow5 _; have hB5 := hB.grown hgrow5 hs (fun j e => (Hown.out.lt j e).1); rw [← Hsu.out] at hown5; have Hown5 := hid hown5; clear hown5 hgrow5)
      go_roundw
      case rel => exact ⟨k + 1, by omega, Hown5.out, hB5⟩
      case measure =>
        obtain ⟨p5, c5, rfl, _, _⟩ := Hown5.out.row
        have := padK_len b (k + 1)
        simp only
        rw [this, Hn.out]
        have := Ht.out
        omega
    · have hke : k = D := by omega
      have hr0 : r = 0 := by rw [← hr, ← ht, hke]; exact HDm.out
      subst hr0
      have hfin : X = padZ b := by rw [← HX.out, hke, Hz.out]
      rw [hfin] at Hown
      clear hke hr ht hfin hlt
      go_wp2_with fail
      go_ret
      exact ⟨_, rfl, Hown.out, hB⟩

set_option maxRecDepth 100000 in
set_option maxHeartbeats 4000000 in
theorem refsum_any (w : World) (h : List UInt8) (hh : h.length = 16) (pb : Option Addr) (n cap : Nat) (b : List UInt8) (hb : RowAt w pb b) (hn : b.length = n) (h16 : n % 16 = 0) (h9 : n < 1000000) :
    Calls Try.prog 62 #[.agg (bys h).toArray, .slice pb n cap] w fun e w' => e = .returned (.agg (bys (ghF h b)).toArray) ∧ Below w.heap.size w w' := by
  have h0 : Blk ((w.alloc (.cells (bys h).toArray tA16)).alloc (.cells (bys z16).toArray tA16)) w.heap.size (bys h) tA16 := (Blk.new w (bys h) tA16).alloc _
  have h1 : Blk ((w.alloc (.cells (bys h).toArray tA16)).alloc (.cells (bys z16).toArray tA16)) (w.heap.size + 1) (bys z16) tA16 := by
    have := Blk.new (w.alloc (.cells (bys h).toArray tA16)) (bys z16) tA16
    simp only [World.size_alloc] at this; exact this
  have hB0 : Below w.heap.size w ((w.alloc (.cells (bys h).toArray tA16)).alloc (.cells (bys z16).toArray tA16)) := ((Below.refl _ _).alloc (Nat.le_refl _) _).alloc (by simp) _
  have hb0 := hb.below hB0
  have hsz : (Try.prog.info? 36).map (·.size) = some (bys h).length := by rw [size54, bys_length, hh]
  have hz : padZ b = b := by unfold padZ; rw [hn, h16]; simp
  obtain ⟨N, hN⟩ : ∃ N, nblk n = N := ⟨_, rfl⟩
  have hn16 : n = 16 * N := by rw [← hN]; unfold nblk; omega
  have hfin : ghF h b = toBe 16 (ghN (be h) b N) := by unfold ghF; rw [hn, hN]
  have Hz := hid hz
  have Hh := hid hh
  have Hn := hid hn
  have Hfin := hid hfin
  have Hn16 := hid hn16
  clear hz hh hn hfin hN hb hn16
  go_enter Try.func62, Try.ntmps62
  go_wp2_with fail
  change Calls _ _ _ ((w.alloc (.cells (bys h).toArray tA16)).alloc (.cells (bys z16).toArray tA16)) _
  generalize (w.alloc (.cells (bys h).toArray tA16)).alloc (.cells (bys z16).toArray tA16) = w1 at *
  refine (refpadded_any w1 pb n cap b hb0 Hn.out h9).mono ?_
  rintro e w2 ⟨v, rfl, hown, hB2⟩
  rw [Hz.out] at hown
  obtain ⟨pv, cv, rfl, hcv, hrv⟩ := hown.row
  rw [Hn.out]
  have h0 := h0.below hB2 h0.lt
  have h1 := h1.below hB2 h1.lt
  have hB := hB0.trans (hB2.mono hB0.size)
  have hBa : Below w2.heap.size w2 (w2.alloc (.cells (bys z16).toArray tA16)) := (Below.refl _ _).alloc (Nat.le_refl _) _
  have hY : Blk (w2.alloc (.cells (bys z16).toArray tA16)) w2.heap.size (bys (toBe 16 (ghN (be h) b 0))) tA16 := by
    rw [show toBe 16 (ghN (be h) b 0) = z16 from (by rw [ghN]; decide)]; exact Blk.new _ _ _
  have hrv := hrv.below hBa
  have l0 := h0.lt
  have l1 := h1.lt
  have h0 := h0.below hBa h0.lt
  have h1 := h1.below hBa h1.lt
  have hB := hB.trans (hBa.mono hB.size)
  have hpv : ∀ a, pv = some a → a.block < w2.heap.size ∨ b.length = 0 := fun a e => by
    by_cases hb0 : b.length = 0
    · exact .inr hb0
    · left
      have := (hown.lt a.block (by rw [e]; rfl)).2
      exact this
  have hwB : w.heap.size ≤ w2.heap.size := by omega
  clear hown hBa hB2 hB0 hb0 hcv
  go_wp2_with fail
  change Code.wp _ _ _ _ (w2.alloc (.cells (bys z16).toArray tA16))
  have hWs : w2.heap.size < (w2.alloc (.cells (bys z16).toArray tA16)).heap.size := by simp
  generalize w2.alloc (.cells (bys z16).toArray tA16) = W at *
  generalize w2.heap.size = yb at *
  go_loopw [7] (fun v wx => ∃ j t : Nat, t = 16 * j ∧ j ≤ N ∧ v = .int .i64 t ∧ Blk wx yb (bys (toBe 16 (ghN (be h) b j))) tA16 ∧ Chg W.heap.size [yb] W wx) (fun v _ => n - (intOf v).toNat)
  case atStart => exact ⟨0, 0, rfl, by omega, rfl, hY, Chg.refl _ _ _⟩
  case round =>
    clear hY
    obtain ⟨j, t, htj, hj, rfl, hY, hC⟩ := hrel
    by_cases hlt : j < N
    · have q1 : (t : Int) < (n : Int) := by have := Hn16.out; omega
      have q2 : 0 ≤ (t : Int) := by omega
      have hYl := toBe_len 16 (ghN (be h) b j)
      have hbe := be_toBe 16 (ghN (be h) b j)
      have hlt2 : ghN (be h) b j % 256 ^ 16 = ghN (be h) b j := Nat.mod_eq_of_lt (ghN_lt (be16 Hh.out) b j)
      rw [hlt2] at hbe
      have hst : ghN (be h) b (j + 1) = mulN (ghN (be h) b j ^^^ be (blkZ b j)) (be h) := rfl
      have hbl : blkZ b j = (b.drop t).take 16 := by
        unfold blkZ
        rw [← htj, show 16 - ((b.drop t).take 16).length = 0 by rw [List.length_take, List.length_drop, Hn.out]; have := Hn16.out; omega]; simp
      have hXl : ((b.drop t).take 16).length = 16 := by rw [List.length_take, List.length_drop, Hn.out]; have := Hn16.out; omega
      have hXg : ∀ k, k < 16 → ((b.drop t).take 16).getD k 0 = b.getD (t + k) 0 := fun k hk => by simp [List.getD, hk]
      rw [hbl] at hst
      obtain ⟨X, hX⟩ : ∃ X, (b.drop t).take 16 = X := ⟨_, rfl⟩
      rw [hX] at hst hXl hXg
      obtain ⟨Y, hYe⟩ : ∃ Y, toBe 16 (ghN (be h) b j) = Y := ⟨_, rfl⟩
      rw [hYe] at hY hYl hbe
      have hxy := be_xor 16 Y X hYl hXl
      rw [hbe, ] at hxy
      rw [← hxy] at hst
      have Hst := hid hst
      have Htj := hid htj
      have HXg := hid hXg
      have hrow := hrv.chg2 hC (Nat.le_refl _) (fun hl a e => by have := hpv a e; simp; omega)
      have HYl := hid hYl
      have HXl := hid hXl
      have HC := hid hC
      have hY : Blk wr yb (bys (fillX Y X 0)) tA16 := by rw [fillX_zero]; exact hY
      clear hst hbl hX hYe hbe hlt2 hxy htj hXg hC hYl hXl
      go_wp2_with fail
      go_loopw [8] (fun v wx => ∃ k : Nat, k ≤ 16 ∧ v = .int .i64 k ∧ Blk wx yb (bys (fillX Y X k)) tA16 ∧ Chg W.heap.size [yb] W wx ∧ RowAt wx pv b) (fun v _ => 16 - (intOf v).toNat)
      case atStart => exact ⟨0, by omega, rfl, hY, HC.out, hrow⟩
      case round =>
        clear hY hrow
        obtain ⟨k, hk, rfl, hY, hC, hrow⟩ := hrel
        by_cases hkl : k < 16
        · have q3 : (k : Int) < 16 := by omega
          have q4 : 0 ≤ (k : Int) := by omega
          obtain ⟨u, hu⟩ : ∃ u, t + k = u := ⟨_, rfl⟩
          have hun : u < n := by have := Hn16.out; have := Htj.out; omega
          have q5 : (t : Int) + (k : Int) = (u : Int) := by omega
          have q6 : IntKind.i64.wrap (u : Int) = (u : Int) := by rw [IntKind.wrap_i64]; omega
          have q7 : (u : Int) < (n : Int) := by omega
          have q8 : 0 ≤ (u : Int) := by omega
          obtain ⟨bb, bo, rfl, hbw, cb⟩ := hrow u (by rw [Hn.out]; exact hun)
          have hXk := HXg.out k hkl
          rw [hu] at hXk
          rw [← hXk] at cb
          have hfl := fillX_len Y X k (by rw [HXl.out, HYl.out]) (by rw [HYl.out]; omega)
          have hfg := fillX_get Y X k (by rw [HXl.out, HYl.out]) (by rw [HYl.out]; exact hkl)
          have hfs := fillX_succ Y X k (by rw [HXl.out, HYl.out]) (by rw [HYl.out]; exact hkl)
          have cy := hY.drew.cellAt (bys_get (fillX Y X k) k (by rw [hfl, HYl.out]; exact hkl))
          have fy := hY.frozen k
          rw [hfg] at cy
          have hset := bys_set (fillX Y X k) k (Y.getD k 0 ^^^ X.getD k 0)
          rw [hfs] at hset
          have hne : bb ≠ yb := by
            rcases hpv _ rfl with h | h
            · simp only at h; omega
            · have := Hn.out; omega
          generalize Y.getD k 0 = y0 at *
          generalize X.getD k 0 = x0 at *
          have hY6 : Blk (wr.drew.setCell ⟨yb, k, none⟩ (.int .u8 (bv (y0 ^^^ x0)))) yb (bys (fillX Y X (k + 1))) tA16 := by
            have := hY.drew.set k (.int .u8 (bv (y0 ^^^ x0)))
            rw [hset] at this; exact this
          have hC6 : Chg W.heap.size [yb] W (wr.drew.setCell ⟨yb, k, none⟩ (.int .u8 (bv (y0 ^^^ x0)))) := hC.drew.setCell (.inl (by simp)) _
          have hr6 : RowAt (wr.drew.setCell ⟨yb, k, none⟩ (.int .u8 (bv (y0 ^^^ x0)))) (some ⟨bb, bo, none⟩) b := hrow.drew.chg ((Chg.refl wr.drew.heap.size [yb] wr.drew).setCell (.inl (by simp)) _) (Nat.le_refl _) (fun a e => by cases e; simp; exact hne)
          have HY6 := hid hY6
          have HC6 := hid hC6
          have Hr6 := hid hr6
          clear hY6 hC6 hr6 hset hfs hfg hXk hu hY hC hrow hfl
          go_wp2_with fail
          try simp only [Act.put]
          refine tkR (fun w' => w'.cell? ⟨yb, k, none⟩ = some (.int .u8 (bv y0)) ∧ w'.cell? ⟨bb, bo + u, none⟩ = some (.int .u8 (bv x0))) [12] (by kernel_rfl) (fun c a d v w h => by cases d <;> exact h) (⟨cy, cb⟩) (fun hPF hHeld => ?_)
          refine tkB 0 (.some 21) _ _ rfl rfl (by kernel_rfl) (by kernel_rfl) (by kernel_rfl) (by kernel_rfl) hPF rfl (fun w' => by (go_simp; try with_reducible rfl)) hHeld (fun hHeld => ?_)
          simp only [Act.put, List.setIfInBounds_toArray, List.set_cons_zero, List.set_cons_succ]
          refine tkB 1 (.some 22) _ _ rfl rfl (by kernel_rfl) (by kernel_rfl) (by kernel_rfl) (by kernel_rfl) hPF rfl (fun w' => by (go_simp; try with_reducible rfl)) hHeld (fun hHeld => ?_)
          simp only [Act.put, List.setIfInBounds_toArray, List.set_cons_zero, List.set_cons_succ]
          refine tkB 2 (.some 23) _ _ rfl rfl (by kernel_rfl) (by kernel_rfl) (by kernel_rfl) (by kernel_rfl) hPF rfl (fun w' => by (go_simp; try with_reducible rfl)) hHeld (fun hHeld => ?_)
          simp only [Act.put, List.setIfInBounds_toArray, List.set_cons_zero, List.set_cons_succ]
          refine tkA 3 (.some 24) _ _ rfl rfl (by kernel_rfl) (by kernel_rfl) (by kernel_rfl) (by kernel_rfl) (by kernel_rfl) hPF rfl (fun w' hw' => by (have q := hw'.1; go_simp; try with_reducible rfl)) hHeld (fun hHeld => ?_)
          simp only [Act.put, List.setIfInBounds_toArray, List.set_cons_zero, List.set_cons_succ]
          refine tkB 4 (.some 25) _ _ rfl rfl (by kernel_rfl) (by kernel_rfl) (by kernel_rfl) (by kernel_rfl) hPF rfl (fun w' => by (go_simp; try with_reducible rfl)) hHeld (fun hHeld => ?_)
          simp only [Act.put, List.setIfInBounds_toArray, List.set_cons_zero, List.set_cons_succ]
          refine tkB 5 (.some 26) _ _ rfl rfl (by kernel_rfl) (by kernel_rfl) (by kernel_rfl) (by kernel_rfl) hPF rfl (fun w' => by (go_simp; try with_reducible rfl)) hHeld (fun hHeld => ?_)
          simp only [Act.put, List.setIfInBounds_toArray, List.set_cons_zero, List.set_cons_succ]
          refine tkB 6 (.some 27) _ _ rfl rfl (by kernel_rfl) (by kernel_rfl) (by kernel_rfl) (by kernel_rfl) hPF rfl (fun w' => by (go_simp; try with_reducible rfl)) hHeld (fun hHeld => ?_)
          simp only [Act.put, List.setIfInBounds_toArray, List.set_cons_zero, List.set_cons_succ]
          refine tkB 7 (.some 28) _ _ rfl rfl (by kernel_rfl) (by kernel_rfl) (by kernel_rfl) (by kernel_rfl) hPF rfl (fun w' => by (go_simp; try with_reducible rfl)) hHeld (fun hHeld => ?_)
          simp only [Act.put, List.setIfInBounds_toArray, List.set_cons_zero, List.set_cons_succ]
          refine tkB 8 (.some 29) _ _ rfl rfl (by kernel_rfl) (by kernel_rfl) (by kernel_rfl) (by kernel_rfl) hPF rfl (fun w' => by (go_simp; try with_reducible rfl)) hHeld (fun hHeld => ?_)
          simp only [Act.put, List.setIfInBounds_toArray, List.set_cons_zero, List.set_cons_succ]
          refine tkA 9 (.some 30) _ _ rfl rfl (by kernel_rfl) (by kernel_rfl) (by kernel_rfl) (by kernel_rfl) (by kernel_rfl) hPF rfl (fun w' hw' => by (have q := hw'.2; go_simp; try with_reducible rfl)) hHeld (fun hHeld => ?_)
          simp only [Act.put, List.setIfInBounds_toArray, List.set_cons_zero, List.set_cons_succ]
          refine tkB 10 (.some 31) _ _ rfl rfl (by kernel_rfl) (by kernel_rfl) (by kernel_rfl) (by kernel_rfl) hPF rfl (fun w' => by (go_simp; try with_reducible rfl)) hHeld (fun hHeld => ?_)
          simp only [Act.put, List.setIfInBounds_toArray, List.set_cons_zero, List.set_cons_succ]
          refine tkB 11 (.some 32) _ _ rfl rfl (by kernel_rfl) (by kernel_rfl) (by kernel_rfl) (by kernel_rfl) hPF rfl (fun w' => by (go_simp; try with_reducible rfl)) hHeld (fun hHeld => ?_)
          simp only [Act.put, List.setIfInBounds_toArray, List.set_cons_zero, List.set_cons_succ]
          refine tkW (rs := [12]) (by kernel_rfl) (by simp) (AllK.close (o := _) rfl (by kernel_rfl) (fun KC hKC => ?_) AllK.nil)
          go_simp
          refine hKC.out _ _ (fun hHeld => ?_)
          clear hKC KC
          try simp only [Act.put]
          refine tkD (by kernel_rfl) ?_ _
          go_wp2_with fail
          go_roundw
          case rel => exact ⟨k + 1, by omega, by go_num, HY6.out, HC6.out, Hr6.out⟩
          case measure => (simp [intOf]; try omega)
        · have hke : k = 16 := by omega
          have q3 : ¬ ((k : Int) < 16) := by omega
          have hfa := fillX_all Y X (by rw [HXl.out, HYl.out])
          rw [hke, ← HYl.out, hfa] at hY
          have hYl : (List.zipWith (· ^^^ ·) Y X).length = 16 := by rw [List.length_zipWith, HXl.out, HYl.out]; rfl
          obtain ⟨V, hV⟩ : ∃ V, List.zipWith (· ^^^ ·) Y X = V := ⟨_, rfl⟩
          have hst := Hst.out
          rw [hV] at hY hYl hst
          have hszV : (Try.prog.info? 36).map (·.size) = some (bys V).length := by rw [size54, bys_length, hYl]
          have h0w := h0.chg hC h0.lt (by simp; omega)
          have Hst2 := hid hst
          clear hke hfa hV hst hrow hkl
          go_wp2_with (first | (refine wpList_load_mid rfl 36 (.tmp 6) rfl yb 0 rfl (bys V) _ hY.whole under54 rfl hszV ?_) | (refine wpList_load_mid rfl 36 (.tmp 2) rfl w.heap.size 0 rfl (bys h) _ h0w.whole under54 rfl hsz ?_))
          refine (refmul_any wr V h hYl Hh.out).mono ?_
          rintro e w6 ⟨rfl, hB6⟩
          rw [← Hst2.out]
          have hGl := toBe_len 16 (ghN (be h) b (j + 1))
          obtain ⟨G, hG⟩ : ∃ G, toBe 16 (ghN (be h) b (j + 1)) = G := ⟨_, rfl⟩
          rw [hG] at hGl ⊢
          have hY6 := hY.below hB6 hY.lt
          have hC6 := hC.trans ((Chg.ofBelow hB6).mono (M := W.heap.size) (G := [yb]) hC.size (fun _ _ h => h))
          obtain ⟨hY7, hC7⟩ := store16 (new := G) hY6 (by rw [hGl, hYl])
          have hC8 := hC6.trans (hC7.mono (M := W.heap.size) (G := [yb]) hC6.size (fun _ _ h => h))
          rw [← hG] at hY7
          have HY7 := hid hY7
          have HC8 := hid hC8
          obtain ⟨t', ht'⟩ : ∃ t', t + 16 = t' := ⟨_, rfl⟩
          have q9 : (t : Int) + 16 = (t' : Int) := by omega
          have htj2 : t' = 16 * (j + 1) := by have := Htj.out; omega
          have q10 : (t' : Int) ≤ 2000000 := by have := Hn16.out; omega
          have Htj2 := hid htj2
          have HG := hid hG
          clear hY7 hC8 hC7 hC6 hB6 hY hC h0w hG ht' htj2
          go_wp2_with (refine wpList_store_mid rfl 36 (.tmp 6) (.tmp 35) rfl yb 0 (bys G).toArray rfl rfl (hY6.there 0 _ (by rw [List.size_toArray, bys_length, bys_length, hGl, hYl]; decide)) (by rw [size54, List.size_toArray, bys_length, hGl]) (all_oneCell_toArray (bys_one _)) ?_)
          go_roundw
          case rel => exact ⟨j + 1, t', Htj2.out, by omega, by go_num, by (have := HY7.out; rw [HG.out] at this ⊢; exact this), HC8.out⟩
          case measure => (simp [intOf]; have := Hn16.out; have := Htj2.out; omega)
    · have hje : j = N := by omega
      have q1 : ¬ ((t : Int) < (n : Int)) := by have := Hn16.out; omega
      rw [hje, ← Hfin.out] at hY
      have hGl := ghF_len h b
      obtain ⟨G, hG⟩ : ∃ G, ghF h b = G := ⟨_, rfl⟩
      rw [hG] at hY hGl
      have HG := hid hG
      have h1w := h1.chg hC h1.lt (by simp; omega)
      have hBw := hB.trans (hC.below (M := w.heap.size) hB.size (fun k hk => by simp at hk; omega))
      have hszG : (Try.prog.info? 36).map (·.size) = some (bys G).length := by rw [size54, bys_length, hGl]
      clear hje hG hlt htj
      go_wp2_with (first | (refine wpList_load_mid rfl 36 (.tmp 6) rfl yb 0 rfl (bys G) _ hY.whole under54 rfl hszG ?_) | (refine wpList_store_mid rfl 36 (.tmp 4) (.tmp 36) rfl (w.heap.size + 1) 0 (bys G).toArray rfl rfl (h1w.there 0 _ (by rw [List.size_toArray, bys_length, bys_length, hGl]; decide)) (by rw [size54, List.size_toArray, bys_length, hGl]) (all_oneCell_toArray (bys_one _)) ?_))
      have h1d := h1w.setCells (bys G) 0 (by rw [bys_length, bys_length, hGl]; decide)
      rw [splice_whole _ _ (by rw [bys_length, bys_length, hGl]; rfl)] at h1d
      refine bodyPost_ret (v := .agg (bys G).toArray) (results_cell_row (P := Try.prog) (p := 4) (ty := 36) rfl _ _ (w.heap.size + 1) tA16 _ (0, 0) _ rfl h1d under54 rfl hszG) rfl ⟨by rw [HG.out], ?_⟩
      exact hBw.trans (((Chg.refl (w.heap.size) [] wr).setCells (b := w.heap.size + 1) (.inr (Nat.le_succ _)) (bys G) 0).below (Nat.le_refl _) (by simp))
end Go.Proofs.Ytgellbapbphnlaa

/- the reference's Lengths, block, more -/
namespace Go.Proofs.Ytgellbapbphnlaa
open Go.RowKit

theorem lenF_halves (a m : Nat) (hm : m < 1000000000) : lenF a m = toBe 8 (8 * a) ++ toBe 8 (8 * m) := by
  unfold lenF
  rw [toBe16_hilo, hiN_of (by omega), loN_of (by omega)]
set_option maxRecDepth 100000 in
set_option maxHeartbeats 2000000 in
theorem reflengths_any (w : World) (a m : Nat) (ha : a < 1000000000) (hm : m < 1000000000) :
    Calls Try.prog 64 #[.int .i64 a, .int .i64 m] w fun e w' => ∃ v, e = .returned v ∧ OwnR w.heap.size w' v (lenF a m) ∧ Below w.heap.size w w' := by
  rw [lenF_halves a m hm]
  obtain ⟨x, hx⟩ : ∃ x, 8 * a = x := ⟨_, rfl⟩
  obtain ⟨y, hy⟩ : ∃ y, 8 * m = y := ⟨_, rfl⟩
  have q1 : (8 : Int) * (a : Int) = (x : Int) := by omega
  have q2 : (8 : Int) * (m : Int) = (y : Int) := by omega
  have q3 : (a : Int) ≤ 1000000000 := by omega
  have q4 : (m : Int) ≤ 1000000000 := by omega
  have q5 : (x : Int) ≤ 8000000000 := by omega
  have q6 : (y : Int) ≤ 8000000000 := by omega
  have q7 : 0 ≤ (x : Int) := by omega
  have q8 : 0 ≤ (y : Int) := by omega
  have hx64 : x < 18446744073709551616 := by omega
  have hy64 : y < 18446744073709551616 := by omega
  rw [hx, hy]
  clear hx hy ha hm
  go_enter Try.func64, Try.ntmps64
  go_wp2_with fail
  refine (rputbig_any _ x 8 hx64 (by omega)).mono ?_
  rintro e w1 ⟨v1, rfl, hown1, hB1⟩
  go_wp2_with fail
  refine (rputbig_any _ y 8 hy64 (by omega)).mono ?_
  rintro e w2 ⟨v2, rfl, hown2, hB2⟩
  have ho2 := hown1.below hB2
  have hBB := hB1.trans (hB2.mono hB1.size)
  obtain ⟨p2, c2, rfl, _, hr2⟩ := hown2.row
  rw [toBe_len]
  have hs := hBB.size
  go_wp2_with (refine wpList_addO ho2 rfl (.tmp 8) (.tmp 12) rfl rfl p2 8 c2 (toBe 8 y) rfl hr2 (toBe_len _ _) (by rw [toBe_len]; omega) hs ?_; intro v5 w5 hown5 hgrow5 _)
  have hB5 := hBB.grown hgrow5 hs (fun j e => (ho2.lt j e).1)
  go_ret
  exact ⟨_, rfl, hown5, hB5⟩

/-- The first r of z, noughts behind. -/
def fillN (z : List UInt8) (r : Nat) : List UInt8 := z.take r ++ List.replicate (z.length - r) 0
theorem fillN_len (z : List UInt8) (r : Nat) (h : r ≤ z.length) : (fillN z r).length = z.length := by simp [fillN]; omega
theorem fillN_succ (z : List UInt8) (r : Nat) (h : r < z.length) : (fillN z r).set r (z.getD r 0) = fillN z (r + 1) := by
  have hl : (z.take r).length = r := by rw [List.length_take]; omega
  unfold fillN
  rw [take_succ_getD 0 z r h, show z.length - r = (z.length - (r + 1)) + 1 by omega, List.replicate_succ, List.set_append_right _ _ (by omega), hl, Nat.sub_self, List.set_cons_zero, List.append_assoc]
  rfl
theorem fillN_all (z : List UInt8) : fillN z z.length = z := by simp [fillN]
set_option maxRecDepth 100000 in
set_option maxHeartbeats 2000000 in
theorem refblock_any (w : World) (pb : Option Addr) (cap : Nat) (b : List UInt8) (hb : RowAt w pb b) (hn : b.length = 16) :
    Calls Try.prog 61 #[.slice pb 16 cap] w fun e w' => e = .returned (.agg (bys b).toArray) ∧ Below w.heap.size w w' := by
  have h0 : Blk ((w.alloc (.cells (bys z16).toArray tA16)).alloc (.cells (bys z16).toArray tA16)) w.heap.size (bys z16) tA16 := (Blk.new w (bys z16) tA16).alloc _
  have h1 : Blk ((w.alloc (.cells (bys z16).toArray tA16)).alloc (.cells (bys z16).toArray tA16)) (w.heap.size + 1) (bys z16) tA16 := by
    have := Blk.new (w.alloc (.cells (bys z16).toArray tA16)) (bys z16) tA16
    simp only [World.size_alloc] at this; exact this
  have hB0 : Below w.heap.size w ((w.alloc (.cells (bys z16).toArray tA16)).alloc (.cells (bys z16).toArray tA16)) := ((Below.refl _ _).alloc (Nat.le_refl _) _).alloc (by simp) _
  have hb0 := hb.below hB0
  have hf0 : fillN b 0 = z16 := by unfold fillN; rw [hn]; rfl
  have hpos := hb.pos (by omega)
  have h1 : Blk ((w.alloc (.cells (bys z16).toArray tA16)).alloc (.cells (bys z16).toArray tA16)) (w.heap.size + 1) (bys (fillN b 0)) tA16 := by rw [hf0]; exact h1
  have Hn := hid hn
  clear hn hb hf0
  go_enter Try.func61, Try.ntmps61
  go_wp2_with fail
  change Code.wp _ _ _ _ ((w.alloc (.cells (bys z16).toArray tA16)).alloc (.cells (bys z16).toArray tA16))
  generalize (w.alloc (.cells (bys z16).toArray tA16)).alloc (.cells (bys z16).toArray tA16) = W at *
  have l0 := h0.lt
  go_loopw [4] (fun v wx => ∃ k : Nat, k ≤ 16 ∧ v = .int .i64 k ∧ Blk wx (w.heap.size + 1) (bys (fillN b k)) tA16 ∧ Chg W.heap.size [w.heap.size + 1] W wx) (fun v _ => 16 - (intOf v).toNat)
  case atStart => exact ⟨0, by omega, rfl, h1, Chg.refl _ _ _⟩
  case round =>
    clear h1
    obtain ⟨k, hk, rfl, hX, hC⟩ := hrel
    by_cases hkl : k < 16
    · have q1 : (k : Int) < 16 := by omega
      have q2 : 0 ≤ (k : Int) := by omega
      obtain ⟨bb, bo, rfl, _, cb⟩ := (hb0.chgL hC (fun a e => by have := hpos a e; omega) (fun a e => by have := hpos a e; simp; omega)) k (by rw [Hn.out]; exact hkl)
      have hfl := fillN_len b k (by rw [Hn.out]; omega)
      have hfs := fillN_succ b k (by rw [Hn.out]; exact hkl)
      have cx := hX.cellAt (bys_get (fillN b k) k (by rw [hfl, Hn.out]; exact hkl))
      have fx := hX.frozen k
      have hset := bys_set (fillN b k) k (b.getD k 0)
      rw [hfs] at hset
      generalize b.getD k 0 = x0 at *
      have hX6 : Blk (wr.setCell ⟨w.heap.size + 1, k, none⟩ (.int .u8 (bv x0))) (w.heap.size + 1) (bys (fillN b (k + 1))) tA16 := by
        have := hX.set k (.int .u8 (bv x0))
        rw [hset] at this; exact this
      have hC6 : Chg W.heap.size [w.heap.size + 1] W (wr.setCell ⟨w.heap.size + 1, k, none⟩ (.int .u8 (bv x0))) := hC.setCell (.inl (by simp)) _
      have HX6 := hid hX6
      have HC6 := hid hC6
      clear hX6 hC6 hset hfs hfl hX hC
      go_wp2_with fail
      go_roundw
      case rel => exact ⟨k + 1, by omega, by go_num, HX6.out, HC6.out⟩
      case measure => (simp [intOf]; try omega)
    · have hke : k = 16 := by omega
      have q1 : ¬ ((k : Int) < 16) := by omega
      have hfa := fillN_all b
      rw [Hn.out] at hfa
      rw [hke, hfa] at hX
      have h0w := h0.chg hC l0 (by simp)
      have hBw := hB0.trans (hC.below (M := w.heap.size) hB0.size (fun k hk => by simp at hk; omega))
      have hsz : (Try.prog.info? 36).map (·.size) = some (bys b).length := by rw [size54, bys_length, Hn.out]
      have hbl := Hn.out
      have hz16 : (bys z16).length = 16 := rfl
      generalize hZe : bys z16 = Z at *
      clear hke hfa hkl
      go_wp2_with (first | (refine wpList_load_mid rfl 36 (.tmp 3) rfl (w.heap.size + 1) 0 rfl (bys b) _ hX.whole under54 rfl hsz ?_) | (refine wpList_store_mid rfl 36 (.tmp 2) (.tmp 15) rfl w.heap.size 0 (bys b).toArray rfl rfl (h0w.there 0 _ (by rw [List.size_toArray, bys_length, hbl, hz16]; decide)) (by rw [size54, List.size_toArray, bys_length, hbl]) (all_oneCell_toArray (bys_one _)) ?_))
      have h1d := h0w.setCells (bys b) 0 (by rw [bys_length, hbl, hz16]; decide)
      rw [splice_whole _ _ (by rw [bys_length, hbl, hz16])] at h1d
      refine bodyPost_ret (v := .agg (bys b).toArray) (results_cell_row (P := Try.prog) (p := 2) (ty := 36) rfl _ _ w.heap.size tA16 _ (0, 0) _ rfl h1d under54 rfl hsz) rfl ⟨rfl, ?_⟩
      exact hBw.trans (((Chg.refl (w.heap.size) [] wr).setCells (b := w.heap.size) (.inr (Nat.le_refl _)) (bys b) 0).below (Nat.le_refl _) (by simp))

theorem toBe_inc (k : Nat) (l : List UInt8) (e : UInt8) (h : l.length = k) : toBe (k + 1) (be (l ++ [e]) + 1) = if e + 1 = 0 then toBe k (be l + 1) ++ [0] else l ++ [e + 1] := by
  rw [be_snoc, toBe_succ]
  have he := e.toNat_lt
  by_cases h0 : e + 1 = 0
  · have h1 : (e + 1).toNat = 0 := by rw [h0]; rfl
    rw [UInt8.toNat_add] at h1
    have h2 : e.toNat = 255 := by simp at h1; omega
    rw [if_pos h0, h2, show (be l * 256 + 255 + 1) / 256 = be l + 1 by omega]
    congr 2
    apply UInt8.toNat_inj.1
    (simp; try omega)
  · have h2 : e.toNat < 255 := by
      have : e.toNat ≠ 255 := fun h => h0 (by apply UInt8.toNat_inj.1; rw [UInt8.toNat_add, h]; rfl)
      omega
    rw [if_neg h0, show (be l * 256 + e.toNat + 1) / 256 = be l by omega, toBe_be l k h]
    congr 2
    apply UInt8.toNat_inj.1
    rw [UInt8.toNat_add]; (simp; try omega)
theorem gcnt_one (p : List UInt8) (hp : p.length = 12) (a b d e : UInt8) : gcnt (p ++ [a, b, d, e]) 1 =
    if e + 1 = 0 then if d + 1 = 0 then if b + 1 = 0 then p ++ [a + 1, 0, 0, 0] else p ++ [a, b + 1, 0, 0] else p ++ [a, b, d + 1, 0] else p ++ [a, b, d, e + 1] := by
  have e1 : (p ++ [a, b, d, e]).take 12 = p := by rw [List.take_append_of_le_length (by omega), List.take_of_length_le (by omega)]
  have e2 : (p ++ [a, b, d, e]).drop 12 = [a, b, d, e] := by rw [List.drop_append, List.drop_of_length_le (by omega), hp]; rfl
  have t0 : toBe 0 (be ([] : List UInt8) + 1) = [] := rfl
  have h1 := toBe_inc 0 [] a rfl
  have h2 := toBe_inc 1 [a] b rfl
  have h3 := toBe_inc 2 [a, b] d rfl
  have h4 := toBe_inc 3 [a, b, d] e rfl
  unfold gcnt
  rw [e1, e2]
  simp only [List.nil_append, List.cons_append] at h1 h2 h3 h4
  rw [show (4 : Nat) = 3 + 1 from rfl, h4, h3, h2, h1, t0]
  by_cases c1 : e + 1 = 0
  · by_cases c2 : d + 1 = 0
    · by_cases c3 : b + 1 = 0
      · by_cases c4 : a + 1 = 0
        · simp [c1, c2, c3, c4]
        · simp [c1, c2, c3, c4]
      · simp [c1, c2, c3]
    · simp [c1, c2]
  · simp [c1]
theorem gcnt_gcnt {c : List UInt8} (hc : c.length = 16) (a b : Nat) : gcnt (gcnt c a) b = gcnt c (a + b) := by
  have h12 : (c.take 12).length = 12 := by rw [List.length_take, hc]; rfl
  have e1 : (gcnt c a).take 12 = c.take 12 := by unfold gcnt; rw [List.take_append_of_le_length (by omega), List.take_of_length_le (by omega)]
  have e2 : (gcnt c a).drop 12 = toBe 4 (be (c.drop 12) + a) := by unfold gcnt; rw [List.drop_append, List.drop_of_length_le (by omega), h12]; rfl
  show (gcnt c a).take 12 ++ toBe 4 (be ((gcnt c a).drop 12) + b) = _
  rw [e1, e2, be_toBe]
  unfold gcnt
  congr 1
  apply toBe_congr
  rw [← Nat.add_assoc]
  simp
theorem gcnt_zero {c : List UInt8} (hc : c.length = 16) : gcnt c 0 = c := by
  unfold gcnt
  rw [Nat.add_zero, toBe_be _ 4 (by rw [List.length_drop, hc]), List.take_append_drop]

theorem bv_inc (x : UInt8) : IntKind.u8.wrap (bv x + 1) = bv (x + 1) := by
  have h := x.toNat_lt
  rw [IntKind.wrap_u8]
  unfold bv
  rw [UInt8.toNat_add]
  simp
theorem get4 (p : List UInt8) (hp : p.length = 12) (a b d e : UInt8) : (bys (p ++ [a, b, d, e]))[12]? = some (.int .u8 (bv a)) ∧ (bys (p ++ [a, b, d, e]))[13]? = some (.int .u8 (bv b)) ∧ (bys (p ++ [a, b, d, e]))[14]? = some (.int .u8 (bv d)) ∧ (bys (p ++ [a, b, d, e]))[15]? = some (.int .u8 (bv e)) := by
  have h : bys (p ++ [a, b, d, e]) = bys p ++ [.int .u8 (bv a), .int .u8 (bv b), .int .u8 (bv d), .int .u8 (bv e)] := by simp [bys]
  rw [h]
  refine ⟨?_, ?_, ?_, ?_⟩ <;> (rw [List.getElem?_append_right (by rw [bys_length, hp]; decide), bys_length, hp]; rfl)
theorem set4 (p : List UInt8) (hp : p.length = 12) (a b d e x : UInt8) : (bys (p ++ [a, b, d, e])).set 12 (.int .u8 (bv x)) = bys (p ++ [x, b, d, e]) ∧ (bys (p ++ [a, b, d, e])).set 13 (.int .u8 (bv x)) = bys (p ++ [a, x, d, e]) ∧ (bys (p ++ [a, b, d, e])).set 14 (.int .u8 (bv x)) = bys (p ++ [a, b, x, e]) ∧ (bys (p ++ [a, b, d, e])).set 15 (.int .u8 (bv x)) = bys (p ++ [a, b, d, x]) := by
  refine ⟨?_, ?_, ?_, ?_⟩ <;> (rw [bys_set, List.set_append_right _ _ (by rw [hp]; decide), hp]; rfl)
set_option maxRecDepth 100000 in
set_option maxHeartbeats 4000000 in
theorem more16 (w : World) (p : List UInt8) (hp : p.length = 12) (a b d e : UInt8) :
    Calls Try.prog 98 #[.agg (bys (p ++ [a, b, d, e])).toArray] w fun r w' => r = .returned (.agg (bys (gcnt (p ++ [a, b, d, e]) 1)).toArray) ∧ Below w.heap.size w w' := by
  have h0 : Blk ((w.alloc (.cells (bys (p ++ [a, b, d, e])).toArray tA16)).alloc (.cells (bys z16).toArray tA16)) w.heap.size (bys (p ++ [a, b, d, e])) tA16 := (Blk.new w (bys (p ++ [a, b, d, e])) tA16).alloc _
  have h1 : Blk ((w.alloc (.cells (bys (p ++ [a, b, d, e])).toArray tA16)).alloc (.cells (bys z16).toArray tA16)) (w.heap.size + 1) (bys z16) tA16 := by
    have := Blk.new (w.alloc (.cells (bys (p ++ [a, b, d, e])).toArray tA16)) (bys z16) tA16
    simp only [World.size_alloc] at this; exact this
  have hB0 : Below w.heap.size w ((w.alloc (.cells (bys (p ++ [a, b, d, e])).toArray tA16)).alloc (.cells (bys z16).toArray tA16)) := ((Below.refl _ _).alloc (Nat.le_refl _) _).alloc (by simp) _
  have hg := gcnt_one p hp a b d e
  have hgl : (gcnt (p ++ [a, b, d, e]) 1).length = 16 := gcnt_len (by simp [hp]) 1
  obtain ⟨G, hG⟩ : ∃ G, gcnt (p ++ [a, b, d, e]) 1 = G := ⟨_, rfl⟩
  rw [hG] at hg hgl
  have HG := hid hG
  have Hg := hid hg
  have hend : ∀ wx, Blk wx (w.heap.size + 1) (bys z16) tA16 → Below w.heap.size w wx → Blk (wx.setCells (w.heap.size + 1) 0 (bys G)) (w.heap.size + 1) (bys G) tA16 ∧ Below w.heap.size w (wx.setCells (w.heap.size + 1) 0 (bys G)) := fun wx h1 h2 => by
    have h1d := h1.setCells (bys G) 0 (by rw [bys_length, bys_length, hgl]; decide)
    rw [splice_whole _ _ (by rw [bys_length, bys_length, hgl]; rfl)] at h1d
    exact ⟨h1d, h2.trans (((Chg.refl (w.heap.size) [] wx).setCells (b := w.heap.size + 1) (.inr (Nat.le_succ _)) (bys G) 0).below (Nat.le_refl _) (by simp))⟩
  have Hend := hid hend
  have hsz : (Try.prog.info? 36).map (·.size) = some (bys G).length := by rw [size54, bys_length, hgl]
  have b1 := bv_inc a
  have b2 := bv_inc b
  have b3 := bv_inc d
  have b4 := bv_inc e
  have nz : ∀ x : UInt8, x ≠ 0 → (bv x != 0) = true := fun x hx => by rw [bne_iff_ne]; intro h; exact hx (bv_inj h)
  have Hnz := hid nz
  clear hG hg hend nz
  go_enter Try.func98, Try.ntmps98
  go_wp2_with fail
  change Code.wp _ _ _ _ ((w.alloc (.cells (bys (p ++ [a, b, d, e])).toArray tA16)).alloc (.cells (bys z16).toArray tA16))
  generalize (w.alloc (.cells (bys (p ++ [a, b, d, e])).toArray tA16)).alloc (.cells (bys z16).toArray tA16) = W at *
  refine wp_loop_rounds 5 ?_
  rw [rounds_succ]
  have cc := h0.cellAt (get4 p hp a b d e).2.2.2
  have ff := h0.frozen 15
  have hs := h0.set 15 (.int .u8 (bv (e + 1)))
  rw [(set4 p hp a b d e (e + 1)).2.2.2] at hs
  have h1s := h1.setNe (a := ⟨w.heap.size, 15, none⟩) (by simp) (.int .u8 (bv (e + 1)))
  have hBs := hB0.trans (((Chg.refl w.heap.size [] W).setCell (p := ⟨w.heap.size, 15, none⟩) (.inr (Nat.le_refl _)) (.int .u8 (bv (e + 1)))).below (Nat.le_refl _) (by simp))
  clear h0 h1 hB0
  go_upto_region 5 with fail
  change Code.wp _ _ _ _ (W.setCell ⟨w.heap.size, 15, none⟩ (.int .u8 (bv (e + 1))))
  generalize W.setCell ⟨w.heap.size, 15, none⟩ (.int .u8 (bv (e + 1))) = W3 at *
  clear cc ff
  have h1 := h1s
  have hB0 := hBs
  have cc := hs.cellAt (get4 p hp a b d (e + 1)).2.2.2
  by_cases c3 : e + 1 = 0
  · rw [c3] at cc hs
    have cc : W3.cell? ⟨w.heap.size, 15, none⟩ = some (.int .u8 0) := cc
    have h0 := hs
    clear hs h1s hBs
    go_wp2_with fail
    clear cc
    rw [rounds_succ]
    have cc := h0.cellAt (get4 p hp a b d 0).2.2.1
    have ff := h0.frozen 14
    have hs := h0.set 14 (.int .u8 (bv (d + 1)))
    rw [(set4 p hp a b d 0 (d + 1)).2.2.1] at hs
    have h1s := h1.setNe (a := ⟨w.heap.size, 14, none⟩) (by simp) (.int .u8 (bv (d + 1)))
    have hBs := hB0.trans (((Chg.refl w.heap.size [] W3).setCell (p := ⟨w.heap.size, 14, none⟩) (.inr (Nat.le_refl _)) (.int .u8 (bv (d + 1)))).below (Nat.le_refl _) (by simp))
    clear h0 h1 hB0
    go_upto_region 5 with fail
    change Code.wp _ _ _ _ (W3.setCell ⟨w.heap.size, 14, none⟩ (.int .u8 (bv (d + 1))))
    generalize W3.setCell ⟨w.heap.size, 14, none⟩ (.int .u8 (bv (d + 1))) = W2 at *
    clear cc ff
    have h1 := h1s
    have hB0 := hBs
    have cc := hs.cellAt (get4 p hp a b (d + 1) 0).2.2.1
    by_cases c2 : d + 1 = 0
    · rw [c2] at cc hs
      have cc : W2.cell? ⟨w.heap.size, 14, none⟩ = some (.int .u8 0) := cc
      have h0 := hs
      clear hs h1s hBs
      go_wp2_with fail
      clear cc
      rw [rounds_succ]
      have cc := h0.cellAt (get4 p hp a b 0 0).2.1
      have ff := h0.frozen 13
      have hs := h0.set 13 (.int .u8 (bv (b + 1)))
      rw [(set4 p hp a b 0 0 (b + 1)).2.1] at hs
      have h1s := h1.setNe (a := ⟨w.heap.size, 13, none⟩) (by simp) (.int .u8 (bv (b + 1)))
      have hBs := hB0.trans (((Chg.refl w.heap.size [] W2).setCell (p := ⟨w.heap.size, 13, none⟩) (.inr (Nat.le_refl _)) (.int .u8 (bv (b + 1)))).below (Nat.le_refl _) (by simp))
      clear h0 h1 hB0
      go_upto_region 5 with fail
      change Code.wp _ _ _ _ (W2.setCell ⟨w.heap.size, 13, none⟩ (.int .u8 (bv (b + 1))))
      generalize W2.setCell ⟨w.heap.size, 13, none⟩ (.int .u8 (bv (b + 1))) = W1 at *
      clear cc ff
      have h1 := h1s
      have hB0 := hBs
      have cc := hs.cellAt (get4 p hp a (b + 1) 0 0).2.1
      by_cases c1 : b + 1 = 0
      · rw [c1] at cc hs
        have cc : W1.cell? ⟨w.heap.size, 13, none⟩ = some (.int .u8 0) := cc
        have h0 := hs
        clear hs h1s hBs
        go_wp2_with fail
        clear cc
        rw [rounds_succ]
        have cc := h0.cellAt (get4 p hp a 0 0 0).1
        have ff := h0.frozen 12
        have hs := h0.set 12 (.int .u8 (bv (a + 1)))
        rw [(set4 p hp a 0 0 0 (a + 1)).1] at hs
        have h1s := h1.setNe (a := ⟨w.heap.size, 12, none⟩) (by simp) (.int .u8 (bv (a + 1)))
        have hBs := hB0.trans (((Chg.refl w.heap.size [] W1).setCell (p := ⟨w.heap.size, 12, none⟩) (.inr (Nat.le_refl _)) (.int .u8 (bv (a + 1)))).below (Nat.le_refl _) (by simp))
        clear h0 h1 hB0
        go_upto_region 5 with fail
        change Code.wp _ _ _ _ (W1.setCell ⟨w.heap.size, 12, none⟩ (.int .u8 (bv (a + 1))))
        generalize W1.setCell ⟨w.heap.size, 12, none⟩ (.int .u8 (bv (a + 1))) = W0 at *
        clear cc ff
        have h1 := h1s
        have hB0 := hBs
        have cc := hs.cellAt (get4 p hp (a + 1) 0 0 0).1
        by_cases c0 : a + 1 = 0
        · rw [c0] at cc hs
          have cc : W0.cell? ⟨w.heap.size, 12, none⟩ = some (.int .u8 0) := cc
          have h0 := hs
          clear hs h1s hBs
          have hG : p ++ [0, 0, 0, 0] = G := by rw [Hg.out]; simp [c3, c2, c1, c0]
          have hr := h0
          rw [hG] at hr
          clear h0 hG
          go_wp2_with fail
          rw [rounds_succ]
          go_wp2_with (first | (refine wpList_load_mid rfl 36 (.tmp 1) rfl w.heap.size 0 rfl (bys G) _ hr.whole under54 rfl hsz ?_) | (refine wpList_store_mid rfl 36 (.tmp 2) (.tmp 18) rfl (w.heap.size + 1) 0 (bys G).toArray rfl rfl (h1.there 0 _ (by rw [List.size_toArray, bys_length, bys_length, hgl]; decide)) (by rw [size54, List.size_toArray, bys_length, hgl]) (all_oneCell_toArray (bys_one _)) ?_))
          obtain ⟨g1, g2⟩ := Hend.out _ h1 hB0
          refine bodyPost_ret (v := .agg (bys G).toArray) (results_cell_row (P := Try.prog) (p := 2) (ty := 36) rfl _ _ (w.heap.size + 1) tA16 _ (0, 0) _ rfl g1 under54 rfl hsz) rfl ⟨by rw [HG.out], g2⟩
        · have q : (bv (a + 1) != 0) = true := Hnz.out _ c0
          have hG : p ++ [a + 1, 0, 0, 0] = G := by rw [Hg.out]; simp [c3, c2, c1]
          have hr := hs
          rw [hG] at hr
          clear hs hG h1s hBs
          generalize bv (a + 1) = bz at *
          go_wp2_with (first | (refine wpList_load_mid rfl 36 (.tmp 1) rfl w.heap.size 0 rfl (bys G) _ hr.whole under54 rfl hsz ?_) | (refine wpList_store_mid rfl 36 (.tmp 2) (.tmp 17) rfl (w.heap.size + 1) 0 (bys G).toArray rfl rfl (h1.there 0 _ (by rw [List.size_toArray, bys_length, bys_length, hgl]; decide)) (by rw [size54, List.size_toArray, bys_length, hgl]) (all_oneCell_toArray (bys_one _)) ?_))
          obtain ⟨g1, g2⟩ := Hend.out _ h1 hB0
          refine bodyPost_ret (v := .agg (bys G).toArray) (results_cell_row (P := Try.prog) (p := 2) (ty := 36) rfl _ _ (w.heap.size + 1) tA16 _ (0, 0) _ rfl g1 under54 rfl hsz) rfl ⟨by rw [HG.out], g2⟩
      · have q : (bv (b + 1) != 0) = true := Hnz.out _ c1
        have hG : p ++ [a, b + 1, 0, 0] = G := by rw [Hg.out]; simp [c3, c2, c1]
        have hr := hs
        rw [hG] at hr
        clear hs hG h1s hBs
        generalize bv (b + 1) = bz at *
        go_wp2_with (first | (refine wpList_load_mid rfl 36 (.tmp 1) rfl w.heap.size 0 rfl (bys G) _ hr.whole under54 rfl hsz ?_) | (refine wpList_store_mid rfl 36 (.tmp 2) (.tmp 17) rfl (w.heap.size + 1) 0 (bys G).toArray rfl rfl (h1.there 0 _ (by rw [List.size_toArray, bys_length, bys_length, hgl]; decide)) (by rw [size54, List.size_toArray, bys_length, hgl]) (all_oneCell_toArray (bys_one _)) ?_))
        obtain ⟨g1, g2⟩ := Hend.out _ h1 hB0
        refine bodyPost_ret (v := .agg (bys G).toArray) (results_cell_row (P := Try.prog) (p := 2) (ty := 36) rfl _ _ (w.heap.size + 1) tA16 _ (0, 0) _ rfl g1 under54 rfl hsz) rfl ⟨by rw [HG.out], g2⟩
    · have q : (bv (d + 1) != 0) = true := Hnz.out _ c2
      have hG : p ++ [a, b, d + 1, 0] = G := by rw [Hg.out]; simp [c3, c2]
      have hr := hs
      rw [hG] at hr
      clear hs hG h1s hBs
      generalize bv (d + 1) = bz at *
      go_wp2_with (first | (refine wpList_load_mid rfl 36 (.tmp 1) rfl w.heap.size 0 rfl (bys G) _ hr.whole under54 rfl hsz ?_) | (refine wpList_store_mid rfl 36 (.tmp 2) (.tmp 17) rfl (w.heap.size + 1) 0 (bys G).toArray rfl rfl (h1.there 0 _ (by rw [List.size_toArray, bys_length, bys_length, hgl]; decide)) (by rw [size54, List.size_toArray, bys_length, hgl]) (all_oneCell_toArray (bys_one _)) ?_))
      obtain ⟨g1, g2⟩ := Hend.out _ h1 hB0
      refine bodyPost_ret (v := .agg (bys G).toArray) (results_cell_row (P := Try.prog) (p := 2) (ty := 36) rfl _ _ (w.heap.size + 1) tA16 _ (0, 0) _ rfl g1 under54 rfl hsz) rfl ⟨by rw [HG.out], g2⟩
  · have q : (bv (e + 1) != 0) = true := Hnz.out _ c3
    have hG : p ++ [a, b, d, e + 1] = G := by rw [Hg.out]; simp [c3]
    have hr := hs
    rw [hG] at hr
    clear hs hG h1s hBs
    generalize bv (e + 1) = bz at *
    go_wp2_with (first | (refine wpList_load_mid rfl 36 (.tmp 1) rfl w.heap.size 0 rfl (bys G) _ hr.whole under54 rfl hsz ?_) | (refine wpList_store_mid rfl 36 (.tmp 2) (.tmp 17) rfl (w.heap.size + 1) 0 (bys G).toArray rfl rfl (h1.there 0 _ (by rw [List.size_toArray, bys_length, bys_length, hgl]; decide)) (by rw [size54, List.size_toArray, bys_length, hgl]) (all_oneCell_toArray (bys_one _)) ?_))
    obtain ⟨g1, g2⟩ := Hend.out _ h1 hB0
    refine bodyPost_ret (v := .agg (bys G).toArray) (results_cell_row (P := Try.prog) (p := 2) (ty := 36) rfl _ _ (w.heap.size + 1) tA16 _ (0, 0) _ rfl g1 under54 rfl hsz) rfl ⟨by rw [HG.out], g2⟩
end Go.Proofs.Ytgellbapbphnlaa
