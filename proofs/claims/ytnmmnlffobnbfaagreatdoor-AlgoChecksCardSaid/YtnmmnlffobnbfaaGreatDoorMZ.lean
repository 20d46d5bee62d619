/- Du (joined by merge4.py) -/
import Derived.Test.YtnmmnlffobnbfaaGreatDoorMU
import Derived.Test.YtnmmnlffobnbfaaGreatDoorMY
/- algo: Do -/
namespace Go.Proofs.YtnmmnlffobnbfaaGreatDoor
open Go.RowKit

/-- What an algorithm does with bytes, or which error. -/
def algF (alg : Int) (op : Bool) (key iv aad b : List UInt8) : Nat × List UInt8 :=
  if checkF alg op key.length iv.length aad.length ≠ 0 then (checkF alg op key.length iv.length aad.length, [])
  else if (roomF alg op b.length).2 ≠ 0 then ((roomF alg op b.length).2, [])
  else if alg = 1 then (0, sumS b) else if alg = 2 then (0, hmacF key b) else doF alg op key iv aad b
theorem roomA_ok {alg : Int} {op : Bool} {k v a : Nat} (h : checkF alg op k v a = 0) (n : Nat) : roomA alg op (n : Int) = roomF alg op n := by
  unfold checkF at h
  split at h
  · omega
  · rename_i h1
    unfold roomA
    rw [if_neg h1, if_neg (by omega)]
    rfl
/-- The look-up of Do. -/
theorem kind_do {W : World} {b g k1 k2 : Nat} (hm : MapAt W b (kindsL g k1 k2)) (alg : Int) (v : Value) (h : getM (kindsL g k1 k2) alg = some v) :
    (Instr.lookup tKinds (.map (some b)) (.int .i64 alg) false).run Tryz.prog W = .ok v W := by
  have hl := run_look_ents underK .i64 fk rfl false (zeroK W) hm alg
  rw [h] at hl
  simpa using hl

theorem field_do (cls : Int) (one : Bool) (key : Value) (i0 i1 aad : Int) (room F : FuncId) (W : World) : (Instr.field tKind (kindV cls one key i0 i1 aad room F) 6).run Tryz.prog W = .ok (fv F) W := by kernel_rfl
theorem field_class (cls : Int) (one : Bool) (key : Value) (i0 i1 aad : Int) (room F : FuncId) (W : World) : (Instr.field tKind (kindV cls one key i0 i1 aad room F) 0).run Tryz.prog W = .ok (.int .i64 cls) W := by kernel_rfl
set_option maxRecDepth 100000 in
set_option maxHeartbeats 4000000 in
/-- Do, if the params are good. -/
theorem do_good (w : World) (alg : Int) (op : Bool) (key iv aad b : List UInt8) (pk : Option Addr) (ck : Nat) (pv : Option Addr) (cv : Nat) (pa : Option Addr) (ca : Nat) (_ : ParAt w op key iv aad pk ck pv cv pa ca) (pb : Option Addr) (cb : Nat) (_ : RowAt w pb b) (_ : b.length ≤ cb) (hlb : b.length < 1000000)
    (hck : checkF alg op key.length iv.length aad.length = 0) (hrm : (roomF alg op b.length).2 = 0) (_ : TabW w) (cls : Int) (one : Bool) (kk : Nat → Nat → Nat → Value) (i0 i1 aa : Int) (room F : FuncId)
    (hg : ∀ g k1 k2, getM (kindsL g k1 k2) alg = some (kindV cls one (kk g k1 k2) i0 i1 aa room F)) (hcf : ∀ args w, (callFunc F args).run Tryz.prog w = .ok (.enter F args) w) (R : Nat × List UInt8)
    (hF : ∀ W, Below w.heap.size w W → Calls Tryz.prog F #[.agg (parD alg op key iv aad pk ck pv cv pa ca).toArray, .slice pb b.length cb] W fun e W' => DoAns w.heap.size alg op R e W' ∧ Below W.heap.size W W') :
    Calls Tryz.prog 13 #[.agg (parD alg op key iv aad pk ck pv cv pa ca).toArray, .slice pb b.length cb] w fun e w' => DoAns w.heap.size alg op R e w' ∧ Below w.heap.size w w' := by
  have hbk := Blk.new w (parD alg op key iv aad pk ck pv cv pa ca) tPar
  have hB : Below w.heap.size w (w.alloc (.cells (parD alg op key iv aad pk ck pv cv pa ca).toArray tPar)) := (Below.refl _ _).alloc (Nat.le_refl _) _
  obtain ⟨w1, hw1⟩ : ∃ w1, w.alloc (.cells (parD alg op key iv aad pk ck pv cv pa ca).toArray tPar) = w1 := ⟨_, rfl⟩
  rw [hw1] at hbk hB
  have HW1 := hid hw1
  have HC := hid (check_any w1 alg op pk key.length ck pv iv.length cv pa aad.length ca)
  have HF := hid hF
  have Hg := hid hg
  have hwh := hid hbk.whole
  rw [hck] at HC
  have hR := hid (fun W => room_any W alg op (b.length : Int) (by omega))
  have hra := roomA_ok hck b.length
  clear hF hg hw1
  go_enter Tryz.func13, Tryz.ntmps13
  go_upto_region 1 with fail
  change Code.wp _ _ _ _ (w.alloc (.cells (parD alg op key iv aad pk ck pv cv pa ca).toArray tPar))
  rw [HW1.out]
  go_wp2_with (refine wpList_load_mid rfl tPar (.tmp 2) rfl w.heap.size 0 rfl (parD alg op key iv aad pk ck pv cv pa ca) _ hwh.out Tryz.underlying31 rfl sizePar ?_)
  refine HC.out.mono ?_
  rintro e w2 ⟨rfl, hB2⟩
  have hbk2 := hbk.below hB2 hbk.lt
  have hBB := hB.trans (hB2.mono hB.size)
  have c0 : w2.cell? ⟨w.heap.size, 0, none⟩ = some (.int .i64 alg) := hbk2.cell 0
  have c1 : w2.cell? ⟨w.heap.size, 1, none⟩ = some (.bool op) := hbk2.cell 1
  clear HC hbk hB hB2 hwh HW1
  go_wp2_with fail
  refine (hR.out _).mono ?_
  rintro e w3 ⟨rfl, hB3⟩
  rw [hra, hrm]
  have hbk3 := hbk2.below hB3 hbk2.lt
  have hBB3 := hBB.trans (hB3.mono hBB.size)
  clear c0 c1 hbk2 hBB hB3 hR
  go_upto_region 7 with fail
  have Hhk := hid hbk3
  have HB3 := hid hBB3
  clear hbk3 hBB3
  try simp only [Act.put]
  refine tkR (fun w' => Below w3.heap.size w3 w') [7] (by kernel_rfl) (fun c a d v w h => by cases d <;> exact h) ((Below.refl _ _).drew) (fun hPF hHeld => ?_)
  refine tkB 1 (.some 28) _ _ rfl rfl (by kernel_rfl) (by kernel_rfl) (by kernel_rfl) (by kernel_rfl) hPF rfl (fun w' => by (go_simp; try with_reducible rfl)) hHeld (fun hHeld => ?_)
  simp only [Act.put, List.setIfInBounds_toArray, List.set_cons_zero, List.set_cons_succ]
  refine tkA 2 (.some 29) _ _ rfl rfl (by kernel_rfl) (by kernel_rfl) (by kernel_rfl) (by kernel_rfl) (by kernel_rfl) hPF rfl (fun w' hw' => by (have h1 := (Hhk.out.below hw' Hhk.out.lt).cell 0; go_simp; try with_reducible rfl)) hHeld (fun hHeld => ?_)
  simp only [Act.put, List.setIfInBounds_toArray, List.set_cons_zero, List.set_cons_succ]
  refine tkL 5 (.some 32) _ rfl rfl 31 (.tmp 2) rfl w.heap.size 0 (parD alg op key iv aad pk ck pv cv pa ca) _ (by kernel_rfl) (by kernel_rfl) (by kernel_rfl) (by kernel_rfl) (by kernel_rfl) hPF rfl rfl (fun w' hw' => (Hhk.out.below hw' Hhk.out.lt).whole) Tryz.underlying31 rfl sizePar hHeld (fun hHeld => ?_)
  simp only [Act.put, List.setIfInBounds_toArray, List.set_cons_zero, List.set_cons_succ]
  refine tkB 6 (.some 33) _ _ rfl rfl (by kernel_rfl) (by kernel_rfl) (by kernel_rfl) (by kernel_rfl) hPF rfl (fun w' => by (go_simp; try with_reducible rfl)) hHeld (fun hHeld => ?_)
  simp only [Act.put, List.setIfInBounds_toArray, List.set_cons_zero, List.set_cons_succ]
  have hS := hHeld (by kernel_rfl)
  refine tkW (rs := [0]) (by kernel_rfl) (by simp) (AllK.cons (o := _) rfl (fun KC hKC => ?_) AllK.nil)
  go_simp
  refine (kinds_any _).mono ?_
  rintro e w4 ⟨mb, g, k1, k2, rfl, hm, _, _, _, hB4⟩
  have h4 := hS.trans (hB4.mono hS.size)
  have hl := hid (fun (W : World) (hB : Below w4.heap.size w4 W) => kind_do (hm.below hB hm.lt) alg _ (Hg.out g k1 k2))
  refine hKC.out _ _ (h4) (fun hHeld => ?_)
  clear hKC KC
  try simp only [Act.put, List.setIfInBounds_toArray, List.set_cons_zero, List.set_cons_succ]
  refine tkS (fun w' => Below w4.heap.size w4 w') (fun w' h => Below.trans h4 (Below.mono h (Below.size h4))) (Below.refl _ _) (fun hHeld => ?_)
  refine tkA 3 (.some 30) _ _ rfl rfl (by kernel_rfl) (by kernel_rfl) (by kernel_rfl) (by kernel_rfl) (by kernel_rfl) hPF rfl (fun w' hw' => by (have h1 := hl.out _ hw'; go_simp; try with_reducible rfl)) hHeld (fun hHeld => ?_)
  simp only [Act.put, List.setIfInBounds_toArray, List.set_cons_zero, List.set_cons_succ]
  refine tkA 4 (.some 31) _ _ rfl rfl (by kernel_rfl) (by kernel_rfl) (by kernel_rfl) (by kernel_rfl) (by kernel_rfl) hPF rfl (fun w' hw' => by (have h1 := field_do cls one (kk g k1 k2) i0 i1 aa room F; go_simp; try with_reducible rfl)) hHeld (fun hHeld => ?_)
  simp only [Act.put, List.setIfInBounds_toArray, List.set_cons_zero, List.set_cons_succ]
  refine tkW (rs := [7]) (by kernel_rfl) (by simp) (AllK.close (o := _) rfl (by kernel_rfl) (fun KC hKC => ?_) AllK.nil)
  go_simp
  have hS7 := hHeld (by kernel_rfl)
  have h7 := HB3.out.trans ((h4.trans (hS7.mono h4.size)).mono HB3.out.size)
  refine (HF.out _ h7).mono ?_
  rintro e w5 ⟨⟨v, rfl, hv, hown⟩, hB5⟩
  refine hKC.out _ _ (fun hHeld => ?_)
  clear hKC KC
  try simp only [Act.put, List.setIfInBounds_toArray, List.set_cons_zero, List.set_cons_succ]
  refine tkB 8 (.some 35) _ _ rfl rfl (by kernel_rfl) (by kernel_rfl) (by kernel_rfl) (by kernel_rfl) hPF rfl (fun w' => by (go_simp; try with_reducible rfl)) hHeld (fun hHeld => ?_)
  simp only [Act.put, List.setIfInBounds_toArray, List.set_cons_zero, List.set_cons_succ]
  refine tkB 9 (.some 36) _ _ rfl rfl (by kernel_rfl) (by kernel_rfl) (by kernel_rfl) (by kernel_rfl) hPF rfl (fun w' => by (go_simp; try with_reducible rfl)) hHeld (fun hHeld => ?_)
  simp only [Act.put, List.setIfInBounds_toArray, List.set_cons_zero, List.set_cons_succ]
  refine tkB 10 (.some 4) _ _ rfl rfl (by kernel_rfl) (by kernel_rfl) (by kernel_rfl) (by kernel_rfl) hPF rfl (fun w' => by (go_simp; try with_reducible rfl)) hHeld (fun hHeld => ?_)
  simp only [Act.put, List.setIfInBounds_toArray, List.set_cons_zero, List.set_cons_succ]
  refine tkB 11 (.some 5) _ _ rfl rfl (by kernel_rfl) (by kernel_rfl) (by kernel_rfl) (by kernel_rfl) hPF rfl (fun w' => by (go_simp; try with_reducible rfl)) hHeld (fun hHeld => ?_)
  simp only [Act.put, List.setIfInBounds_toArray, List.set_cons_zero, List.set_cons_succ]
  refine tkD (by kernel_rfl) ?_ _
  go_wp2_with fail
  go_ret2
  exact ⟨⟨v, rfl, hv, hown⟩, h7.trans (hB5.mono h7.size)⟩

set_option maxRecDepth 100000 in
set_option maxHeartbeats 4000000 in
theorem do_badc (w : World) (alg : Int) (op : Bool) (key iv aad b : List UInt8) (pk : Option Addr) (ck : Nat) (pv : Option Addr) (cv : Nat) (pa : Option Addr) (ca : Nat) (pb : Option Addr) (cb : Nat) (n : Nat) (hck : checkF alg op key.length iv.length aad.length = n) (hn : n ≠ 0) :
    Calls Tryz.prog 13 #[.agg (parD alg op key iv aad pk ck pv cv pa ca).toArray, .slice pb b.length cb] w fun e w' => DoAns w.heap.size alg op (n, []) e w' ∧ Below w.heap.size w w' := by
  have hbk := Blk.new w (parD alg op key iv aad pk ck pv cv pa ca) tPar
  have hB : Below w.heap.size w (w.alloc (.cells (parD alg op key iv aad pk ck pv cv pa ca).toArray tPar)) := (Below.refl _ _).alloc (Nat.le_refl _) _
  obtain ⟨w1, hw1⟩ : ∃ w1, w.alloc (.cells (parD alg op key iv aad pk ck pv cv pa ca).toArray tPar) = w1 := ⟨_, rfl⟩
  rw [hw1] at hbk hB
  have HW1 := hid hw1
  have HC := hid (check_any w1 alg op pk key.length ck pv iv.length cv pa aad.length ca)
  have hwh := hid hbk.whole
  rw [hck] at HC
  have hni : ¬ (n : Int) = 0 := by omega
  clear hw1
  go_enter Tryz.func13, Tryz.ntmps13
  go_upto_region 1 with fail
  change Code.wp _ _ _ _ (w.alloc (.cells (parD alg op key iv aad pk ck pv cv pa ca).toArray tPar))
  rw [HW1.out]
  go_wp2_with (refine wpList_load_mid rfl tPar (.tmp 2) rfl w.heap.size 0 rfl (parD alg op key iv aad pk ck pv cv pa ca) _ hwh.out Tryz.underlying31 rfl sizePar ?_)
  refine HC.out.mono ?_
  rintro e w2 ⟨rfl, hB2⟩
  have hBB := hid (hB.trans (hB2.mono hB.size))
  clear HC hbk hB hB2 hwh HW1
  go_wp2_with fail
  go_ret2
  exact ⟨DoAns.err hn, hBB.out⟩
set_option maxRecDepth 100000 in
set_option maxHeartbeats 4000000 in
theorem do_badr (w : World) (alg : Int) (op : Bool) (key iv aad b : List UInt8) (pk : Option Addr) (ck : Nat) (pv : Option Addr) (cv : Nat) (pa : Option Addr) (ca : Nat) (pb : Option Addr) (cb : Nat) (hlb : b.length < 1000000) (n : Nat) (hck : checkF alg op key.length iv.length aad.length = 0) (hrm : (roomF alg op b.length).2 = n) (hn : n ≠ 0) :
    Calls Tryz.prog 13 #[.agg (parD alg op key iv aad pk ck pv cv pa ca).toArray, .slice pb b.length cb] w fun e w' => DoAns w.heap.size alg op (n, []) e w' ∧ Below w.heap.size w w' := by
  have hbk := Blk.new w (parD alg op key iv aad pk ck pv cv pa ca) tPar
  have hB : Below w.heap.size w (w.alloc (.cells (parD alg op key iv aad pk ck pv cv pa ca).toArray tPar)) := (Below.refl _ _).alloc (Nat.le_refl _) _
  obtain ⟨w1, hw1⟩ : ∃ w1, w.alloc (.cells (parD alg op key iv aad pk ck pv cv pa ca).toArray tPar) = w1 := ⟨_, rfl⟩
  rw [hw1] at hbk hB
  have HW1 := hid hw1
  have HC := hid (check_any w1 alg op pk key.length ck pv iv.length cv pa aad.length ca)
  have hwh := hid hbk.whole
  rw [hck] at HC
  have hR := hid (fun W => room_any W alg op (b.length : Int) (by omega))
  have hra := roomA_ok hck b.length
  have hni : ¬ (n : Int) = 0 := by omega
  clear hw1
  go_enter Tryz.func13, Tryz.ntmps13
  go_upto_region 1 with fail
  change Code.wp _ _ _ _ (w.alloc (.cells (parD alg op key iv aad pk ck pv cv pa ca).toArray tPar))
  rw [HW1.out]
  go_wp2_with (refine wpList_load_mid rfl tPar (.tmp 2) rfl w.heap.size 0 rfl (parD alg op key iv aad pk ck pv cv pa ca) _ hwh.out Tryz.underlying31 rfl sizePar ?_)
  refine HC.out.mono ?_
  rintro e w2 ⟨rfl, hB2⟩
  have hbk2 := hbk.below hB2 hbk.lt
  have hBB := hB.trans (hB2.mono hB.size)
  have c0 : w2.cell? ⟨w.heap.size, 0, none⟩ = some (.int .i64 alg) := hbk2.cell 0
  have c1 : w2.cell? ⟨w.heap.size, 1, none⟩ = some (.bool op) := hbk2.cell 1
  clear HC hbk hB hB2 hwh HW1
  go_wp2_with fail
  refine (hR.out _).mono ?_
  rintro e w3 ⟨rfl, hB3⟩
  rw [hra, hrm]
  have hBB3 := hid (hBB.trans (hB3.mono hBB.size))
  clear c0 c1 hbk2 hBB hB3 hR
  go_wp2_with fail
  go_ret2
  exact ⟨DoAns.err hn, hBB3.out⟩

set_option maxRecDepth 100000 in
set_option maxHeartbeats 4000000 in
theorem k1_any (w : World) (hW : TabW w) (op : Bool) (key iv aad b : List UInt8) (pk : Option Addr) (ck : Nat) (pv : Option Addr) (cv : Nat) (pa : Option Addr) (ca : Nat) (pb : Option Addr) (cb : Nat) (hb : RowAt w pb b) (hlb : b.length < 1000000) :
    Calls Tryz.prog 75 #[.agg (parD 1 op key iv aad pk ck pv cv pa ca).toArray, .slice pb b.length cb] w fun e w' => DoAns w.heap.size 1 op (0, sumS b) e w' ∧ Below w.heap.size w w' := by
  have hB : Below w.heap.size w (w.alloc (.cells (parD 1 op key iv aad pk ck pv cv pa ca).toArray tPar)) := (Below.refl _ _).alloc (Nat.le_refl _) _
  obtain ⟨w1, hw1⟩ : ∃ w1, w.alloc (.cells (parD 1 op key iv aad pk ck pv cv pa ca).toArray tPar) = w1 := ⟨_, rfl⟩
  rw [hw1] at hB
  have HW1 := hid hw1
  have HS := hid (ssum_any w1 (hW.below hB hW.1) pb b.length cb b (hb.below hB) rfl (by omega))
  clear hw1 hb hW
  go_enter Tryz.func75, Tryz.ntmps75
  go_upto_region 1 with fail
  change Code.wp _ _ _ _ (w.alloc (.cells (parD 1 op key iv aad pk ck pv cv pa ca).toArray tPar))
  rw [HW1.out]
  go_wp2_with fail
  refine HS.out.mono ?_
  rintro e w2 ⟨rfl, hB2⟩
  have hl := sumS_len b
  obtain ⟨R, hR⟩ : ∃ R, sumS b = R := ⟨_, rfl⟩
  rw [hR] at hl ⊢
  have HR := hid hR
  have hBB := hB.trans (hB2.mono hB.size)
  clear hR HS hB hB2
  go_wp2_with fail
  refine (one_any w2 R hl).mono ?_
  rintro e w3 ⟨rfl, hb3, hB3⟩
  have hfin := hid (show DoAns w.heap.size 1 op (0, sumS b) (.returned (.tuple #[.slice (some ⟨w2.heap.size, 0, none⟩) 32 32, .int .i64 0])) w3 ∧ Below w.heap.size w w3 from
    ⟨⟨_, rfl, ⟨some ⟨w2.heap.size, 0, none⟩, 32, by rw [HR.out, hl], fun _ => by rw [HR.out, hl]; exact Nat.le_refl _, by rw [HR.out]; exact hb3.rowAt0⟩, fun h => absurd h (by decide)⟩, hBB.trans (hB3.mono hBB.size)⟩)
  clear hb3 hBB hB3
  go_wp2_with fail
  go_ret2
  exact hfin.out
set_option maxRecDepth 100000 in
set_option maxHeartbeats 4000000 in
theorem k2_any (w : World) (hW : TabW w) (op : Bool) (key iv aad b : List UInt8) (pk : Option Addr) (ck : Nat) (pv : Option Addr) (cv : Nat) (pa : Option Addr) (ca : Nat) (hrk : RowAt w pk key) (hk0 : 0 < key.length) (hk9 : key.length < 1000000) (pb : Option Addr) (cb : Nat) (hb : RowAt w pb b) (hlb : b.length < 1000000) :
    Calls Tryz.prog 77 #[.agg (parD 2 op key iv aad pk ck pv cv pa ca).toArray, .slice pb b.length cb] w fun e w' => DoAns w.heap.size 2 op (0, hmacF key b) e w' ∧ Below w.heap.size w w' := by
  have hbk := Blk.new w (parD 2 op key iv aad pk ck pv cv pa ca) tPar
  have hB : Below w.heap.size w (w.alloc (.cells (parD 2 op key iv aad pk ck pv cv pa ca).toArray tPar)) := (Below.refl _ _).alloc (Nat.le_refl _) _
  obtain ⟨w1, hw1⟩ : ∃ w1, w.alloc (.cells (parD 2 op key iv aad pk ck pv cv pa ca).toArray tPar) = w1 := ⟨_, rfl⟩
  rw [hw1] at hB hbk
  have HW1 := hid hw1
  have c2 : w1.cell? ⟨w.heap.size, 2, none⟩ = some (.slice pk key.length ck) := hbk.cell 2
  have HS := hid (hmac_any w1 (hW.below hB hW.1) pk key.length ck key (hrk.below hB) rfl hk0 hk9 pb b.length cb b (hb.below hB) rfl hlb)
  clear hw1 hb hW hrk hbk
  go_enter Tryz.func77, Tryz.ntmps77
  go_upto_region 1 with fail
  change Code.wp _ _ _ _ (w.alloc (.cells (parD 2 op key iv aad pk ck pv cv pa ca).toArray tPar))
  rw [HW1.out]
  go_wp2_with fail
  refine HS.out.mono ?_
  rintro e w2 ⟨rfl, hB2⟩
  have hl : (hmacF key b).length = 32 := sumS_len _
  obtain ⟨R, hR⟩ : ∃ R, hmacF key b = R := ⟨_, rfl⟩
  rw [hR] at hl ⊢
  have HR := hid hR
  have hBB := hB.trans (hB2.mono hB.size)
  clear hR HS hB hB2 c2
  go_wp2_with fail
  refine (one_any w2 R hl).mono ?_
  rintro e w3 ⟨rfl, hb3, hB3⟩
  have hfin := hid (show DoAns w.heap.size 2 op (0, hmacF key b) (.returned (.tuple #[.slice (some ⟨w2.heap.size, 0, none⟩) 32 32, .int .i64 0])) w3 ∧ Below w.heap.size w w3 from
    ⟨⟨_, rfl, ⟨some ⟨w2.heap.size, 0, none⟩, 32, by rw [HR.out, hl], fun _ => by rw [HR.out, hl]; exact Nat.le_refl _, by rw [HR.out]; exact hb3.rowAt0⟩, fun h => absurd h (by decide)⟩, hBB.trans (hB3.mono hBB.size)⟩)
  clear hb3 hBB hB3
  go_wp2_with fail
  go_ret2
  exact hfin.out
theorem calld1 (args : Array Value) (w : World) : (callFunc 75 args).run Tryz.prog w = .ok (.enter 75 args) w := by kernel_rfl
theorem calld2 (args : Array Value) (w : World) : (callFunc 77 args).run Tryz.prog w = .ok (.enter 77 args) w := by kernel_rfl
theorem calld4 (args : Array Value) (w : World) : (callFunc 80 args).run Tryz.prog w = .ok (.enter 80 args) w := by kernel_rfl
theorem calld5 (args : Array Value) (w : World) : (callFunc 85 args).run Tryz.prog w = .ok (.enter 85 args) w := by kernel_rfl
theorem calld6 (args : Array Value) (w : World) : (callFunc 90 args).run Tryz.prog w = .ok (.enter 90 args) w := by kernel_rfl
theorem calld7 (args : Array Value) (w : World) : (callFunc 94 args).run Tryz.prog w = .ok (.enter 94 args) w := by kernel_rfl

theorem check_ok {alg : Int} {op : Bool} {k v a : Nat} (h : checkF alg op k v a = 0) :
    (alg = 1 ∨ alg = 2 ∨ alg = 3 ∨ alg = 4 ∨ alg = 5 ∨ alg = 6) ∧ ¬ (op = true ∧ alg ≤ 2) ∧ (alg = 2 → 1 ≤ k ∧ k ≤ 100) ∧ (alg = 3 ∨ alg = 4 ∨ alg = 5 → k = 16 ∨ k = 32) ∧ (alg = 3 ∨ alg = 4 → v = 16) ∧ (alg = 5 → 1 ≤ v ∧ v ≤ 64) ∧ (alg = 6 → k = 32 ∧ v = 12) ∧ a ≤ 1000 := by
  unfold checkF at h
  by_cases h1 : alg < 1 ∨ 6 < alg ∨ (op = true ∧ alg ≤ 2)
  · rw [if_pos h1] at h; omega
  rw [if_neg h1] at h
  have h6 : alg = 1 ∨ alg = 2 ∨ alg = 3 ∨ alg = 4 ∨ alg = 5 ∨ alg = 6 := by
    have a1 : ¬ alg < 1 := fun h => h1 (.inl h)
    have a2 : ¬ 6 < alg := fun h => h1 (.inr (.inl h))
    omega
  have ho : ¬ (op = true ∧ alg ≤ 2) := fun h => h1 (.inr (.inr h))
  refine ⟨h6, ho, ?_⟩
  clear h1
  rcases h6 with rfl | rfl | rfl | rfl | rfl | rfl <;> simp at h ⊢ <;> (repeat' split at h) <;> simp_all <;> omega

/-- Do. -/
theorem do_any (w : World) (alg : Int) (op : Bool) (key iv aad b : List UInt8) (pk : Option Addr) (ck : Nat) (pv : Option Addr) (cv : Nat) (pa : Option Addr) (ca : Nat) (hP : ParAt w op key iv aad pk ck pv cv pa ca) (pb : Option Addr) (cb : Nat) (hb : RowAt w pb b) (hcb : b.length ≤ cb) (hlb : b.length < 1000000) (T : TabW w) :
    Calls Tryz.prog 13 #[.agg (parD alg op key iv aad pk ck pv cv pa ca).toArray, .slice pb b.length cb] w fun e w' => DoAns w.heap.size alg op (algF alg op key iv aad b) e w' ∧ Below w.heap.size w w' := by
  unfold algF
  by_cases hck : checkF alg op key.length iv.length aad.length = 0
  · rw [if_neg (fun h => h hck)]
    by_cases hrm : (roomF alg op b.length).2 = 0
    · rw [if_neg (fun h => h hrm)]
      obtain ⟨h6, _, k2, k3, v3, v5, k7, _⟩ := check_ok hck
      have big : ∀ (cls : Int) (one : Bool) (kk : Nat → Nat → Nat → Value) (i0 i1 aa : Int) (room F : FuncId) (R : Nat × List UInt8),
          (∀ g k1 k2, getM (kindsL g k1 k2) alg = some (kindV cls one (kk g k1 k2) i0 i1 aa room F)) → (∀ args w, (callFunc F args).run Tryz.prog w = .ok (.enter F args) w) →
          (∀ W, Below w.heap.size w W → Calls Tryz.prog F #[.agg (parD alg op key iv aad pk ck pv cv pa ca).toArray, .slice pb b.length cb] W fun e W' => DoAns W.heap.size alg op R e W' ∧ Below W.heap.size W W') →
          Calls Tryz.prog 13 #[.agg (parD alg op key iv aad pk ck pv cv pa ca).toArray, .slice pb b.length cb] w fun e w' => DoAns w.heap.size alg op R e w' ∧ Below w.heap.size w w' :=
        fun cls one kk i0 i1 aa room F R hg hcf hF => do_good w alg op key iv aad b pk ck pv cv pa ca hP pb cb hb hcb hlb hck hrm T cls one kk i0 i1 aa room F hg hcf R (fun W hB => (hF W hB).mono (fun e W' h => ⟨h.1.mono hB.size, h.2⟩))
      rcases h6 with rfl | rfl | rfl | rfl | rfl | rfl
      · rw [if_pos rfl]
        exact big 1 true _ 0 0 0 _ _ _ (fun _ _ _ => rfl) calld1 (fun W hB => k1_any W (T.below hB T.1) op key iv aad b pk ck pv cv pa ca pb cb (hb.below hB) hlb)
      · rw [if_neg (by decide), if_pos rfl]
        exact big 1 true _ 0 0 0 _ _ _ (fun _ _ _ => rfl) calld2 (fun W hB => k2_any W (T.below hB T.1) op key iv aad b pk ck pv cv pa ca (hP.rk.below hB) (by have := k2 rfl; omega) (by have := k2 rfl; omega) pb cb (hb.below hB) hlb)
      · rw [if_neg (by decide), if_neg (by decide)]
        exact big 2 false _ 16 16 0 _ _ _ (fun _ _ _ => rfl) calld4 (fun W hB => k4_any W op key iv aad b pk ck pv cv pa ca (hP.below hB) (k3 (.inl rfl)) (v3 (.inl rfl)) pb cb (hb.below hB) hcb hlb)
      · rw [if_neg (by decide), if_neg (by decide)]
        exact big 3 false _ 16 16 0 _ _ _ (fun _ _ _ => rfl) calld5 (fun W hB => k5_any W op key iv aad b pk ck pv cv pa ca (hP.below hB) (k3 (.inr (.inl rfl))) (v3 (.inr rfl)) pb cb (hb.below hB) hcb hlb)
      · rw [if_neg (by decide), if_neg (by decide)]
        exact big 4 false _ 1 64 1000 _ _ _ (fun _ _ _ => rfl) calld6 (fun W hB => k6_any W op key iv aad b pk ck pv cv pa ca (hP.below hB) (k3 (.inr (.inr rfl))) (by have := v5 rfl; omega) (by have := v5 rfl; omega) (fun ho => by subst ho; unfold roomF at hrm; simp at hrm; split at hrm <;> simp_all) pb cb (hb.below hB) hcb hlb)
      · rw [if_neg (by decide), if_neg (by decide)]
        exact big 5 false _ 12 12 1000 _ _ _ (fun _ _ _ => rfl) calld7 (fun W hB => k7_any W op key iv aad b pk ck pv cv pa ca (hP.below hB) (k7 rfl).1 (k7 rfl).2 pb cb (hb.below hB) hcb hlb (fun ho => by subst ho; unfold roomF at hrm; simp at hrm; split at hrm <;> simp_all))
    · rw [if_pos hrm]
      exact do_badr w alg op key iv aad b pk ck pv cv pa ca pb cb hlb _ hck rfl hrm
  · rw [if_pos hck]
    exact do_badc w alg op key iv aad b pk ck pv cv pa ca pb cb _ rfl hck
end Go.Proofs.YtnmmnlffobnbfaaGreatDoor
