/- Da (joined by merge4.py) -/
import Derived.Test.YtnmmnlffobnbfaaGreatDoorMB
import Derived.Test.YtnmmnlffobnbfaaGreatDoorME
import Derived.Test.YtnmmnlffobnbfaaGreatDoorMI
import Derived.Test.YtnmmnlffobnbfaaGreatDoorML
import Derived.Test.YtnmmnlffobnbfaaGreatDoorMM
import Derived.Test.YtnmmnlffobnbfaaGreatDoorMN
import Derived.Test.YtnmmnlffobnbfaaGreatDoorMT
import Derived.Test.YtnmmnlffobnbfaaGreatDoorMD
/- algo: what each kind does -/
namespace Go.Proofs.YtnmmnlffobnbfaaGreatDoor
open Go.RowKit

/-- What a kind hands back: an error's number and bytes. -/
def DoAns (base : Nat) (alg : Int) (op : Bool) (R : Nat × List UInt8) (e : Ending) (w' : World) : Prop :=
  ∃ v, e = .returned (.tuple #[v, .int .i64 (R.1 : Nat)]) ∧ (∃ pa c, v = .slice pa R.2.length c ∧ (¬ (alg = 4 ∧ op = true) → R.2.length ≤ c) ∧ RowAt w' pa R.2) ∧ (5 ≤ alg → R.1 = 0 → OwnR base w' v R.2)
theorem DoAns.own {base : Nat} {alg : Int} {op : Bool} {w' : World} {v : Value} {l : List UInt8} (h : OwnR base w' v l) : DoAns base alg op (0, l) (.returned (.tuple #[v, .int .i64 0])) w' := by
  obtain ⟨pa, c, rfl, hc, hr⟩ := h.row
  exact ⟨_, rfl, ⟨pa, c, rfl, fun _ => hc, hr⟩, fun _ _ => h⟩
theorem DoAns.err {base : Nat} {alg : Int} {op : Bool} {w' : World} {n : Nat} (h : n ≠ 0) : DoAns base alg op (n, []) (.returned (.tuple #[.slice none 0 0, .int .i64 (n : Nat)])) w' :=
  ⟨_, rfl, ⟨none, 0, rfl, fun _ => Nat.le_refl _, RowAt.nilW _ _⟩, fun _ h2 => absurd h2 h⟩
theorem DoAns.mono {base base' : Nat} {alg : Int} {op : Bool} {R : Nat × List UInt8} {e : Ending} {w' : World} (h : DoAns base alg op R e w') (hb : base' ≤ base) : DoAns base' alg op R e w' := by
  obtain ⟨v, h1, h2, h3⟩ := h
  exact ⟨v, h1, h2, fun a b => (h3 a b).mono hb⟩
def rkD (key : List UInt8) : List UInt8 := rkOf (key.length / 4) key
/-- What a kind does with bytes, its params being good. -/
def doF (alg : Int) (op : Bool) (key iv aad b : List UInt8) : Nat × List UInt8 :=
  if alg = 3 then (0, xk (enc (rkD key)) iv 0 b)
  else if alg = 4 then (if op then (match openF (dec (rkD key)) iv b with | some l => (0, l) | none => (16, [])) else (0, sealF (enc (rkD key)) iv (b ++ padF b.length) (b.length / 16 + 1)))
  else if alg = 5 then (if op then (match openG (enc (rkD key)) (firstF (enc (rkD key)) iv) aad b with | some l => (0, l) | none => (7, [])) else (0, sealG (enc (rkD key)) (firstF (enc (rkD key)) iv) aad b))
  else if op then (match openC key iv aad b with | some l => (0, l) | none => (7, [])) else (0, sealC key iv aad b)
/-- Params in memory. -/
structure ParAt (w : World) (op : Bool) (key iv aad : List UInt8) (pk : Option Addr) (ck : Nat) (pv : Option Addr) (cv : Nat) (pa : Option Addr) (ca : Nat) : Prop where
  rk : RowAt w pk key
  rv : RowAt w pv iv
  ra : RowAt w pa aad
  ck : key.length ≤ ck
  cv : iv.length ≤ cv
  ca : aad.length ≤ ca
  la : aad.length < 1000000
theorem ParAt.below {w w' : World} {op : Bool} {key iv aad : List UInt8} {pk : Option Addr} {ck : Nat} {pv : Option Addr} {cv : Nat} {pa : Option Addr} {ca : Nat} (h : ParAt w op key iv aad pk ck pv cv pa ca) (hB : Below w.heap.size w w') : ParAt w' op key iv aad pk ck pv cv pa ca :=
  ⟨h.rk.below hB, h.rv.below hB, h.ra.below hB, h.ck, h.cv, h.ca, h.la⟩
abbrev parD (alg : Int) (op : Bool) (key iv aad : List UInt8) (pk : Option Addr) (ck : Nat) (pv : Option Addr) (cv : Nat) (pa : Option Addr) (ca : Nat) : List Value := parC alg op pk key.length ck pv iv.length cv pa aad.length ca
theorem arr16a (b o n c : Nat) (hn : 16 ≤ n) (W : World) : (Instr.arrayAt tA16 (.slice (some ⟨b, o, none⟩) n c)).run Tryz.prog W = .ok (.pointer (some ⟨b, o, none⟩)) W := run_arrayAt W tA16 5 16 (some ⟨b, o, none⟩) n c under54 hn

set_option maxRecDepth 100000 in
set_option maxHeartbeats 4000000 in
theorem keyed_any (w : World) (alg : Int) (op : Bool) (key iv aad : List UInt8) (pk : Option Addr) (ck : Nat) (pv : Option Addr) (cv : Nat) (pa : Option Addr) (ca : Nat) (hP : ParAt w op key iv aad pk ck pv cv pa ca) (hkl : key.length = 16 ∨ key.length = 32)
    (F : Nat) (caps : Array Value) (R : Value → Value → World → Prop) (hcf : ∀ args w, (callFunc F args).run Tryz.prog w = .ok (.enter F args) w)
    (hF : ∀ W kb, KeysAt W kb (rkD key) → Below w.heap.size w W → Calls Tryz.prog F (#[.pointer (some ⟨kb, 0, none⟩)] ++ caps) W fun e W' => ∃ a b, e = .returned (.tuple #[a, b]) ∧ R a b W') :
    Calls Tryz.prog 81 #[.agg (parD alg op key iv aad pk ck pv cv pa ca).toArray, .func (.func F) #[] caps] w fun e w' => ∃ a b, e = .returned (.tuple #[a, b]) ∧ R a b w' := by
  have hb := Blk.new w (parD alg op key iv aad pk ck pv cv pa ca) tPar
  have hB : Below w.heap.size w (w.alloc (.cells (parD alg op key iv aad pk ck pv cv pa ca).toArray tPar)) := (Below.refl _ _).alloc (Nat.le_refl _) _
  have hk1 := hP.rk.below hB
  obtain ⟨kb, ko, rfl, _, _⟩ := hP.rk 0 (by omega)
  obtain ⟨w1, hw1⟩ : ∃ w1, w.alloc (.cells (parD alg op key iv aad (some ⟨kb, ko, none⟩) ck pv cv pa ca).toArray tPar) = w1 := ⟨_, rfl⟩
  rw [hw1] at hb hB hk1
  have c2 : w1.cell? ⟨w.heap.size, 2, none⟩ = some (.slice (some ⟨kb, ko, none⟩) key.length ck) := hb.cell 2
  have HW1 := hid hw1
  have HE := hid (expand_any w1 kb ko key.length ck (key.length / 4) key hk1 rfl (by omega) (by omega) hP.ck)
  have HF := hid hF
  clear hF hw1 hP hkl
  go_enter Tryz.func81, Tryz.ntmps81
  go_upto_region 1 with fail
  change Code.wp _ _ _ _ (w.alloc (.cells (parD alg op key iv aad (some ⟨kb, ko, none⟩) ck pv cv pa ca).toArray tPar))
  rw [HW1.out]
  go_wp2_with fail
  refine HE.out.mono ?_
  rintro e w2 ⟨kb2, rfl, hK, hB2, _⟩
  have HK := hid hK
  have hB3 := hB.trans (hB2.mono hB.size)
  clear HE hK c2
  go_wp2_with fail
  refine (HF.out _ _ HK.out hB3).mono ?_
  rintro e w3 ⟨a, b, rfl, hR⟩
  go_wp2_with fail
  go_ret2
  exact ⟨a, b, rfl, hR⟩

set_option maxRecDepth 100000 in
set_option maxHeartbeats 4000000 in
theorem one_any (w : World) (R : List UInt8) (_ : R.length = 32) :
    Calls Tryz.prog 76 #[.agg (bys R).toArray] w fun e w' => e = .returned (.tuple #[.slice (some ⟨w.heap.size, 0, none⟩) 32 32, .int .i64 0]) ∧ Blk w' w.heap.size (bys R) tA32 ∧ Below w.heap.size w w' := by
  have hb := Blk.new w (bys R) tA32
  have hB : Below w.heap.size w (w.alloc (.cells (bys R).toArray tA32)) := (Below.refl _ _).alloc (Nat.le_refl _) _
  obtain ⟨w1, hw1⟩ : ∃ w1, w.alloc (.cells (bys R).toArray tA32) = w1 := ⟨_, rfl⟩
  rw [hw1] at hb hB
  have HW1 := hid hw1
  clear hw1
  go_enter Tryz.func76, Tryz.ntmps76
  go_upto_region 1 with fail
  change Code.wp _ _ _ _ (w.alloc (.cells (bys R).toArray tA32))
  rw [HW1.out]
  go_wp2_with fail
  go_ret2
  exact ⟨rfl, hb, hB⟩
theorem callk41 (args : Array Value) (w : World) : (callFunc 82 args).run Tryz.prog w = .ok (.enter 82 args) w := by kernel_rfl
theorem callk51 (args : Array Value) (w : World) : (callFunc 86 args).run Tryz.prog w = .ok (.enter 86 args) w := by kernel_rfl
theorem callk61 (args : Array Value) (w : World) : (callFunc 91 args).run Tryz.prog w = .ok (.enter 91 args) w := by kernel_rfl

/-- A kind's closure over round keys. -/
structure CapAt (W : World) (p q : Nat) (alg : Int) (op : Bool) (key iv aad b : List UInt8) (pk : Option Addr) (ck : Nat) (pv : Option Addr) (cv : Nat) (pa : Option Addr) (ca : Nat) (pb : Option Addr) (cb : Nat) : Prop where
  p : Blk W p (parD alg op key iv aad pk ck pv cv pa ca) tPar
  q : Blk W q [.slice pb b.length cb] tBytes
  par : ParAt W op key iv aad pk ck pv cv pa ca
  rb : RowAt W pb b
  cb : b.length ≤ cb
  lb : b.length < 1000000
theorem CapAt.below {W W' : World} {p q : Nat} {alg : Int} {op : Bool} {key iv aad b : List UInt8} {pk : Option Addr} {ck : Nat} {pv : Option Addr} {cv : Nat} {pa : Option Addr} {ca : Nat} {pb : Option Addr} {cb : Nat} (h : CapAt W p q alg op key iv aad b pk ck pv cv pa ca pb cb) (hB : Below W.heap.size W W') : CapAt W' p q alg op key iv aad b pk ck pv cv pa ca pb cb :=
  ⟨h.p.below hB h.p.lt, h.q.below hB h.q.lt, h.par.below hB, h.rb.below hB, h.cb, h.lb⟩

set_option maxRecDepth 100000 in
set_option maxHeartbeats 4000000 in
theorem k41_any (W : World) (p q : Nat) (op : Bool) (key iv aad b : List UInt8) (pk : Option Addr) (ck : Nat) (pv : Option Addr) (cv : Nat) (pa : Option Addr) (ca : Nat) (pb : Option Addr) (cb : Nat) (h : CapAt W p q 3 op key iv aad b pk ck pv cv pa ca pb cb) (hiv : iv.length = 16) (kb : Nat) (hkl : key.length = 16 ∨ key.length = 32) (hK : KeysAt W kb (rkD key)) :
    Calls Tryz.prog 82 #[.pointer (some ⟨kb, 0, none⟩), .pointer (some ⟨p, 0, none⟩), .pointer (some ⟨q, 0, none⟩)] W fun e W' => ∃ v, e = .returned (.tuple #[v, .int .i64 0]) ∧ OwnR W.heap.size W' v (xk (enc (rkD key)) iv 0 b) ∧ Below W.heap.size W W' := by
  obtain ⟨vb, vo, rfl, _, _⟩ := h.par.rv 0 (by omega)
  have hsz : (Tryz.prog.info? 100).map (·.size) = some (bys iv).length := by rw [size54, bys_length, hiv]
  have ha := arr16a vb vo iv.length cv (by omega)
  have hrk := rk_len (key.length / 4) key (by omega) (by omega)
  have hV : KeyV W (some ⟨kb, 0, none⟩) (enc (rkD key)) := .inr ⟨kb, rkD key, rfl, hK, rfl, hrk.1⟩
  have HH := hid h
  have HV := hid hV
  have Hiv := hid hiv
  clear h hV hK hkl hrk hiv
  go_enter Tryz.func82, Tryz.ntmps82
  go_upto_region 1 with fail
  try simp only [Act.put]
  refine tkR (fun w' => Below W.heap.size W w') [6] (by kernel_rfl) (fun c a d v w h => by cases d <;> exact h) ((Below.refl _ _).drew) (fun hPF hHeld => ?_)
  refine tkB 0 (.some 6) _ _ rfl rfl (by kernel_rfl) (by kernel_rfl) (by kernel_rfl) (by kernel_rfl) hPF rfl (fun w' => by (go_simp; try with_reducible rfl)) hHeld (fun hHeld => ?_)
  simp only [Act.put, List.setIfInBounds_toArray, List.set_cons_zero, List.set_cons_succ]
  refine tkB 1 (.some 7) _ _ rfl rfl (by kernel_rfl) (by kernel_rfl) (by kernel_rfl) (by kernel_rfl) hPF rfl (fun w' => by (go_simp; try with_reducible rfl)) hHeld (fun hHeld => ?_)
  simp only [Act.put, List.setIfInBounds_toArray, List.set_cons_zero, List.set_cons_succ]
  refine tkA 2 (.some 8) _ _ rfl rfl (by kernel_rfl) (by kernel_rfl) (by kernel_rfl) (by kernel_rfl) (by kernel_rfl) hPF rfl (fun w' hw' => by (have h1 := (HH.out.below hw').p.cell 3; go_simp; try with_reducible rfl)) hHeld (fun hHeld => ?_)
  simp only [Act.put, List.setIfInBounds_toArray, List.set_cons_zero, List.set_cons_succ]
  refine tkA 3 (.some 9) _ (.pointer (some ⟨vb, vo, none⟩)) rfl rfl (by kernel_rfl) (by kernel_rfl) (by kernel_rfl) (by kernel_rfl) (by kernel_rfl) hPF rfl (fun w' hw' => by (go_simp)) hHeld (fun hHeld => ?_)
  simp only [Act.put, List.setIfInBounds_toArray, List.set_cons_zero, List.set_cons_succ]
  refine tkL 4 (.some 10) _ rfl rfl 100 (.tmp 9) rfl vb vo (bys iv) _ (by kernel_rfl) (by kernel_rfl) (by kernel_rfl) (by kernel_rfl) (by kernel_rfl) hPF rfl rfl (fun w' hw' => (HH.out.below hw').par.rv.range) under54 rfl hsz hHeld (fun hHeld => ?_)
  simp only [Act.put, List.setIfInBounds_toArray, List.set_cons_zero, List.set_cons_succ]
  refine tkA 5 (.some 11) _ _ rfl rfl (by kernel_rfl) (by kernel_rfl) (by kernel_rfl) (by kernel_rfl) (by kernel_rfl) hPF rfl (fun w' hw' => by (have h1 := (HH.out.below hw').q.cell 0; go_simp; try with_reducible rfl)) hHeld (fun hHeld => ?_)
  simp only [Act.put, List.setIfInBounds_toArray, List.set_cons_zero, List.set_cons_succ]
  refine tkW (rs := [6]) (by kernel_rfl) (by simp) (AllK.close (o := _) rfl (by kernel_rfl) (fun KC hKC => ?_) AllK.nil)
  go_simp
  have hS := hHeld (by kernel_rfl)
  refine (crypt_any _ _ _ iv (HV.out.below hS) Hiv.out pb b.length cb b (HH.out.below hS).rb rfl HH.out.cb (by have := HH.out.lb; omega)).mono ?_
  rintro e w2 ⟨v, rfl, hO, hB2⟩
  refine hKC.out _ _ (fun hHeld => ?_)
  clear hKC KC
  try simp only [Act.put, List.setIfInBounds_toArray, List.set_cons_zero, List.set_cons_succ]
  refine tkB 7 (.some 4) _ _ rfl rfl (by kernel_rfl) (by kernel_rfl) (by kernel_rfl) (by kernel_rfl) hPF rfl (fun w' => by (go_simp; try with_reducible rfl)) hHeld (fun hHeld => ?_)
  simp only [Act.put, List.setIfInBounds_toArray, List.set_cons_zero, List.set_cons_succ]
  refine tkB 8 (.some 5) _ _ rfl rfl (by kernel_rfl) (by kernel_rfl) (by kernel_rfl) (by kernel_rfl) hPF rfl (fun w' => by (go_simp; try with_reducible rfl)) hHeld (fun hHeld => ?_)
  simp only [Act.put, List.setIfInBounds_toArray, List.set_cons_zero, List.set_cons_succ]
  refine tkD (by kernel_rfl) ?_ _
  go_wp2_with fail
  go_ret2
  exact ⟨v, rfl, hO.mono (by have := hS.size; exact this), hS.trans (hB2.mono hS.size)⟩

set_option maxRecDepth 100000 in
set_option maxHeartbeats 4000000 in
theorem k51_seal (W : World) (p q : Nat) (key iv aad b : List UInt8) (pk : Option Addr) (ck : Nat) (pv : Option Addr) (cv : Nat) (pa : Option Addr) (ca : Nat) (pb : Option Addr) (cb : Nat) (h : CapAt W p q 4 false key iv aad b pk ck pv cv pa ca pb cb) (hiv : iv.length = 16) (kb : Nat) (hkl : key.length = 16 ∨ key.length = 32) (hK : KeysAt W kb (rkD key)) :
    Calls Tryz.prog 86 #[.pointer (some ⟨kb, 0, none⟩), .pointer (some ⟨p, 0, none⟩), .pointer (some ⟨q, 0, none⟩)] W fun e W' => ∃ v, e = .returned (.tuple #[v, .int .i64 0]) ∧ OwnR W.heap.size W' v (sealF (enc (rkD key)) iv (b ++ padF b.length) (b.length / 16 + 1)) ∧ Below W.heap.size W W' := by
  obtain ⟨vb, vo, rfl, _, _⟩ := h.par.rv 0 (by omega)
  have hsz : (Tryz.prog.info? 100).map (·.size) = some (bys iv).length := by rw [size54, bys_length, hiv]
  have ha := arr16a vb vo iv.length cv (by omega)
  have hrk := rk_len (key.length / 4) key (by omega) (by omega)
  have hV : KeyV W (some ⟨kb, 0, none⟩) (enc (rkD key)) := .inr ⟨kb, rkD key, rfl, hK, rfl, hrk.1⟩
  have c1 : W.cell? ⟨p, 1, none⟩ = some (.bool false) := h.p.cell 1
  have HH := hid h
  have HV := hid hV
  have Hiv := hid hiv
  clear h hV hK hkl hrk hiv
  go_enter Tryz.func86, Tryz.ntmps86
  go_upto_region 3 with fail
  clear c1
  try simp only [Act.put]
  refine tkR (fun w' => Below W.heap.size W w') [6] (by kernel_rfl) (fun c a d v w h => by cases d <;> exact h) ((Below.refl _ _).drew) (fun hPF hHeld => ?_)
  refine tkB 0 (.some 17) _ _ rfl rfl (by kernel_rfl) (by kernel_rfl) (by kernel_rfl) (by kernel_rfl) hPF rfl (fun w' => by (go_simp; try with_reducible rfl)) hHeld (fun hHeld => ?_)
  simp only [Act.put, List.setIfInBounds_toArray, List.set_cons_zero, List.set_cons_succ]
  refine tkB 1 (.some 18) _ _ rfl rfl (by kernel_rfl) (by kernel_rfl) (by kernel_rfl) (by kernel_rfl) hPF rfl (fun w' => by (go_simp; try with_reducible rfl)) hHeld (fun hHeld => ?_)
  simp only [Act.put, List.setIfInBounds_toArray, List.set_cons_zero, List.set_cons_succ]
  refine tkA 2 (.some 19) _ _ rfl rfl (by kernel_rfl) (by kernel_rfl) (by kernel_rfl) (by kernel_rfl) (by kernel_rfl) hPF rfl (fun w' hw' => by (have h1 := (HH.out.below hw').p.cell 3; go_simp; try with_reducible rfl)) hHeld (fun hHeld => ?_)
  simp only [Act.put, List.setIfInBounds_toArray, List.set_cons_zero, List.set_cons_succ]
  refine tkA 3 (.some 20) _ (.pointer (some ⟨vb, vo, none⟩)) rfl rfl (by kernel_rfl) (by kernel_rfl) (by kernel_rfl) (by kernel_rfl) (by kernel_rfl) hPF rfl (fun w' hw' => by (go_simp)) hHeld (fun hHeld => ?_)
  simp only [Act.put, List.setIfInBounds_toArray, List.set_cons_zero, List.set_cons_succ]
  refine tkL 4 (.some 21) _ rfl rfl 100 (.tmp 20) rfl vb vo (bys iv) _ (by kernel_rfl) (by kernel_rfl) (by kernel_rfl) (by kernel_rfl) (by kernel_rfl) hPF rfl rfl (fun w' hw' => (HH.out.below hw').par.rv.range) under54 rfl hsz hHeld (fun hHeld => ?_)
  simp only [Act.put, List.setIfInBounds_toArray, List.set_cons_zero, List.set_cons_succ]
  refine tkA 5 (.some 22) _ _ rfl rfl (by kernel_rfl) (by kernel_rfl) (by kernel_rfl) (by kernel_rfl) (by kernel_rfl) hPF rfl (fun w' hw' => by (have h1 := (HH.out.below hw').q.cell 0; go_simp; try with_reducible rfl)) hHeld (fun hHeld => ?_)
  simp only [Act.put, List.setIfInBounds_toArray, List.set_cons_zero, List.set_cons_succ]
  refine tkW (rs := [6]) (by kernel_rfl) (by simp) (AllK.close (o := _) rfl (by kernel_rfl) (fun KC hKC => ?_) AllK.nil)
  go_simp
  have hS := hHeld (by kernel_rfl)
  refine (seal_any _ _ _ iv (HV.out.below hS) Hiv.out pb b.length cb b (HH.out.below hS).rb rfl HH.out.cb HH.out.lb).mono ?_
  rintro e w2 ⟨v, rfl, hO, hB2⟩
  refine hKC.out _ _ (fun hHeld => ?_)
  clear hKC KC
  try simp only [Act.put, List.setIfInBounds_toArray, List.set_cons_zero, List.set_cons_succ]
  refine tkB 7 (.some 4) _ _ rfl rfl (by kernel_rfl) (by kernel_rfl) (by kernel_rfl) (by kernel_rfl) hPF rfl (fun w' => by (go_simp; try with_reducible rfl)) hHeld (fun hHeld => ?_)
  simp only [Act.put, List.setIfInBounds_toArray, List.set_cons_zero, List.set_cons_succ]
  refine tkB 8 (.some 5) _ _ rfl rfl (by kernel_rfl) (by kernel_rfl) (by kernel_rfl) (by kernel_rfl) hPF rfl (fun w' => by (go_simp; try with_reducible rfl)) hHeld (fun hHeld => ?_)
  simp only [Act.put, List.setIfInBounds_toArray, List.set_cons_zero, List.set_cons_succ]
  refine tkD (by kernel_rfl) ?_ _
  go_wp2_with fail
  go_ret2
  exact ⟨v, rfl, hO.mono (by have := hS.size; exact this), hS.trans (hB2.mono hS.size)⟩
set_option maxRecDepth 100000 in
set_option maxHeartbeats 4000000 in
theorem k51_open (W : World) (p q : Nat) (key iv aad b : List UInt8) (pk : Option Addr) (ck : Nat) (pv : Option Addr) (cv : Nat) (pa : Option Addr) (ca : Nat) (pb : Option Addr) (cb : Nat) (h : CapAt W p q 4 true key iv aad b pk ck pv cv pa ca pb cb) (hiv : iv.length = 16) (kb : Nat) (hkl : key.length = 16 ∨ key.length = 32) (hK : KeysAt W kb (rkD key)) :
    Calls Tryz.prog 86 #[.pointer (some ⟨kb, 0, none⟩), .pointer (some ⟨p, 0, none⟩), .pointer (some ⟨q, 0, none⟩)] W fun e W' => (∃ x y, e = .returned (.tuple #[x, y]) ∧ OpenAns W' (.tuple #[x, y]) (openF (dec (rkD key)) iv b)) ∧ Below W.heap.size W W' := by
  obtain ⟨vb, vo, rfl, _, _⟩ := h.par.rv 0 (by omega)
  have hsz : (Tryz.prog.info? 100).map (·.size) = some (bys iv).length := by rw [size54, bys_length, hiv]
  have ha := arr16a vb vo iv.length cv (by omega)
  have hrk := hid (rk_len (key.length / 4) key (by omega) (by omega))
  have c1 : W.cell? ⟨p, 1, none⟩ = some (.bool true) := h.p.cell 1
  have HH := hid h
  have HK := hid hK
  have Hiv := hid hiv
  clear h hK hkl hiv
  go_enter Tryz.func86, Tryz.ntmps86
  go_upto_region 2 with fail
  clear c1
  try simp only [Act.put]
  refine tkR (fun w' => Below W.heap.size W w') [6] (by kernel_rfl) (fun c a d v w h => by cases d <;> exact h) ((Below.refl _ _).drew) (fun hPF hHeld => ?_)
  refine tkB 0 (.some 8) _ _ rfl rfl (by kernel_rfl) (by kernel_rfl) (by kernel_rfl) (by kernel_rfl) hPF rfl (fun w' => by (go_simp; try with_reducible rfl)) hHeld (fun hHeld => ?_)
  simp only [Act.put, List.setIfInBounds_toArray, List.set_cons_zero, List.set_cons_succ]
  refine tkB 1 (.some 9) _ _ rfl rfl (by kernel_rfl) (by kernel_rfl) (by kernel_rfl) (by kernel_rfl) hPF rfl (fun w' => by (go_simp; try with_reducible rfl)) hHeld (fun hHeld => ?_)
  simp only [Act.put, List.setIfInBounds_toArray, List.set_cons_zero, List.set_cons_succ]
  refine tkA 2 (.some 10) _ _ rfl rfl (by kernel_rfl) (by kernel_rfl) (by kernel_rfl) (by kernel_rfl) (by kernel_rfl) hPF rfl (fun w' hw' => by (have h1 := (HH.out.below hw').p.cell 3; go_simp; try with_reducible rfl)) hHeld (fun hHeld => ?_)
  simp only [Act.put, List.setIfInBounds_toArray, List.set_cons_zero, List.set_cons_succ]
  refine tkA 3 (.some 11) _ (.pointer (some ⟨vb, vo, none⟩)) rfl rfl (by kernel_rfl) (by kernel_rfl) (by kernel_rfl) (by kernel_rfl) (by kernel_rfl) hPF rfl (fun w' hw' => by (go_simp)) hHeld (fun hHeld => ?_)
  simp only [Act.put, List.setIfInBounds_toArray, List.set_cons_zero, List.set_cons_succ]
  refine tkL 4 (.some 12) _ rfl rfl 100 (.tmp 11) rfl vb vo (bys iv) _ (by kernel_rfl) (by kernel_rfl) (by kernel_rfl) (by kernel_rfl) (by kernel_rfl) hPF rfl rfl (fun w' hw' => (HH.out.below hw').par.rv.range) under54 rfl hsz hHeld (fun hHeld => ?_)
  simp only [Act.put, List.setIfInBounds_toArray, List.set_cons_zero, List.set_cons_succ]
  refine tkA 5 (.some 13) _ _ rfl rfl (by kernel_rfl) (by kernel_rfl) (by kernel_rfl) (by kernel_rfl) (by kernel_rfl) hPF rfl (fun w' hw' => by (have h1 := (HH.out.below hw').q.cell 0; go_simp; try with_reducible rfl)) hHeld (fun hHeld => ?_)
  simp only [Act.put, List.setIfInBounds_toArray, List.set_cons_zero, List.set_cons_succ]
  refine tkW (rs := [6]) (by kernel_rfl) (by simp) (AllK.close (o := _) rfl (by kernel_rfl) (fun KC hKC => ?_) AllK.nil)
  go_simp
  have hS := hHeld (by kernel_rfl)
  refine (open_any _ kb (rkD key) iv (HK.out.below hS) hrk.out.1 Hiv.out pb b.length cb b (HH.out.below hS).rb rfl HH.out.cb HH.out.lb).mono ?_
  rintro e w2 ⟨v, rfl, hB2, hO⟩
  obtain ⟨x, y, rfl⟩ : ∃ x y, v = .tuple #[x, y] := by
    cases ho : openF (dec (rkD key)) iv b with
    | none => rw [ho] at hO; exact ⟨_, _, hO⟩
    | some l => rw [ho] at hO; obtain ⟨_, _, h, _⟩ := hO; exact ⟨_, _, h⟩
  refine hKC.out _ _ (fun hHeld => ?_)
  clear hKC KC
  try simp only [Act.put, List.setIfInBounds_toArray, List.set_cons_zero, List.set_cons_succ]
  refine tkB 7 (.some 15) _ _ rfl rfl (by kernel_rfl) (by kernel_rfl) (by kernel_rfl) (by kernel_rfl) hPF rfl (fun w' => by (go_simp; try with_reducible rfl)) hHeld (fun hHeld => ?_)
  simp only [Act.put, List.setIfInBounds_toArray, List.set_cons_zero, List.set_cons_succ]
  refine tkB 8 (.some 16) _ _ rfl rfl (by kernel_rfl) (by kernel_rfl) (by kernel_rfl) (by kernel_rfl) hPF rfl (fun w' => by (go_simp; try with_reducible rfl)) hHeld (fun hHeld => ?_)
  simp only [Act.put, List.setIfInBounds_toArray, List.set_cons_zero, List.set_cons_succ]
  refine tkB 9 (.some 4) _ _ rfl rfl (by kernel_rfl) (by kernel_rfl) (by kernel_rfl) (by kernel_rfl) hPF rfl (fun w' => by (go_simp; try with_reducible rfl)) hHeld (fun hHeld => ?_)
  simp only [Act.put, List.setIfInBounds_toArray, List.set_cons_zero, List.set_cons_succ]
  refine tkB 10 (.some 5) _ _ rfl rfl (by kernel_rfl) (by kernel_rfl) (by kernel_rfl) (by kernel_rfl) hPF rfl (fun w' => by (go_simp; try with_reducible rfl)) hHeld (fun hHeld => ?_)
  simp only [Act.put, List.setIfInBounds_toArray, List.set_cons_zero, List.set_cons_succ]
  refine tkD (by kernel_rfl) ?_ _
  go_wp2_with fail
  go_ret2
  exact ⟨⟨x, y, rfl, hO⟩, hS.trans (hB2.mono hS.size)⟩
set_option maxRecDepth 100000 in
set_option maxHeartbeats 4000000 in
theorem k61_any (W : World) (p q : Nat) (op : Bool) (key iv aad b : List UInt8) (pk : Option Addr) (ck : Nat) (pv : Option Addr) (cv : Nat) (pa : Option Addr) (ca : Nat) (pb : Option Addr) (cb : Nat) (h : CapAt W p q 5 op key iv aad b pk ck pv cv pa ca pb cb) (hiv : iv.length < 100000) (hi0 : iv.length ≠ 0) (hb16 : op = true → 16 ≤ b.length) (kb : Nat) (hkl : key.length = 16 ∨ key.length = 32) (hK : KeysAt W kb (rkD key)) :
    Calls Tryz.prog 91 #[.pointer (some ⟨kb, 0, none⟩), .pointer (some ⟨p, 0, none⟩), .pointer (some ⟨q, 0, none⟩)] W fun e W' => (∃ x y, e = .returned (.tuple #[x, y]) ∧ DoAns W.heap.size 5 op (doF 5 op key iv aad b) (.returned (.tuple #[x, y])) W') ∧ Below W.heap.size W W' := by
  have hrk := rk_len (key.length / 4) key (by omega) (by omega)
  have c1 : W.cell? ⟨p, 1, none⟩ = some (.bool op) := h.p.cell 1
  have c3 : W.cell? ⟨p, 3, none⟩ = some (.slice pv iv.length cv) := h.p.cell 3
  have c4 : W.cell? ⟨p, 4, none⟩ = some (.slice pa aad.length ca) := h.p.cell 4
  have c0 : W.cell? ⟨q, 0, none⟩ = some (.slice pb b.length cb) := h.q.cell 0
  cases op
  · have HS := hid (gseal_any W kb (rkD key) hK hrk.1 pv iv.length cv iv h.par.rv rfl hiv hi0 pa aad.length ca aad h.par.ra rfl h.par.la pb b.length cb b h.rb rfl h.lb)
    clear h hrk hK hkl hiv hi0 hb16
    go_enter Tryz.func91, Tryz.ntmps91
    go_wp2_with fail
    refine HS.out.mono ?_
    rintro e w2 ⟨v, rfl, hO, hB2⟩
    go_wp2_with fail
    go_ret2
    exact ⟨⟨_, _, rfl, DoAns.own hO⟩, hB2⟩
  · have HS := hid (gopen_any W kb (rkD key) hK hrk.1 pv iv.length cv iv h.par.rv rfl hiv hi0 pa aad.length ca aad h.par.ra rfl h.par.la pb b.length cb b h.rb rfl h.lb h.cb)
    have h16 := hid (hb16 rfl)
    clear h hrk hK hkl hiv hi0 hb16
    go_enter Tryz.func91, Tryz.ntmps91
    go_wp2_with fail
    refine HS.out.mono ?_
    rintro e w2 ⟨v, er, rfl, hO, hB2⟩
    go_wp2_with fail
    go_ret2
    refine ⟨⟨_, _, rfl, ?_⟩, hB2⟩
    unfold OpenA at hO
    rw [if_neg (by have := h16.out; omega)] at hO
    show DoAns _ 5 true (match openG (enc (rkD key)) (firstF (enc (rkD key)) iv) aad b with | some l => (0, l) | none => (7, [])) _ _
    cases ho : openG (enc (rkD key)) (firstF (enc (rkD key)) iv) aad b with
    | none => rw [ho] at hO; obtain ⟨rfl, rfl⟩ := hO; exact DoAns.err (by decide)
    | some l => rw [ho] at hO; obtain ⟨rfl, hO⟩ := hO; exact DoAns.own hO

set_option maxRecDepth 100000 in
set_option maxHeartbeats 4000000 in
/-- ChaCha20-Poly1305. -/
theorem k7_any (w : World) (op : Bool) (key iv aad b : List UInt8) (pk : Option Addr) (ck : Nat) (pv : Option Addr) (cv : Nat) (pa : Option Addr) (ca : Nat) (hP : ParAt w op key iv aad pk ck pv cv pa ca) (hkl : key.length = 32) (hiv : iv.length = 12) (pb : Option Addr) (cb : Nat) (hb : RowAt w pb b) (hcb : b.length ≤ cb) (hlb : b.length < 1000000) (hb16 : op = true → 16 ≤ b.length) :
    Calls Tryz.prog 94 #[.agg (parD 6 op key iv aad pk ck pv cv pa ca).toArray, .slice pb b.length cb] w fun e w' => DoAns w.heap.size 6 op (doF 6 op key iv aad b) e w' ∧ Below w.heap.size w w' := by
  have hbk := Blk.new w (parD 6 op key iv aad pk ck pv cv pa ca) tPar
  have hB : Below w.heap.size w (w.alloc (.cells (parD 6 op key iv aad pk ck pv cv pa ca).toArray tPar)) := (Below.refl _ _).alloc (Nat.le_refl _) _
  have hP1 := hP.below hB
  have hb1 := hb.below hB
  obtain ⟨w1, hw1⟩ : ∃ w1, w.alloc (.cells (parD 6 op key iv aad pk ck pv cv pa ca).toArray tPar) = w1 := ⟨_, rfl⟩
  rw [hw1] at hbk hB hP1 hb1
  have c1 : w1.cell? ⟨w.heap.size, 1, none⟩ = some (.bool op) := hbk.cell 1
  have c2 : w1.cell? ⟨w.heap.size, 2, none⟩ = some (.slice pk key.length ck) := hbk.cell 2
  have c3 : w1.cell? ⟨w.heap.size, 3, none⟩ = some (.slice pv iv.length cv) := hbk.cell 3
  have c4 : w1.cell? ⟨w.heap.size, 4, none⟩ = some (.slice pa aad.length ca) := hbk.cell 4
  have HW1 := hid hw1
  have HB := hid hB
  clear hw1
  cases op
  · have HS := hid (aseal_any w1 key iv hkl hiv pk pv ck cv hP1.rk hP1.rv pa aad.length ca aad hP1.ra rfl hP1.la pb b.length cb b hb1 rfl hlb)
    rw [← hkl, ← hiv] at HS
    clear hP hP1 hb hb1 hbk hB hkl hiv hb16
    go_enter Tryz.func94, Tryz.ntmps94
    go_upto_region 1 with fail
    change Code.wp _ _ _ _ (w.alloc (.cells (parD 6 false key iv aad pk ck pv cv pa ca).toArray tPar))
    rw [HW1.out]
    go_wp2_with fail
    refine HS.out.mono ?_
    rintro e w2 ⟨v, rfl, hO, hB2⟩
    go_wp2_with fail
    go_ret2
    exact ⟨DoAns.own (hO.mono HB.out.size), HB.out.trans (hB2.mono HB.out.size)⟩
  · have HS := hid (aopen_any w1 key iv hkl hiv pk pv ck cv hP1.rk hP1.rv pa aad.length ca aad hP1.ra rfl hP1.la pb b.length cb b hb1 rfl hlb hcb (hb16 rfl))
    rw [← hkl, ← hiv] at HS
    have h16 := hid (hb16 rfl)
    clear hP hP1 hb hb1 hbk hB hkl hiv hb16
    go_enter Tryz.func94, Tryz.ntmps94
    go_upto_region 1 with fail
    change Code.wp _ _ _ _ (w.alloc (.cells (parD 6 true key iv aad pk ck pv cv pa ca).toArray tPar))
    rw [HW1.out]
    go_wp2_with fail
    refine HS.out.mono ?_
    rintro e w2 ⟨v, er, rfl, hO, hB2⟩
    go_wp2_with fail
    go_ret2
    refine ⟨?_, HB.out.trans (hB2.mono HB.out.size)⟩
    unfold OpenA at hO
    rw [if_neg (by have := h16.out; omega)] at hO
    show DoAns _ 6 true (match openC key iv aad b with | some l => (0, l) | none => (7, [])) _ _
    cases ho : openC key iv aad b with
    | none => rw [ho] at hO; obtain ⟨rfl, rfl⟩ := hO; exact DoAns.err (by decide)
    | some l => rw [ho] at hO; obtain ⟨rfl, hO⟩ := hO; exact DoAns.own (hO.mono HB.out.size)

theorem sizePar : (Tryz.prog.info? tPar).map (·.size) = some 5 := by kernel_rfl
/-- Params and bytes, boxed. -/
theorem cap_new (w : World) (alg : Int) (op : Bool) (key iv aad b : List UInt8) (pk : Option Addr) (ck : Nat) (pv : Option Addr) (cv : Nat) (pa : Option Addr) (ca : Nat) (hP : ParAt w op key iv aad pk ck pv cv pa ca) (pb : Option Addr) (cb : Nat) (hb : RowAt w pb b) (hcb : b.length ≤ cb) (hlb : b.length < 1000000) :
    CapAt ((w.alloc (.cells (parD alg op key iv aad pk ck pv cv pa ca).toArray tPar)).alloc (.cells #[.slice pb b.length cb] tBytes)) w.heap.size (w.heap.size + 1) alg op key iv aad b pk ck pv cv pa ca pb cb ∧ Below w.heap.size w ((w.alloc (.cells (parD alg op key iv aad pk ck pv cv pa ca).toArray tPar)).alloc (.cells #[.slice pb b.length cb] tBytes)) := by
  have hB : Below w.heap.size w ((w.alloc (.cells (parD alg op key iv aad pk ck pv cv pa ca).toArray tPar)).alloc (.cells #[.slice pb b.length cb] tBytes)) := ((Below.refl _ _).alloc (Nat.le_refl _) _).alloc (by simp) _
  refine ⟨⟨(Blk.new w _ tPar).alloc _, ?_, hP.below hB, hb.below hB, hcb, hlb⟩, hB⟩
  have := Blk.new (w.alloc (.cells (parD alg op key iv aad pk ck pv cv pa ca).toArray tPar)) [.slice pb b.length cb] tBytes
  simp only [World.size_alloc] at this
  exact this
set_option maxRecDepth 100000 in
set_option maxHeartbeats 4000000 in
theorem k4_any (w : World) (op : Bool) (key iv aad b : List UInt8) (pk : Option Addr) (ck : Nat) (pv : Option Addr) (cv : Nat) (pa : Option Addr) (ca : Nat) (hP : ParAt w op key iv aad pk ck pv cv pa ca) (hkl : key.length = 16 ∨ key.length = 32) (hiv : iv.length = 16) (pb : Option Addr) (cb : Nat) (hb : RowAt w pb b) (hcb : b.length ≤ cb) (hlb : b.length < 1000000) :
    Calls Tryz.prog 80 #[.agg (parD 3 op key iv aad pk ck pv cv pa ca).toArray, .slice pb b.length cb] w fun e w' => DoAns w.heap.size 3 op (doF 3 op key iv aad b) e w' ∧ Below w.heap.size w w' := by
  obtain ⟨hC, hB⟩ := cap_new w 3 op key iv aad b pk ck pv cv pa ca hP pb cb hb hcb hlb
  obtain ⟨w1, hw1⟩ : ∃ w1, (w.alloc (.cells (parD 3 op key iv aad pk ck pv cv pa ca).toArray tPar)).alloc (.cells #[.slice pb b.length cb] tBytes) = w1 := ⟨_, rfl⟩
  rw [hw1] at hC hB
  have hwh := hid hC.p.whole
  have HH := hid (keyed_any w1 3 op key iv aad pk ck pv cv pa ca hC.par hkl 82 #[.pointer (some ⟨w.heap.size, 0, none⟩), .pointer (some ⟨w.heap.size + 1, 0, none⟩)] (fun x y W' => DoAns w.heap.size 3 op (doF 3 op key iv aad b) (.returned (.tuple #[x, y])) W' ∧ Below w.heap.size w W') callk41 (fun W kb hK hBW => (k41_any W w.heap.size (w.heap.size + 1) op key iv aad b pk ck pv cv pa ca pb cb (hC.below hBW) hiv kb hkl hK).mono (by
    rintro e W' ⟨v, rfl, hO, hB2⟩
    have hBB := hB.trans (hBW.mono hB.size)
    exact ⟨_, _, rfl, DoAns.own (hO.mono hBB.size), hBB.trans (hB2.mono hBB.size)⟩)))
  have HW1 := hid hw1
  clear hw1 hC hB hP hkl hiv hb hcb hlb
  go_enter Tryz.func80, Tryz.ntmps80
  go_upto_region 1 with fail
  change Code.wp _ _ _ _ ((w.alloc (.cells (parD 3 op key iv aad pk ck pv cv pa ca).toArray tPar)).alloc (.cells #[.slice pb b.length cb] tBytes))
  rw [HW1.out]
  go_wp2_with (refine wpList_load_mid rfl tPar (.tmp 2) rfl w.heap.size 0 rfl (parD 3 op key iv aad pk ck pv cv pa ca) _ hwh.out Tryz.underlying31 rfl sizePar ?_)
  refine HH.out.mono ?_
  rintro e w2 ⟨x, y, rfl, hD, hB2⟩
  go_wp2_with fail
  go_ret2
  exact ⟨hD, hB2⟩
set_option maxRecDepth 100000 in
set_option maxHeartbeats 4000000 in
theorem k5_any (w : World) (op : Bool) (key iv aad b : List UInt8) (pk : Option Addr) (ck : Nat) (pv : Option Addr) (cv : Nat) (pa : Option Addr) (ca : Nat) (hP : ParAt w op key iv aad pk ck pv cv pa ca) (hkl : key.length = 16 ∨ key.length = 32) (hiv : iv.length = 16) (pb : Option Addr) (cb : Nat) (hb : RowAt w pb b) (hcb : b.length ≤ cb) (hlb : b.length < 1000000) :
    Calls Tryz.prog 85 #[.agg (parD 4 op key iv aad pk ck pv cv pa ca).toArray, .slice pb b.length cb] w fun e w' => DoAns w.heap.size 4 op (doF 4 op key iv aad b) e w' ∧ Below w.heap.size w w' := by
  obtain ⟨hC, hB⟩ := cap_new w 4 op key iv aad b pk ck pv cv pa ca hP pb cb hb hcb hlb
  obtain ⟨w1, hw1⟩ : ∃ w1, (w.alloc (.cells (parD 4 op key iv aad pk ck pv cv pa ca).toArray tPar)).alloc (.cells #[.slice pb b.length cb] tBytes) = w1 := ⟨_, rfl⟩
  rw [hw1] at hC hB
  have hwh := hid hC.p.whole
  have HH := hid (keyed_any w1 4 op key iv aad pk ck pv cv pa ca hC.par hkl 86 #[.pointer (some ⟨w.heap.size, 0, none⟩), .pointer (some ⟨w.heap.size + 1, 0, none⟩)] (fun x y W' => DoAns w.heap.size 4 op (doF 4 op key iv aad b) (.returned (.tuple #[x, y])) W' ∧ Below w.heap.size w W') callk51 (fun W kb hK hBW => (by
    have hBB := hB.trans (hBW.mono hB.size)
    cases op
    · refine (k51_seal W w.heap.size (w.heap.size + 1) key iv aad b pk ck pv cv pa ca pb cb (hC.below hBW) hiv kb hkl hK).mono ?_
      rintro e W' ⟨v, rfl, hO, hB2⟩
      exact ⟨_, _, rfl, DoAns.own (hO.mono hBB.size), hBB.trans (hB2.mono hBB.size)⟩
    · refine (k51_open W w.heap.size (w.heap.size + 1) key iv aad b pk ck pv cv pa ca pb cb (hC.below hBW) hiv kb hkl hK).mono ?_
      rintro e W' ⟨⟨x, y, rfl, hO⟩, hB2⟩
      refine ⟨_, _, rfl, ?_, hBB.trans (hB2.mono hBB.size)⟩
      show DoAns _ 4 true (match openF (dec (rkD key)) iv b with | some l => (0, l) | none => (16, [])) _ _
      cases ho : openF (dec (rkD key)) iv b with
      | none =>
        rw [ho] at hO
        rw [show (Value.tuple #[x, y]) = .tuple #[.slice none 0 0, .int .i64 16] from hO]
        exact DoAns.err (by decide)
      | some l =>
        rw [ho] at hO
        obtain ⟨qa, qc, e1, hr⟩ := hO
        rw [e1]
        exact ⟨_, rfl, ⟨qa, qc, rfl, fun h => absurd ⟨rfl, rfl⟩ h, hr⟩, fun h => absurd h (by decide)⟩)))
  have HW1 := hid hw1
  clear hw1 hC hB hP hkl hiv hb hcb hlb
  go_enter Tryz.func85, Tryz.ntmps85
  go_upto_region 1 with fail
  change Code.wp _ _ _ _ ((w.alloc (.cells (parD 4 op key iv aad pk ck pv cv pa ca).toArray tPar)).alloc (.cells #[.slice pb b.length cb] tBytes))
  rw [HW1.out]
  go_wp2_with (refine wpList_load_mid rfl tPar (.tmp 2) rfl w.heap.size 0 rfl (parD 4 op key iv aad pk ck pv cv pa ca) _ hwh.out Tryz.underlying31 rfl sizePar ?_)
  refine HH.out.mono ?_
  rintro e w2 ⟨x, y, rfl, hD, hB2⟩
  go_wp2_with fail
  go_ret2
  exact ⟨hD, hB2⟩
set_option maxRecDepth 100000 in
set_option maxHeartbeats 4000000 in
theorem k6_any (w : World) (op : Bool) (key iv aad b : List UInt8) (pk : Option Addr) (ck : Nat) (pv : Option Addr) (cv : Nat) (pa : Option Addr) (ca : Nat) (hP : ParAt w op key iv aad pk ck pv cv pa ca) (hkl : key.length = 16 ∨ key.length = 32) (hiv : iv.length < 100000) (hi0 : iv.length ≠ 0) (hb16 : op = true → 16 ≤ b.length) (pb : Option Addr) (cb : Nat) (hb : RowAt w pb b) (hcb : b.length ≤ cb) (hlb : b.length < 1000000) :
    Calls Tryz.prog 90 #[.agg (parD 5 op key iv aad pk ck pv cv pa ca).toArray, .slice pb b.length cb] w fun e w' => DoAns w.heap.size 5 op (doF 5 op key iv aad b) e w' ∧ Below w.heap.size w w' := by
  obtain ⟨hC, hB⟩ := cap_new w 5 op key iv aad b pk ck pv cv pa ca hP pb cb hb hcb hlb
  obtain ⟨w1, hw1⟩ : ∃ w1, (w.alloc (.cells (parD 5 op key iv aad pk ck pv cv pa ca).toArray tPar)).alloc (.cells #[.slice pb b.length cb] tBytes) = w1 := ⟨_, rfl⟩
  rw [hw1] at hC hB
  have hwh := hid hC.p.whole
  have HH := hid (keyed_any w1 5 op key iv aad pk ck pv cv pa ca hC.par hkl 91 #[.pointer (some ⟨w.heap.size, 0, none⟩), .pointer (some ⟨w.heap.size + 1, 0, none⟩)] (fun x y W' => DoAns w.heap.size 5 op (doF 5 op key iv aad b) (.returned (.tuple #[x, y])) W' ∧ Below w.heap.size w W') callk61 (fun W kb hK hBW => (k61_any W w.heap.size (w.heap.size + 1) op key iv aad b pk ck pv cv pa ca pb cb (hC.below hBW) hiv hi0 hb16 kb hkl hK).mono (by
    rintro e W' ⟨⟨x, y, rfl, hD⟩, hB2⟩
    have hBB := hB.trans (hBW.mono hB.size)
    exact ⟨_, _, rfl, hD.mono hBB.size, hBB.trans (hB2.mono hBB.size)⟩)))
  have HW1 := hid hw1
  clear hw1 hC hB hP hkl hiv hi0 hb16 hb hcb hlb
  go_enter Tryz.func90, Tryz.ntmps90
  go_upto_region 1 with fail
  change Code.wp _ _ _ _ ((w.alloc (.cells (parD 5 op key iv aad pk ck pv cv pa ca).toArray tPar)).alloc (.cells #[.slice pb b.length cb] tBytes))
  rw [HW1.out]
  go_wp2_with (refine wpList_load_mid rfl tPar (.tmp 2) rfl w.heap.size 0 rfl (parD 5 op key iv aad pk ck pv cv pa ca) _ hwh.out Tryz.underlying31 rfl sizePar ?_)
  refine HH.out.mono ?_
  rintro e w2 ⟨x, y, rfl, hD, hB2⟩
  go_wp2_with fail
  go_ret2
  exact ⟨hD, hB2⟩
end Go.Proofs.YtnmmnlffobnbfaaGreatDoor
