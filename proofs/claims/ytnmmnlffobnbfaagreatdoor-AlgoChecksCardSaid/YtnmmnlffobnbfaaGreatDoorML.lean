/- Sl4 (joined by merge4.py) -/
import Derived.Test.YtnmmnlffobnbfaaGreatDoorMJ
import Derived.Test.YtnmmnlffobnbfaaGreatDoorMK
/- cbc: Seal -/
namespace Go.Proofs.YtnmmnlffobnbfaaGreatDoor
open Go.RowKit Go.Shelf

/-- A round of Seal: the block in hand, what is out. -/
def stepL (E : List UInt8 → List UInt8) (p : List UInt8) (k : Nat) (s : List UInt8 × List UInt8) (x : Nat) : List UInt8 × List UInt8 :=
  (E (List.zipWith (· ^^^ ·) s.1 ((p.drop (16 * clampI k x)).take 16)), s.2 ++ E (List.zipWith (· ^^^ ·) s.1 ((p.drop (16 * clampI k x)).take 16)))
theorem foldl_range (E : List UInt8 → List UInt8) (iv p : List UInt8) (k : Nat) : ∀ j, j ≤ k → (List.range j).foldl (stepL E p k) (iv, []) = (lastF E iv p j, sealF E iv p j)
  | 0, _ => rfl
  | j + 1, h => by
    rw [List.range_succ, List.foldl_append, foldl_range E iv p k j (by omega)]
    simp only [List.foldl_cons, List.foldl_nil, stepL, clampI_lt (show j < k by omega), lastF, sealF]
/-- Seal's loop: j blocks are done. -/
structure SI (N : Nat) (W0 W : World) (ob lb : Nat) (s : List UInt8 × List UInt8) (j : Nat) (v : Value) : Prop where
  ho : Blk W ob [v] tBytes
  hl : Blk W lb (bys s.1) tA16
  hv : OwnR N W v s.2
  hc : Chg N [ob, lb] W0 W
  l1 : s.1.length = 16
  l2 : s.2.length = 16 * j
theorem noncells_ne {W : World} {b : Nat} {cs : List Value} {T : TypeId} {row : Option Nat} (h : Blk W b cs T) (hr : ∀ r, row = some r → ∃ o : Obj, W.heap[r]? = some o ∧ o.isCells = false) : row ≠ some b := fun e => by
  obtain ⟨o, ho, hf⟩ := hr b e
  unfold Blk at h
  rw [h] at ho; cases ho; cases hf
theorem SI.own {N : Nat} {W0 W W' : World} {ob lb : Nat} {s : List UInt8 × List UInt8} {j : Nat} {v : Value} {row : Option Nat} (h : SI N W0 W ob lb s j v) (hN : N ≤ W.heap.size) (hg : W.grownBy W' row)
    (hr : ∀ r, row = some r → N ≤ r ∧ ∃ o : Obj, W.heap[r]? = some o ∧ o.isCells = false) : SI N W0 W' ob lb s j v :=
  ⟨h.ho.kept hg (noncells_ne h.ho (fun r e => (hr r e).2)), h.hl.kept hg (noncells_ne h.hl (fun r e => (hr r e).2)),
    h.hv.kept hg (by
      cases hv : v.ownBlock with
      | none => exact .inr rfl
      | some k =>
        obtain ⟨cs, hb⟩ := h.hv.typ k hv
        exact .inl (fun e => noncells_ne hb (fun r e => (hr r e).2) e.symm)),
    h.hc.grown hg hN (fun k e => .inr (hr k e).1), h.l1, h.l2⟩
theorem KeepsOthers.setCells (W : World) (b : Nat) : ∀ (vs : List Value) (o : Nat), KeepsOthers W (W.setCells b o vs) := by
  intro vs
  induction vs generalizing W with
  | nil => exact fun o => KeepsOthers.refl W
  | cons v vs ih => exact fun o => (KeepsOthers.setCell W ⟨b, o, none⟩ v).trans (ih _ _)
theorem KeepsOthers.ofBelow {W W' : World} (h : Below W.heap.size W W') : KeepsOthers W W' := ⟨h.size, fun k _ hk _ => (h.block k (Array.getElem?_eq_some_iff.1 hk).1).trans hk⟩

attribute [local go_sem] Oper.semAt_some
set_option maxRecDepth 100000 in
set_option maxHeartbeats 4000000 in
theorem seal_any (w : World) (kv : Option Addr) (E : List UInt8 → List UInt8) (iv : List UInt8) (hk : KeyV w kv E) (hiv : iv.length = 16) (pb : Option Addr) (n cap : Nat) (b : List UInt8) (hb : RowAt w pb b) (hn : b.length = n) (_ : n ≤ cap) (h9 : n < 1000000) :
    Calls Tryz.prog 88 #[.pointer kv, .agg (bys iv).toArray, .slice pb n cap] w fun e w' => ∃ v, e = .returned v ∧ OwnR w.heap.size w' v (sealF E iv (b ++ padF n) (n / 16 + 1)) ∧ Below w.heap.size w w' := by
  refine (callsIn_wide (n := 5)).1 ?_
  refine callsIn_of_wp_marks Tryz.func88 rfl trivial ?_ rfl
  simp only [Tryz.ntmps88, List.size_toArray, List.length_cons, List.length_nil, Nat.reduceAdd, Nat.reduceSub, Array.replicate_succ, Array.replicate_zero, List.push_toArray, List.append_toArray, List.nil_append, List.cons_append]
  refine wpIn_wide.2 ?_
  have hsz : (Tryz.prog.info? 100).map (·.size) = some (bys iv).length := by rw [size54, bys_length, hiv]
  have h1 : Blk ((w.alloc (.cells #[.pointer kv] 134)).alloc (.cells (bys iv).toArray tA16)) (w.heap.size + 1) (bys iv) tA16 := by
    have := Blk.new (w.alloc (.cells #[.pointer kv] 134)) (bys iv) tA16
    simpa using this
  have h2 : Blk (((w.alloc (.cells #[.pointer kv] 134)).alloc (.cells (bys iv).toArray tA16)).alloc (.cells #[.slice none 0 0] tBytes)) (w.heap.size + 1 + 1) [.slice none 0 0] tBytes := by
    have := Blk.new ((w.alloc (.cells #[.pointer kv] 134)).alloc (.cells (bys iv).toArray tA16)) [.slice none 0 0] tBytes
    simpa using this
  have h3 : Blk ((((w.alloc (.cells #[.pointer kv] 134)).alloc (.cells (bys iv).toArray tA16)).alloc (.cells #[.slice none 0 0] tBytes)).alloc (.cells (bys z16).toArray tA16)) (w.heap.size + 1 + 1 + 1) (bys z16) tA16 := by
    have := Blk.new (((w.alloc (.cells #[.pointer kv] 134)).alloc (.cells (bys iv).toArray tA16)).alloc (.cells #[.slice none 0 0] tBytes)) (bys z16) tA16
    simpa using this
  have h0 : Blk (w.alloc (.cells #[.pointer kv] 134)) w.heap.size [.pointer kv] 134 := Blk.new _ _ _
  go_wp2_with (first | (refine wpList_load_mid rfl 100 (.tmp 4) rfl (w.heap.size + 1) 0 rfl (bys iv) _ (h1.alloc (.cells #[.slice none 0 0] tBytes)).whole under54 rfl hsz ?_) | (refine wpList_store_mid rfl 100 (.tmp 8) (.tmp 10) rfl (w.heap.size + 1 + 1 + 1) 0 (bys iv).toArray rfl rfl (h3.there 0 _ (by rw [List.size_toArray, bys_length, bys_length, hiv]; decide)) (by rw [size54, List.size_toArray, bys_length, hiv]) (all_oneCell_toArray (bys_one _)) ?_))
  change Calls _ _ _ (((((w.alloc (.cells #[.pointer kv] 134)).alloc (.cells (bys iv).toArray tA16)).alloc (.cells #[.slice none 0 0] tBytes)).alloc (.cells (bys z16).toArray tA16)).setCells (w.heap.size + 1 + 1 + 1) 0 (bys iv)) _
  have d3 := h3.setCells (bys iv) 0 (by rw [bys_length, bys_length, hiv]; decide)
  rw [splice_whole _ _ (by rw [bys_length, bys_length, hiv]; rfl)] at d3
  have hC := (Chg.refl (w.heap.size + 1 + 1 + 1) [] ((((w.alloc (.cells #[.pointer kv] 134)).alloc (.cells (bys iv).toArray tA16)).alloc (.cells #[.slice none 0 0] tBytes)).alloc (.cells (bys z16).toArray tA16))).setCells (b := w.heap.size + 1 + 1 + 1) (.inr (Nat.le_refl _)) (bys iv) 0
  have d2 := (h2.alloc (.cells (bys z16).toArray tA16)).chg hC (by omega) (by simp)
  have d0 := (((h0.alloc (.cells (bys iv).toArray tA16)).alloc (.cells #[.slice none 0 0] tBytes)).alloc (.cells (bys z16).toArray tA16)).chg hC (by omega) (by simp)
  have hB : Below w.heap.size w ((((w.alloc (.cells #[.pointer kv] 134)).alloc (.cells (bys iv).toArray tA16)).alloc (.cells #[.slice none 0 0] tBytes)).alloc (.cells (bys z16).toArray tA16)) :=
    ((((Below.refl _ _).alloc (Nat.le_refl _) _).alloc (by simp) _).alloc (by simp; omega) _).alloc (by simp; omega) _
  have hB1 := hB.trans (hC.below (M := w.heap.size) (by omega) (by simp))
  have hs1 := d3.lt
  clear h0 h1 h2 h3 hC hB
  generalize (((((w.alloc (.cells #[.pointer kv] 134)).alloc (.cells (bys iv).toArray tA16)).alloc (.cells #[.slice none 0 0] tBytes)).alloc (.cells (bys z16).toArray tA16)).setCells (w.heap.size + 1 + 1 + 1) 0 (bys iv)) = W1 at *
  refine (pad_any W1 n (by omega)).mono ?_
  rintro e W2 ⟨g, rfl, hg, ⟨rest, hblk⟩, hB2⟩
  have hpl : (padF n).length = 16 - n % 16 := by unfold padF; rw [List.length_replicate]
  obtain ⟨m, hm⟩ : ∃ m, 16 - n % 16 = m := ⟨_, rfl⟩
  rw [hm] at hpl ⊢
  have hk0 : n + m = 16 * (n / 16 + 1) := by omega
  have hm0 : 0 < m := by omega
  have hm16 : m ≤ 16 := by omega
  obtain ⟨k, hkk⟩ : ∃ k, n / 16 + 1 = k := ⟨_, rfl⟩
  rw [hkk] at hk0
  have hk9 : k < 1000000 := by omega
  have hrp : RowAt W2 (some ⟨g, 0, none⟩) (padF n) := hblk.headRow
  obtain ⟨pd, hpd⟩ : ∃ pd, padF n = pd := ⟨_, rfl⟩
  rw [hpd] at hrp hpl
  have Hpd := hid hpd
  have Hkk := hid hkk
  have hrb := (hb.below hB1).below hB2
  have d0 := d0.below hB2 d0.lt
  have d2 := d2.below hB2 d2.lt
  have d3 := d3.below hB2 d3.lt
  have hB3 := hB1.trans (hB2.mono hB1.size)
  have hs2 := hB2.size
  have Hrb := hid hrb
  have Hrp := hid hrp
  have D0 := hid d0
  have D2 := hid d2
  have D3 := hid d3
  have HB3 := hid hB3
  have Hn := hid hn
  have Hpl := hid hpl
  have Hk0 := hid hk0
  clear hb hblk hm hkk hpd hB1 hB2 hrb hrp d0 d2 d3 hB3 hn hpl hsz
  go_wp2_with fail
  have hcat := concat2_any (W2.alloc (.cells #[.slice pb n cap, .slice (some ⟨g, 0, none⟩) m m] tBytes)) W2.heap.size pb (some ⟨g, 0, none⟩) n cap m m b pd tBytes (Blk.new _ _ _) (Hrb.out.below ((Below.refl _ _).alloc (Nat.le_refl _) _)) (Hrp.out.below ((Below.refl _ _).alloc (Nat.le_refl _) _)) Hn.out Hpl.out (by omega)
  refine hcat.mono ?_
  rintro e W3 ⟨v0, rfl, hown, hBc⟩
  have hpl : (b ++ pd).length = 16 * k := by rw [List.length_append, Hn.out, Hpl.out]; exact hk0
  have hk1 : 0 < k := by omega
  obtain ⟨g2, cp, rest2, rfl, hcp, hg2, hbk2⟩ := hown.blk (by omega)
  rw [hpl] at hcp ⊢
  have hBW : Below W2.heap.size W2 W3 := ((Below.refl _ W2).alloc (Nat.le_refl _) _).trans (hBc.mono (by simp))
  have e0 := D0.out.below hBW D0.out.lt
  have e2 := D2.out.below hBW D2.out.lt
  have e3 := D3.out.below hBW D3.out.lt
  have hB4 := HB3.out.trans (hBW.mono HB3.out.size)
  have hs3 : W2.heap.size + 1 ≤ W3.heap.size := by have := hBc.size; simpa using this
  have E0 := hid e0
  have E2 := hid e2
  have E3 := hid e3
  have HB4 := hid hB4
  have Hpl2 := hid hpl
  have Hbk2 := hid hbk2
  rw [World.size_alloc] at hg2
  obtain ⟨t, ht⟩ : ∃ t, 16 * k = t := ⟨_, rfl⟩
  rw [ht] at hcp ⊢
  have Ht := hid ht
  clear hcat hown hBc hBW e0 e2 e3 hB4 hpl hbk2 D0 D2 D3 HB3 Hrb Hrp hk0 Hk0 ht
  go_wp2_with fail
  refine (chunk_any W3 (some ⟨g2, 0, none⟩) t cp).mono ?_
  rintro e W4 ⟨rfl, h4⟩
  go_wp2_with fail
  have hN : W3.heap.size + 2 = W4.heap.size := by rw [← h4]; simp
  have hB43 : Below W3.heap.size W3 W4 := by rw [← h4]; exact ((Below.refl _ W3).alloc (Nat.le_refl _) _).alloc (by simp) _
  have hBs : W4.cell? ⟨W3.heap.size, 0, none⟩ = some (.slice (some ⟨g2, 0, none⟩) (16 * k) cp) := by
    rw [← h4, Ht.out]
    have hb5 := (Blk.new W3 [.slice (some ⟨g2, 0, none⟩) t cp] tBytes).alloc (.cells #[.int .i64 16] tInt)
    exact hb5.cell 0
  have hBn : W4.cell? ⟨W3.heap.size + 1, 0, none⟩ = some (.int .i64 16) := by
    rw [← h4]
    have hb5 := Blk.new (W3.alloc (.cells #[.slice (some ⟨g2, 0, none⟩) t cp] tBytes)) [.int .i64 16] tInt
    rw [World.size_alloc] at hb5
    exact hb5.cell 0
  have f0 := E0.out.below hB43 E0.out.lt
  have f2 := E2.out.below hB43 E2.out.lt
  have f3 := E3.out.below hB43 E3.out.lt
  have hrow : RowAt W4 (some ⟨g2, 0, none⟩) (b ++ pd) := (Hbk2.out.below hB43 Hbk2.out.lt).headRow
  have hgl := Hbk2.out.lt
  have hB5 := HB4.out.trans (hB43.mono HB4.out.size)
  obtain ⟨p, hp⟩ : ∃ p, b ++ pd = p := ⟨_, rfl⟩
  have hpl := Hpl2.out
  rw [hp] at hrow hpl
  clear h4 hB43 Hbk2 E0 E2 E3
  refine (wpIn_wide (n := 5)).1 ?_
  refine wpIn_rangeFunc_ownG rfl (by omega) (gf := 171) (lb := #[.pointer (some ⟨W3.heap.size, 0, none⟩), .pointer (some ⟨W3.heap.size + 1, 0, none⟩)]) rfl trivial (enters_of Tryz.func171 (by kernel_rfl) rfl)
    (chunk_stops _ W3.heap.size (W3.heap.size + 1) W4.heap.size g2 0 k cp (some ⟨g2, 0, none⟩) (fun _ => rfl) [w.heap.size + 1 + 1, w.heap.size + 1 + 1 + 1] W4 (by rw [Ht.out]; exact hcp) hk9 (by omega) (by omega) (by simp; omega) (by simp; omega) (Nat.le_refl _) hBs hBn)
    Chg.trans (chg_keepsB (Nat.le_refl _)) (Below.refl _ _) (fun _ => rfl)
    (fun pre W => ∃ v, SI W4.heap.size W4 W (w.heap.size + 1 + 1) (w.heap.size + 1 + 1 + 1) (pre.foldl (stepL E p k) (iv, [])) pre.length v)
    (fun _ _ _ => False) (fun pre W W' row hs hg hr => by obtain ⟨v, hs⟩ := hs; exact ⟨v, hs.own hs.hc.size hg hr⟩) (fun _ _ _ _ _ hs _ _ => hs)
    ⟨_, f2, f3, OwnR.nil _ _, Chg.refl _ _ _, hiv, rfl⟩
    (fun x => { tmps := #[.pointer kv, .agg (bys iv).toArray, .slice pb n cap, .pointer (some ⟨w.heap.size, 0, none⟩), .pointer (some ⟨w.heap.size + 1, 0, none⟩), undef, .slice none 0 0, .pointer (some ⟨w.heap.size + 1 + 1, 0, none⟩), .pointer (some ⟨w.heap.size + 1 + 1 + 1, 0, none⟩), chunkV g2 0 (clampI k x), .agg (bys iv).toArray, .slice pb n cap, .slice pb n cap, .int .i64 n, .slice (some ⟨g, 0, none⟩) m m, .slice (some ⟨W2.heap.size, 0, none⟩) 2 2, .slice (some ⟨g2, 0, none⟩) t cp, .func (.func 171) #[] #[.pointer (some ⟨W3.heap.size, 0, none⟩), .pointer (some ⟨W3.heap.size + 1, 0, none⟩)], chunkV g2 0 (clampI k x), undef, undef, undef, undef, undef, undef, undef, undef, undef], defers := [] }) ?assign ?body ?done ?stop
  case assign =>
    intro l x W K hK
    gi_wp2
    exact hK
  case body =>
    rintro l pre x W ⟨v, hSI⟩ hlen
    obtain ⟨s, hs⟩ : ∃ s, pre.foldl (stepL E p k) (iv, []) = s := ⟨_, rfl⟩
    rw [hs] at hSI
    obtain ⟨q, hq⟩ : ∃ q, clampI k x = q := ⟨_, rfl⟩
    have hqk : q < k := by rw [← hq]; exact clampI_le x (by omega)
    have hstep : stepL E p k s x = (E (List.zipWith (· ^^^ ·) s.1 ((p.drop (16 * q)).take 16)), s.2 ++ E (List.zipWith (· ^^^ ·) s.1 ((p.drop (16 * q)).take 16))) := by rw [← hq]; rfl
    simp only [hq]
    obtain ⟨ck, hck⟩ : ∃ ck, (p.drop (16 * q)).take 16 = ck := ⟨_, rfl⟩
    rw [hck] at hstep
    have hckl : ck.length = 16 := by rw [← hck, List.length_take, List.length_drop]; omega
    obtain ⟨z, hz⟩ : ∃ z, List.zipWith (· ^^^ ·) s.1 ck = z := ⟨_, rfl⟩
    rw [hz] at hstep
    have hzl : z.length = 16 := by rw [← hz, List.length_zipWith, hSI.l1, hckl]; rfl
    obtain ⟨y, hy⟩ : ∃ y, E z = y := ⟨_, rfl⟩
    rw [hy] at hstep
    have hfin : ∀ W' v', SI W4.heap.size W4 W' (w.heap.size + 1 + 1) (w.heap.size + 1 + 1 + 1) (y, s.2 ++ y) (pre.length + 1) v' → ∃ v, SI W4.heap.size W4 W' (w.heap.size + 1 + 1) (w.heap.size + 1 + 1 + 1) ((pre ++ [x]).foldl (stepL E p k) (iv, [])) (pre ++ [x]).length v := fun W' v' h => ⟨v', by
      rw [List.foldl_append, List.length_append, hs]
      simp only [List.foldl_cons, List.foldl_nil, List.length_cons, List.length_nil, hstep]
      exact h⟩
    have Hfin := hid hfin
    have hyl : y.length = 16 := by rw [← hy]; exact hk.len z hzl
    have hBW : Below w.heap.size w W := hB5.trans (hSI.hc.below (by omega) (by simp; omega))
    have hkW := hk.below hBW
    have hrW : RowAt W (some ⟨g2, 16 * q, none⟩) ck := by
      rw [← hck]
      have :=  ((hrow.chgL hSI.hc (fun a e => by cases e; show g2 < _; omega) (fun a e => by cases e; simp; omega)).drop (16 * q)).take 16
      rwa [Nat.zero_add] at this
    have g0 := f0.chg hSI.hc (by omega) (by simp; omega)
    have hszs : (Tryz.prog.info? 100).map (·.size) = some (bys s.1).length := by rw [size54, bys_length, hSI.l1]
    have hBd : Below W.heap.size W W.drew := (Below.refl _ _).drew
    have Hz := hid hz
    have Hy := hid hy
    have Hzl := hid hzl
    have Hyl := hid hyl
    have Hckl := hid hckl
    have HrW := hid hrW
    have hSz := hSI.hc.size
    have HSI := hid hSI
    have hpk := hlen
    have G0 := hid g0
    have hg0 := g0.lt
    have hg1 := hSI.hl.lt
    clear hfin hq hz hy hstep hck hzl hyl hckl hrW hs hlen hp hpl hrow f0 f2 f3 hBs hBn hB5 HB4 hSI g0
    unfold chunkV
    gi_wp2
    try simp only [Act.put]
    refine rtkR (fun w' => Below W.heap.size W w') [5] (by kernel_rfl) (fun c a d v w h => by cases d <;> exact h) (hBd) (fun hPF hHeld => ?_)
    refine rtkA 0 (.some 19) _ _ rfl rfl (by kernel_rfl) (by kernel_rfl) (by kernel_rfl) (by kernel_rfl) (by kernel_rfl) (by kernel_rfl) hPF rfl (fun w' hw' => by (have h1 := (G0.out.below hw' G0.out.lt).cell 0; simp only [List.getElem?_cons_zero] at h1; go_simp; try with_reducible rfl)) hHeld (fun hHeld => ?_)
    simp only [Act.put, List.setIfInBounds_toArray, List.set_cons_zero, List.set_cons_succ]
    refine rtkL 1 (.some 20) _ rfl rfl 100 (.tmp 8) rfl (w.heap.size + 1 + 1 + 1) 0 (bys s.1) _ (by kernel_rfl) (by kernel_rfl) (by kernel_rfl) (by kernel_rfl) (by kernel_rfl) (by kernel_rfl) hPF rfl rfl (fun w' hw' => (HSI.out.hl.below hw' hg1).whole) under54 rfl hszs hHeld (fun hHeld => ?_)
    simp only [Act.put, List.setIfInBounds_toArray, List.set_cons_zero, List.set_cons_succ]
    refine rtkB 2 (.some 21) _ _ rfl rfl (by kernel_rfl) (by kernel_rfl) (by kernel_rfl) (by kernel_rfl) (by kernel_rfl) hPF rfl (fun w' => by (go_simp; try with_reducible rfl)) hHeld (fun hHeld => ?_)
    simp only [Act.put, List.setIfInBounds_toArray, List.set_cons_zero, List.set_cons_succ]
    have hS := hHeld (by kernel_rfl)
    refine rtkW (rs := [3]) (by kernel_rfl) (by simp) (AllKr.cons (o := _) rfl (fun KC hKC => ?_) AllKr.nil)
    go_simp
    refine ⟨trivial, CallsIn.mono (CallsIn.inRound l (callsIn_wide.2 (cmixed_any W.drew s.1 ck (some ⟨g2, 16 * q, none⟩) 16 HSI.out.l1 HrW.out.drew Hckl.out))) ?_⟩
    rintro e w2 ⟨rfl, hB2⟩
    rw [Hz.out]
    have hx : Below W.heap.size W w2 := hS.trans (hB2.mono hS.size)
    clear hB2
    refine hKC.out _ _ (hx) (fun hHeld => ?_)
    clear hKC KC
    try simp only [Act.put, List.setIfInBounds_toArray, List.set_cons_zero, List.set_cons_succ]
    have hS := hHeld (by kernel_rfl)
    refine rtkW (rs := [4]) (by kernel_rfl) (by simp) (AllKr.cons (o := _) rfl (fun KC hKC => ?_) AllKr.nil)
    go_simp
    refine ⟨trivial, CallsIn.mono (CallsIn.inRound l (callsIn_wide.2 (keyv_enc (hkW.below hx) z Hzl.out))) ?_⟩
    rintro e w3 ⟨rfl, hB3⟩
    rw [Hy.out]
    have hx2 : Below W.heap.size W w3 := hx.trans (hB3.mono hx.size)
    clear hB3
    refine hKC.out _ _ (hx2) (fun hHeld => ?_)
    clear hKC KC
    try simp only [Act.put, List.setIfInBounds_toArray, List.set_cons_zero, List.set_cons_succ]
    refine rtkW (rs := [5]) (by kernel_rfl) (by simp) (AllKr.close (o := _) rfl (by kernel_rfl) (fun KC hKC => ?_) AllKr.nil)
    refine wpIn_storeD none rfl 100 (.tmp 8) (.tmp 23) rfl (w.heap.size + 1 + 1 + 1) 0 (bys y).toArray rfl rfl ((HSI.out.hl.below hx2 hg1).there 0 _ (by rw [List.size_toArray, bys_length, bys_length, HSI.out.l1, Hyl.out]; decide)) (by rw [size54, List.size_toArray, bys_length, Hyl.out]) (all_oneCell_toArray (bys_one _)) ?_
    refine hKC.out _ _ (fun hHeld => ?_)
    clear hKC KC
    try simp only [Act.put]
    refine rtkD (by kernel_rfl) ?_ _
    have hC5 : Chg W.heap.size [w.heap.size + 1 + 1 + 1] W (w3.setCells (w.heap.size + 1 + 1 + 1) 0 (bys y)) := (Chg.ofBelow hx2).setCells (.inl (by simp)) _ _
    have hK5 : KeepsOthers W (w3.setCells (w.heap.size + 1 + 1 + 1) 0 (bys y)) := (KeepsOthers.ofBelow hx2).trans (KeepsOthers.setCells _ _ _ _)
    have l5 := (HSI.out.hl.below hx2 hg1).setCells (bys y) 0 (by rw [bys_length, bys_length, HSI.out.l1, Hyl.out]; decide)
    rw [splice_whole _ _ (by rw [bys_length, bys_length, HSI.out.l1, Hyl.out])] at l5
    have o5 := HSI.out.ho.chg hC5 HSI.out.ho.lt (by simp)
    have v5 := HSI.out.hv.chg hC5 (Nat.le_refl _) (fun j e => by have := (HSI.out.hv.lt j e).1; simp; omega)
    have hs5 := hC5.size
    gi_wp2
    change Code.wpIn _ _ _ _ _ _ (w3.setCells (w.heap.size + 1 + 1 + 1) 0 (bys y))
    generalize (w3.setCells (w.heap.size + 1 + 1 + 1) 0 (bys y)) = W5 at *
    have hBd5 : Below W5.heap.size W5 W5.drew := (Below.refl _ _).drew
    have O5 := hid o5
    have L5 := hid l5
    have V5 := hid v5
    have hl5 := l5.lt
    clear o5 l5 v5
    try simp only [Act.put]
    refine rtkR (fun w' => Below W5.heap.size W5 w') [2, 3] (by kernel_rfl) (fun c a d v w h => by cases d <;> exact h) (hBd5) (fun hPF hHeld => ?_)
    refine rtkA 0 (.some 24) _ _ rfl rfl (by kernel_rfl) (by kernel_rfl) (by kernel_rfl) (by kernel_rfl) (by kernel_rfl) (by kernel_rfl) hPF rfl (fun w' hw' => by (have h1 := (O5.out.below hw' O5.out.lt).cell 0; simp only [List.getElem?_cons_zero] at h1; go_simp; try with_reducible rfl)) hHeld (fun hHeld => ?_)
    simp only [Act.put, List.setIfInBounds_toArray, List.set_cons_zero, List.set_cons_succ]
    refine rtkB 1 (.some 25) _ _ rfl rfl (by kernel_rfl) (by kernel_rfl) (by kernel_rfl) (by kernel_rfl) (by kernel_rfl) hPF rfl (fun w' => by (go_simp; try with_reducible rfl)) hHeld (fun hHeld => ?_)
    simp only [Act.put, List.setIfInBounds_toArray, List.set_cons_zero, List.set_cons_succ]
    refine rtkW (rs := [2]) (by kernel_rfl) (by simp) (AllKr.close (o := _) rfl (by kernel_rfl) (fun KC hKC => ?_) AllKr.nil)
    refine wpIn_addD V5.out.drew (.some 26) rfl (.tmp 24) (.tmp 25) rfl rfl (some ⟨w.heap.size + 1 + 1 + 1, 0, none⟩) 16 16 y rfl L5.out.drew.rowAt0 Hyl.out (by rw [HSI.out.l2]; omega) (Nat.le_trans hSz hs5) ?_
    intro v2 w6 hown6 hgrow6 hblk6
    have o6 := O5.out.drew.kept hgrow6 (fun e => by have := (V5.out.lt _ e).1; omega)
    have l6 := L5.out.drew.kept hgrow6 (fun e => by have := (V5.out.lt _ e).1; omega)
    have hK6 := hK5.trans ((KeepsOthers.drew W5).trans (KeepsOthers.of_grownBy hgrow6 fun j o ej hj => by
      obtain ⟨cs, hb⟩ := V5.out.typ j ej
      have hb' : W5.heap[j]? = some (.cells cs.toArray tU8) := hb
      have hj' : W5.heap[j]? = some o := hj
      rw [hb'] at hj'; cases hj'; rfl))
    have hC6 : Chg W4.heap.size [w.heap.size + 1 + 1, w.heap.size + 1 + 1 + 1] W w6 := ((hC5.mono hSz (fun _ _ e => by simp at e; simp [e])).drew).grown hgrow6 (Nat.le_trans hSz hs5) (fun j e => .inr (V5.out.lt j e).1)
    obtain ⟨pa2, c2, e2, hc2, _⟩ := hown6.row
    obtain ⟨ln, hln⟩ : ∃ ln, (s.2 ++ y).length = ln := ⟨_, rfl⟩
    rw [hln] at e2
    subst e2
    have hv6 : (Value.slice pa2 ln c2).ownBlock ≠ some (w.heap.size + 1 + 1) := fun e => by have := (hown6.lt _ e).1; omega
    have hoc6 := o6.cell 0
    simp only [List.getElem?_cons_zero] at hoc6
    have hfr6 := o6.frozen 0
    have Hown6 := hid hown6
    have O6 := hid o6
    have L6 := hid l6
    have HK6 := hid hK6
    have HC6 := hid hC6
    clear hown6 o6 l6 hK6 hC6 hgrow6 hblk6 hC5 hK5
    refine hKC.out _ _ (fun hHeld => ?_)
    clear hKC KC
    try simp only [Act.put, List.setIfInBounds_toArray, List.set_cons_zero, List.set_cons_succ]
    refine rtkW (rs := [3]) (by kernel_rfl) (by simp) (AllKr.close (o := _) rfl (by kernel_rfl) (fun KC hKC => ?_) AllKr.nil)
    go_simp
    refine hKC.out _ _ (fun hHeld => ?_)
    clear hKC KC
    try simp only [Act.put]
    refine rtkD (by kernel_rfl) ?_ _
    gi_wp2
    have o7 := O6.out.set 0 (.slice pa2 ln c2)
    have l7 := L6.out.setNe (a := ⟨w.heap.size + 1 + 1, 0, none⟩) (by simp) (.slice pa2 ln c2)
    refine ⟨(HK6.out.trans (KeepsOthers.setCell _ _ _)).from _, HC6.out.setCell (.inl (by simp)) _, Hfin.out _ _ ⟨o7, l7, ?_, HSI.out.hc.trans (HC6.out.setCell (.inl (by simp)) _), Hyl.out, ?_⟩⟩
    · exact Hown6.out.chg ((Chg.refl w6.heap.size [w.heap.size + 1 + 1] w6).setCell (.inl (by simp)) _) (Nat.le_refl _) (fun j e h => hv6 (by simp at h; rw [← h]; exact e))
    · show (s.2 ++ y).length = _
      rw [List.length_append, HSI.out.l2, Hyl.out]; omega
  case done =>
    rintro D ys W hD rfl ⟨v, hSI⟩ hK
    rw [foldl_range E iv p k k (Nat.le_refl _)] at hSI
    have hoc := hSI.ho.cell 0
    simp only [List.getElem?_cons_zero] at hoc
    have HSI := hid hSI
    clear hSI
    go_wp2_with fail
    refine ⟨by simp, .inl ⟨_, _, rfl, run_takeDeferred hK, ?_⟩⟩
    have h7 := HSI.out.own HSI.out.hc.size (grownBy_putObj' W D (.deferred none)) (fun r e => by cases e; exact ⟨hD, _, hK, rfl⟩)
    refine ⟨_, results_tmp rfl _ _ _, v, rfl, ?_, ?_⟩
    · rw [Hpd.out, Hkk.out, hp]
      exact h7.hv.mono (by omega)
    · exact hB5.trans (h7.hc.below (by omega) (by simp; omega))
  case stop =>
    rintro D c pre W _ _ h _
    exact h.elim
end Go.Proofs.YtnmmnlffobnbfaaGreatDoor
