/- Lz · Lw (joined by merge4.py) -/
import Derived.Test.YtnmmnlffobnbfaaGreatDoorMS
import Derived.Test.YtnmmnlffobnbfaaGreatDoorMT
import Derived.Lib.SmallJoins
import Derived.Test.YtnmmnlffobnbfaaGreatDoorMZ
/- rows of bytes that are made within a region that draws: what is told of them does not hang on the order -/
namespace Go.Proofs.YtnmmnlffobnbfaaGreatDoor
open Go.RowKit

/-- A row without bytes. -/
theorem wp_build_nil {w : World} {o : Oper} {a : Act} {K : Act → World → Prop} {Q : Exit → Act → World → Prop} (dd : Option Tmp) (hdd : o.dst = dd) (ho : o.op = .buildSlice 23 0 #[])
    (h : ∀ g w', Below w.heap.size w w' → K (a.put dd (.slice (some ⟨g, 0, none⟩) 0 0)) w') : Oper.wp Tryz.prog o a w K Q := by
  subst hdd
  have hr : (Instr.buildSlice 23 0 #[]).run Tryz.prog w = .ok (.slice (some ⟨w.heap.size, 0, none⟩) 0 0) (w.alloc (.cells #[] 5)) := by kernel_rfl
  unfold Oper.wp execOp
  simp only [ho]
  have := h w.heap.size (w.alloc (.cells #[] 5)) ((Below.refl _ _).alloc (Nat.le_refl _) _)
  simpa [hr, Result.andThen, Oper.upon] using this
/-- A row of one byte. -/
theorem wp_build_byte {w : World} {o : Oper} {a : Act} {K : Act → World → Prop} {Q : Exit → Act → World → Prop} (dd : Option Tmp) (hdd : o.dst = dd) (x : UInt8) (n : Int) (hn : n = bv x) (ho : o.op = .buildSlice 23 1 #[(0, .const (.int .u8 n))])
    (h : ∀ g w', w.heap.size ≤ g → Blk w' g (bys [x]) tU8 → Below w.heap.size w w' → K (a.put dd (.slice (some ⟨g, 0, none⟩) 1 1)) w') : Oper.wp Tryz.prog o a w K Q := by
  subst hdd
  have hr : (Instr.buildSlice 23 1 #[(0, .int .u8 n)]).run Tryz.prog w = .ok (.slice (some ⟨w.heap.size, 0, none⟩) 1 1) (w.alloc (.cells #[.int .u8 n] 5)) := by kernel_rfl
  have hb : Blk (w.alloc (.cells #[.int .u8 n] 5)) w.heap.size (bys [x]) tU8 := by
    have := Blk.new w [.int .u8 n] tU8
    rw [hn] at this ⊢
    exact this
  have := h w.heap.size (w.alloc (.cells #[.int .u8 n] 5)) (Nat.le_refl _) hb ((Below.refl _ _).alloc (Nat.le_refl _) _)
  clear hn h hb
  have hx : a.eval (.const (.int .u8 n)) = .int .u8 n := rfl
  unfold Oper.wp execOp
  simp only [ho, Sem.run_bind, Sem.run_pure, Result.andThen_ok, List.map_toArray, List.map_cons, List.map_nil, hx, hr]
  exact this
/-- A row of noughts. -/
theorem wp_make_row {w : World} {o : Oper} {a : Act} {K : Act → World → Prop} {Q : Exit → Act → World → Prop} (dd : Option Tmp) (hdd : o.dst = dd) (n : Nat) (hn : n ≤ 140737488355328) (x y : Operand) (ho : o.op = .makeSlice 23 x y) (hx : a.eval x = .int .i64 (n : Int)) (hy : a.eval y = .int .i64 (n : Int))
    (h : ∀ g w', w.heap.size ≤ g → Blk w' g (bys (List.replicate n 0)) tU8 → Below w.heap.size w w' → K (a.put dd (.slice (some ⟨g, 0, none⟩) n n)) w') : Oper.wp Tryz.prog o a w K Q := by
  subst hdd
  have hr := mk_nulls w n hn
  unfold Oper.wp execOp
  simp only [ho, hx, hy]
  have := h w.heap.size (w.alloc (.cells (bys (List.replicate n 0)).toArray 5)) (Nat.le_refl _) (Blk.new w (bys (List.replicate n 0)) tU8) ((Below.refl _ _).alloc (Nat.le_refl _) _)
  simpa [hr, Result.andThen, Oper.upon] using this
theorem run_append_lit (w : World) (ty : TypeId) (g : Nat) (pa : Option Addr) (m c : Nat) (Y : List UInt8) (hY : RowAt w pa Y) (hm : Y.length = m) (hb : m ≤ 140737488355328) :
    ∃ pa' c' w', (Builtin.append_ #[23, 23] ty #[.slice (some ⟨g, 0, none⟩) 0 0, .slice pa m c]).run Tryz.prog w = .ok (.slice pa' m c') w' ∧ m ≤ c' ∧ RowAt w' pa' Y ∧ Below w.heap.size w w' ∧ (0 < m → ∀ a, pa' = some a → w.heap.size ≤ a.block) := by
  obtain ⟨i, hi, hz, hs, hby⟩ := info_parts info5
  by_cases h0 : m = 0
  · subst h0
    obtain rfl : Y = [] := List.eq_nil_of_length_eq_zero hm
    have hsrc : Src Tryz.prog i.size 23 (.slice pa 0 c) 0 [] w := by
      cases pa with
      | none => exact Src.ofNil w under33b c
      | some a => exact Src.ofSlice w under33b a 0 c [] (by simp) (fun j u hu => by simp at hu) (fun u hu => by simp at hu)
    exact ⟨some ⟨g, 0, none⟩, 0, w, run_append_nothing w 23 23 ty 5 i under33b hi _ 0 0 (Nat.le_refl _) _ hsrc, Nat.le_refl _, RowAt.nilW _ _, Below.refl _ _, fun h => absurd h (by omega)⟩
  · obtain ⟨b, o, rfl, _, _⟩ := hY 0 (by omega)
    have hnl : (bys Y).length = m := by rw [bys_length, hm]
    obtain ⟨v', w', hrun, r1, r2⟩ := run_append_arg_grows (P := Tryz.prog) w 23 ty 5 i (.int .u8 0) 1 1 under33b hi hz hs hby rfl (by decide) ⟨g, 0, none⟩ 0 0 [] rfl
      (fun j u hu => by simp at hu)
      ⟨b, o, none⟩ m c (bys Y) (by rw [hnl, Nat.mul_one]) (hY.src rfl) (by omega) (by unfold maxLen; omega) (by omega)
    have hO : OwnR w.heap.size w' v' Y := by
      unfold OwnR
      rw [hm]
      simpa [bys] using r1
    obtain ⟨g', cap, rest, rfl, hc, hg, hB⟩ := hO.blk (by omega)
    rw [hm] at hrun hc
    exact ⟨some ⟨g', 0, none⟩, cap, w', hrun, hc, hB.headRow, ⟨r2.os, r2.tape, r2.output, r2.size, fun k hk => r2.block k hk (by simp)⟩, fun _ a e => by cases e; exact hg⟩
/-- Bytes behind a row without bytes: a new row. -/
theorem wp_append_lit {w : World} {o : Oper} {a : Act} {K : Act → World → Prop} {Q : Exit → Act → World → Prop} (dd : Option Tmp) (hdd : o.dst = dd) (s x : Operand)
    (ho : o.op = .call { callee := .builtin .append, args := #[s, x], argTypes := #[23, 23] }) (g : Nat) (hs : a.eval s = .slice (some ⟨g, 0, none⟩) 0 0) (pa : Option Addr) (m c : Nat) (Y : List UInt8) (hx : a.eval x = .slice pa m c) (hY : RowAt w pa Y) (hm : Y.length = m) (hb : m ≤ 140737488355328)
    (h : ∀ pa' c' w', m ≤ c' → RowAt w' pa' Y → Below w.heap.size w w' → (0 < m → ∀ a, pa' = some a → w.heap.size ≤ a.block) → K (a.put dd (.slice pa' m c')) w') : Oper.wp Tryz.prog o a w K Q := by
  subst hdd
  obtain ⟨pa', c', w', hr, h1, h2, h3, h4⟩ := run_append_lit w o.type g pa m c Y hY hm hb
  unfold Oper.wp execOp
  simp only [ho, resolve, invoke, builtin, Sem.run_bind, Sem.run_pure, Result.andThen_ok, List.map_toArray, List.map_cons, List.map_nil, hs, hx, hr]
  exact h pa' c' w' h1 h2 h3 h4
theorem RowAt.cellEq {w w' : World} {pa : Option Addr} {Y : List UInt8} (h : RowAt w pa Y) (hs : w.heap.size ≤ w'.heap.size) (hc : ∀ p, w'.cell? p = w.cell? p) : RowAt w' pa Y := fun k hk => by
  obtain ⟨b, o, e, hl, hv⟩ := h k hk
  exact ⟨b, o, e, Nat.lt_of_lt_of_le hl hs, by rw [hc]; exact hv⟩
/-- A row of its own, converted to its own type: its mark alone is laid. -/
theorem wp_convert_lit {w : World} {o : Oper} {a : Act} {K : Act → World → Prop} {Q : Exit → Act → World → Prop} (dd : Option Tmp) (hdd : o.dst = dd) (x : Operand)
    (ho : o.op = .convert 23 23 x) (g n c : Nat) (hx : a.eval x = .slice (some ⟨g, 0, none⟩) n c) (cs : List Value) (hB : Blk w g cs tU8)
    (h : ∀ w', Chg w.heap.size [g] w w' → (∀ p, w'.cell? p = w.cell? p) → w'.heap.size = w.heap.size → K (a.put dd (.slice (some ⟨g, 0, none⟩) n c)) w') : Oper.wp Tryz.prog o a w K Q := by
  subst hdd
  have hB' : w.heap[g]? = some (.cells cs.toArray tU8 (0, 0)) := hB
  have hsh : w.shape? g = some (tU8, cs.toArray.size) := by unfold World.shape?; rw [hB']
  have hr : (convert 23 23 (.slice (some ⟨g, 0, none⟩) n c)).run Tryz.prog w = .ok (.slice (some ⟨g, 0, none⟩) n c) (w.freeze ⟨g, cs.length, none⟩ 1) := by
    simp [convert, run_underlying under33b, run_underlying Tryz.underlying5, markStringish, hsh]
  have hf : w.freeze ⟨g, cs.length, none⟩ 1 = { w with heap := w.heap.modify g fun
      | .cells c elem (lo, hi) => .cells c elem (if lo == hi then (cs.length, cs.length + 1) else (min lo cs.length, max hi (cs.length + 1)))
      | o => o } := by unfold World.freeze; rw [if_neg (by decide)]; rfl
  unfold Oper.wp execOp
  simp only [ho, hx]
  have := h (w.freeze ⟨g, cs.length, none⟩ 1) ?_ ?_ ?_
  · simpa [hr, Result.andThen, Oper.upon] using this
  · rw [hf]
    refine ⟨rfl, rfl, rfl, by simp, fun k hk hF => ?_⟩
    simp only [List.mem_cons, List.not_mem_nil, or_false] at hF
    rw [Array.getElem?_modify]
    rw [if_neg (by omega)]
  · intro p
    rw [hf]
    unfold World.cell?
    simp only [Array.getElem?_modify]
    by_cases e : g = p.block
    · rw [if_pos e, ← e, hB']
      rfl
    · rw [if_neg e]
  · rw [hf]; simp
end Go.Proofs.YtnmmnlffobnbfaaGreatDoor

/- palfreylaw12: of, short, awake (printed by gen_lw.py) -/
namespace Go.Proofs.YtnmmnlffobnbfaaGreatDoor
open Go.RowKit

abbrev tRP : TypeId := 40
abbrev parZ : List Value := [.int .i64 0, .bool false, .slice none 0 0, .slice none 0 0, .slice none 0 0]
theorem parC_one (alg : Int) (op : Bool) (pk : Option Addr) (k ck : Nat) (pv : Option Addr) (v cv : Nat) (pa : Option Addr) (a ca : Nat) : ((parC alg op pk k ck pv v cv pa a ca).toArray.all fun x => x.oneCell') = true := all_oneCell_toArray (by
  intro u hu
  simp only [parC, List.mem_cons, List.not_mem_nil, or_false] at hu
  rcases hu with rfl | rfl | rfl | rfl | rfl <;> rfl)
set_option maxRecDepth 100000 in
set_option maxHeartbeats 8000000 in
theorem pof_any (w : World) (alg : Int) (op : Bool) (key iv aad : List UInt8) (pk : Option Addr) (ck : Nat) (pv : Option Addr) (cv : Nat) (pa : Option Addr) (ca : Nat) (hP : ParAt w op key iv aad pk ck pv cv pa ca) (hkl : key.length < 1000000) (hvl : iv.length < 1000000) :
    Calls Tryz.prog 20 #[.agg (parD alg op key iv aad pk ck pv cv pa ca).toArray] w fun e w' => ∃ pk' ck' pv' cv' pa' ca', e = .returned (.agg (parD alg op key iv aad pk' ck' pv' cv' pa' ca').toArray) ∧ ParAt w' op key iv aad pk' ck' pv' cv' pa' ca' ∧ Below w.heap.size w w' := by
  have hb := (Blk.new w (parD alg op key iv aad pk ck pv cv pa ca) tRP).alloc (.cells parZ.toArray tPar)
  have hz := Blk.new (w.alloc (.cells (parD alg op key iv aad pk ck pv cv pa ca).toArray tRP)) parZ tPar
  rw [show (w.alloc (.cells (parD alg op key iv aad pk ck pv cv pa ca).toArray tRP)).heap.size = w.heap.size + 1 from by simp] at hz
  have hB : Below w.heap.size w ((w.alloc (.cells (parD alg op key iv aad pk ck pv cv pa ca).toArray tRP)).alloc (.cells parZ.toArray tPar)) := ((Below.refl _ _).alloc (Nat.le_refl _) _).alloc (by simp) _
  have hla := hP.la
  have hP1 := hP.below hB
  obtain ⟨w1, hw1⟩ : ∃ w1, (w.alloc (.cells (parD alg op key iv aad pk ck pv cv pa ca).toArray tRP)).alloc (.cells parZ.toArray tPar) = w1 := ⟨_, rfl⟩
  rw [hw1] at hb hz hB hP1
  have hsz1 := hid (show w1.heap.size = w.heap.size + 1 + 1 by rw [← hw1]; simp)
  have HW1 := hid hw1
  have HB := hid hb
  have HZ := hid hz
  have HP := hid hP1
  have HBel := hid hB
  clear hw1 hb hz hP hP1 hB
  go_enter Tryz.func20, Tryz.ntmps20
  go_upto_region 1 with fail
  change Code.wp _ _ _ _ ((w.alloc (.cells (parD alg op key iv aad pk ck pv cv pa ca).toArray tRP)).alloc (.cells parZ.toArray tPar))
  rw [HW1.out]
  have S0 : Below w1.heap.size w1 w1.drew := (Below.refl _ _).drew
  try simp only [Act.put]
  refine tkR (fun w' => Below w1.heap.size w1 w') [17] (by kernel_rfl) (fun c a d v w h => by cases d <;> exact h) (S0) (fun hPF hHeld => ?_)
  refine tkB 0 (.some 3) _ _ rfl rfl (by kernel_rfl) (by kernel_rfl) (by kernel_rfl) (by kernel_rfl) hPF rfl (fun w' => by (go_simp; try with_reducible rfl)) hHeld (fun hHeld => ?_)
  simp only [Act.put, List.setIfInBounds_toArray, List.set_cons_zero, List.set_cons_succ]
  refine tkA 1 (.some 4) _ _ rfl rfl (by kernel_rfl) (by kernel_rfl) (by kernel_rfl) (by kernel_rfl) (by kernel_rfl) hPF rfl (fun w' hw' => by (have h1 := (HB.out.below hw' HB.out.lt).cell 0; go_simp; try with_reducible rfl)) hHeld (fun hHeld => ?_)
  simp only [Act.put, List.setIfInBounds_toArray, List.set_cons_zero, List.set_cons_succ]
  refine tkB 2 (.some 5) _ _ rfl rfl (by kernel_rfl) (by kernel_rfl) (by kernel_rfl) (by kernel_rfl) hPF rfl (fun w' => by (go_simp; try with_reducible rfl)) hHeld (fun hHeld => ?_)
  simp only [Act.put, List.setIfInBounds_toArray, List.set_cons_zero, List.set_cons_succ]
  refine tkA 3 (.some 6) _ _ rfl rfl (by kernel_rfl) (by kernel_rfl) (by kernel_rfl) (by kernel_rfl) (by kernel_rfl) hPF rfl (fun w' hw' => by (have h1 := (HB.out.below hw' HB.out.lt).cell 1; go_simp; try with_reducible rfl)) hHeld (fun hHeld => ?_)
  simp only [Act.put, List.setIfInBounds_toArray, List.set_cons_zero, List.set_cons_succ]
  refine tkB 5 (.some 8) _ _ rfl rfl (by kernel_rfl) (by kernel_rfl) (by kernel_rfl) (by kernel_rfl) hPF rfl (fun w' => by (go_simp; try with_reducible rfl)) hHeld (fun hHeld => ?_)
  simp only [Act.put, List.setIfInBounds_toArray, List.set_cons_zero, List.set_cons_succ]
  refine tkA 6 (.some 9) _ _ rfl rfl (by kernel_rfl) (by kernel_rfl) (by kernel_rfl) (by kernel_rfl) (by kernel_rfl) hPF rfl (fun w' hw' => by (have h1 := (HB.out.below hw' HB.out.lt).cell 2; go_simp; try with_reducible rfl)) hHeld (fun hHeld => ?_)
  simp only [Act.put, List.setIfInBounds_toArray, List.set_cons_zero, List.set_cons_succ]
  refine tkB 9 (.some 12) _ _ rfl rfl (by kernel_rfl) (by kernel_rfl) (by kernel_rfl) (by kernel_rfl) hPF rfl (fun w' => by (go_simp; try with_reducible rfl)) hHeld (fun hHeld => ?_)
  simp only [Act.put, List.setIfInBounds_toArray, List.set_cons_zero, List.set_cons_succ]
  refine tkA 10 (.some 13) _ _ rfl rfl (by kernel_rfl) (by kernel_rfl) (by kernel_rfl) (by kernel_rfl) (by kernel_rfl) hPF rfl (fun w' hw' => by (have h1 := (HB.out.below hw' HB.out.lt).cell 3; go_simp; try with_reducible rfl)) hHeld (fun hHeld => ?_)
  simp only [Act.put, List.setIfInBounds_toArray, List.set_cons_zero, List.set_cons_succ]
  refine tkB 13 (.some 16) _ _ rfl rfl (by kernel_rfl) (by kernel_rfl) (by kernel_rfl) (by kernel_rfl) hPF rfl (fun w' => by (go_simp; try with_reducible rfl)) hHeld (fun hHeld => ?_)
  simp only [Act.put, List.setIfInBounds_toArray, List.set_cons_zero, List.set_cons_succ]
  refine tkA 14 (.some 17) _ _ rfl rfl (by kernel_rfl) (by kernel_rfl) (by kernel_rfl) (by kernel_rfl) (by kernel_rfl) hPF rfl (fun w' hw' => by (have h1 := (HB.out.below hw' HB.out.lt).cell 4; go_simp; try with_reducible rfl)) hHeld (fun hHeld => ?_)
  simp only [Act.put, List.setIfInBounds_toArray, List.set_cons_zero, List.set_cons_succ]
  have hS := hHeld (by kernel_rfl)
  refine tkW (rs := [4, 8, 12]) (by kernel_rfl) (by simp) (AllK.cons (o := _) rfl (fun KC hKC => ?_) (AllK.cons (o := _) rfl (fun KC hKC => ?_) (AllK.cons (o := _) rfl (fun KC hKC => ?_) AllK.nil)))
  ·
    refine wantIt rfl (wp_build_nil (.some 7) rfl rfl ?_)
    intro g4 w4 hB4
    have h4 := hS.trans (hB4.mono hS.size)
    try have hr7 := hr7.below hB4
    try have hr11 := hr11.below hB4
    refine hKC.out _ _ (h4) (fun hHeld => ?_)
    clear hKC KC
    try simp only [Act.put, List.setIfInBounds_toArray, List.set_cons_zero, List.set_cons_succ]
    have hS := hHeld (by kernel_rfl)
    refine tkW (rs := [7, 8, 12]) (by kernel_rfl) (by simp) (AllK.cons (o := _) rfl (fun KC hKC => ?_) (AllK.cons (o := _) rfl (fun KC hKC => ?_) (AllK.cons (o := _) rfl (fun KC hKC => ?_) AllK.nil)))
    ·
      refine wantIt rfl (wp_append_lit (.some 10) rfl (.tmp 7) (.tmp 9) rfl g4 rfl pk key.length ck key rfl (HP.out.rk.below hS) rfl (by omega) ?_)
      intro p7 c7 w7 hc7 hr7 hB7 hf7
      have hf7 := hid (fun (hp : 0 < key.length) => (show Off [w.heap.size + 1] p7 from fun a e => by have := hf7 hp a e; have := hS.size; have := hsz1.out; simp; omega))
      have h7 := hS.trans (hB7.mono hS.size)
      refine hKC.out _ _ (h7) (fun hHeld => ?_)
      clear hKC KC
      try simp only [Act.put, List.setIfInBounds_toArray, List.set_cons_zero, List.set_cons_succ]
      have hS := hHeld (by kernel_rfl)
      refine tkW (rs := [8, 12]) (by kernel_rfl) (by simp) (AllK.cons (o := _) rfl (fun KC hKC => ?_) (AllK.cons (o := _) rfl (fun KC hKC => ?_) AllK.nil))
      ·
        refine wantIt rfl (wp_build_nil (.some 11) rfl rfl ?_)
        intro g8 w8 hB8
        have h8 := hS.trans (hB8.mono hS.size)
        try have hr7 := hr7.below hB8
        try have hr11 := hr11.below hB8
        refine hKC.out _ _ (h8) (fun hHeld => ?_)
        clear hKC KC
        try simp only [Act.put, List.setIfInBounds_toArray, List.set_cons_zero, List.set_cons_succ]
        have hS := hHeld (by kernel_rfl)
        refine tkW (rs := [11, 12]) (by kernel_rfl) (by simp) (AllK.cons (o := _) rfl (fun KC hKC => ?_) (AllK.cons (o := _) rfl (fun KC hKC => ?_) AllK.nil))
        ·
          refine wantIt rfl (wp_append_lit (.some 14) rfl (.tmp 11) (.tmp 13) rfl g8 rfl pv iv.length cv iv rfl (HP.out.rv.below hS) rfl (by omega) ?_)
          intro p11 c11 w11 hc11 hr11 hB11 hf11
          have hf11 := hid (fun (hp : 0 < iv.length) => (show Off [w.heap.size + 1] p11 from fun a e => by have := hf11 hp a e; have := hS.size; have := hsz1.out; simp; omega))
          have h11 := hS.trans (hB11.mono hS.size)
          try have hr7 := hr7.below hB11
          refine hKC.out _ _ (h11) (fun hHeld => ?_)
          clear hKC KC
          try simp only [Act.put, List.setIfInBounds_toArray, List.set_cons_zero, List.set_cons_succ]
          have hS := hHeld (by kernel_rfl)
          refine tkW (rs := [12]) (by kernel_rfl) (by simp) (AllK.cons (o := _) rfl (fun KC hKC => ?_) AllK.nil)
          refine wantIt rfl (wp_build_nil (.some 15) rfl rfl ?_)
          intro g12 w12 hB12
          have h12 := hS.trans (hB12.mono hS.size)
          try have hr7 := hr7.below hB12
          try have hr11 := hr11.below hB12
          refine hKC.out _ _ (h12) (fun hHeld => ?_)
          clear hKC KC
          try simp only [Act.put, List.setIfInBounds_toArray, List.set_cons_zero, List.set_cons_succ]
          have hS := hHeld (by kernel_rfl)
          refine tkW (rs := [15]) (by kernel_rfl) (by simp) (AllK.cons (o := _) rfl (fun KC hKC => ?_) AllK.nil)
          refine wantIt rfl (wp_append_lit (.some 18) rfl (.tmp 15) (.tmp 17) rfl g12 rfl pa aad.length ca aad rfl (HP.out.ra.below hS) rfl (by omega) ?_)
          intro p15 c15 w15 hc15 hr15 hB15 hf15
          have hf15 := hid (fun (hp : 0 < aad.length) => (show Off [w.heap.size + 1] p15 from fun a e => by have := hf15 hp a e; have := hS.size; have := hsz1.out; simp; omega))
          have h15 := hS.trans (hB15.mono hS.size)
          try have hr7 := hr7.below hB15
          try have hr11 := hr11.below hB15
          refine hKC.out _ _ (h15) (fun hHeld => ?_)
          clear hKC KC
          try simp only [Act.put, List.setIfInBounds_toArray, List.set_cons_zero, List.set_cons_succ]
          refine tkB 16 (.some 19) _ _ rfl rfl (by kernel_rfl) (by kernel_rfl) (by kernel_rfl) (by kernel_rfl) hPF rfl (fun w' => by (go_simp; try with_reducible rfl)) hHeld (fun hHeld => ?_)
          simp only [Act.put, List.setIfInBounds_toArray, List.set_cons_zero, List.set_cons_succ]
          refine tkW (rs := [17]) (by kernel_rfl) (by simp) (AllK.close (o := _) rfl (by kernel_rfl) (fun KC hKC => ?_) AllK.nil)
          have hS17 := hHeld (by kernel_rfl)
          have hz17 := HZ.out.below hS17 HZ.out.lt
          refine wantIt rfl (wp_storeD .none rfl tPar (.tmp 2) (.tmp 19) rfl (w.heap.size + 1) 0 (parD alg op key iv aad p7 c7 p11 c11 p15 c15).toArray rfl rfl (hz17.there 0 5 (Nat.le_refl _)) sizePar (parC_one _ _ _ _ _ _ _ _ _ _ _) ?_)
          refine hKC.out _ _ (fun hHeld => ?_)
          clear hKC KC
          try simp only [Act.put]
          refine tkD (by kernel_rfl) ?_ _
          obtain ⟨h9, hC9⟩ := setWhole hz17 (new := parD alg op key iv aad p7 c7 p11 c11 p15 c15) rfl
          have hB17 := (HBel.out.trans (hS17.mono HBel.out.size)).trans (hC9.below (M := w.heap.size) (by have := HBel.out.size; have := hS17.size; omega) (fun k hk => by simp at hk; omega))
          have hfin := hid (And.intro h9 (And.intro (show ParAt (w15.setCells (w.heap.size + 1) 0 (parD alg op key iv aad p7 c7 p11 c11 p15 c15)) op key iv aad p7 c7 p11 c11 p15 c15 from
            ⟨hr7.chg2 hC9 (Nat.le_refl _) hf7.out, hr11.chg2 hC9 (Nat.le_refl _) hf11.out, hr15.chg2 hC9 (Nat.le_refl _) hf15.out, hc7, hc11, hc15, hla⟩) hB17))
          change Exit.then _ _ _ _ (w15.setCells (w.heap.size + 1) 0 (parD alg op key iv aad p7 c7 p11 c11 p15 c15))
          generalize w15.setCells (w.heap.size + 1) 0 (parD alg op key iv aad p7 c7 p11 c11 p15 c15) = w17 at *
          obtain ⟨f1, f2, f3⟩ := hfin.out
          clear hPF hHeld hS17 hz17 h9 hC9 hB17 hfin
          go_wp2_with fail
          refine bodyPost_ret (v := .agg (parD alg op key iv aad p7 c7 p11 c11 p15 c15).toArray) (results_cell_row (P := Tryz.prog) (p := 2) (ty := tPar) rfl _ _ (w.heap.size + 1) tPar _ (0, 0) _ rfl f1 Tryz.underlying31 rfl sizePar) rfl ⟨p7, c7, p11, c11, p15, c15, rfl, f2, f3⟩
        ·
          refine wantIt rfl (wp_build_nil (.some 15) rfl rfl ?_)
          intro g12 w12 hB12
          have h12 := hS.trans (hB12.mono hS.size)
          try have hr7 := hr7.below hB12
          try have hr11 := hr11.below hB12
          refine hKC.out _ _ (h12) (fun hHeld => ?_)
          clear hKC KC
          try simp only [Act.put, List.setIfInBounds_toArray, List.set_cons_zero, List.set_cons_succ]
          have hS := hHeld (by kernel_rfl)
          refine tkW (rs := [11]) (by kernel_rfl) (by simp) (AllK.cons (o := _) rfl (fun KC hKC => ?_) AllK.nil)
          refine wantIt rfl (wp_append_lit (.some 14) rfl (.tmp 11) (.tmp 13) rfl g8 rfl pv iv.length cv iv rfl (HP.out.rv.below hS) rfl (by omega) ?_)
          intro p11 c11 w11 hc11 hr11 hB11 hf11
          have hf11 := hid (fun (hp : 0 < iv.length) => (show Off [w.heap.size + 1] p11 from fun a e => by have := hf11 hp a e; have := hS.size; have := hsz1.out; simp; omega))
          have h11 := hS.trans (hB11.mono hS.size)
          try have hr7 := hr7.below hB11
          refine hKC.out _ _ (h11) (fun hHeld => ?_)
          clear hKC KC
          try simp only [Act.put, List.setIfInBounds_toArray, List.set_cons_zero, List.set_cons_succ]
          have hS := hHeld (by kernel_rfl)
          refine tkW (rs := [15]) (by kernel_rfl) (by simp) (AllK.cons (o := _) rfl (fun KC hKC => ?_) AllK.nil)
          refine wantIt rfl (wp_append_lit (.some 18) rfl (.tmp 15) (.tmp 17) rfl g12 rfl pa aad.length ca aad rfl (HP.out.ra.below hS) rfl (by omega) ?_)
          intro p15 c15 w15 hc15 hr15 hB15 hf15
          have hf15 := hid (fun (hp : 0 < aad.length) => (show Off [w.heap.size + 1] p15 from fun a e => by have := hf15 hp a e; have := hS.size; have := hsz1.out; simp; omega))
          have h15 := hS.trans (hB15.mono hS.size)
          try have hr7 := hr7.below hB15
          try have hr11 := hr11.below hB15
          refine hKC.out _ _ (h15) (fun hHeld => ?_)
          clear hKC KC
          try simp only [Act.put, List.setIfInBounds_toArray, List.set_cons_zero, List.set_cons_succ]
          refine tkB 16 (.some 19) _ _ rfl rfl (by kernel_rfl) (by kernel_rfl) (by kernel_rfl) (by kernel_rfl) hPF rfl (fun w' => by (go_simp; try with_reducible rfl)) hHeld (fun hHeld => ?_)
          simp only [Act.put, List.setIfInBounds_toArray, List.set_cons_zero, List.set_cons_succ]
          refine tkW (rs := [17]) (by kernel_rfl) (by simp) (AllK.close (o := _) rfl (by kernel_rfl) (fun KC hKC => ?_) AllK.nil)
          have hS17 := hHeld (by kernel_rfl)
          have hz17 := HZ.out.below hS17 HZ.out.lt
          refine wantIt rfl (wp_storeD .none rfl tPar (.tmp 2) (.tmp 19) rfl (w.heap.size + 1) 0 (parD alg op key iv aad p7 c7 p11 c11 p15 c15).toArray rfl rfl (hz17.there 0 5 (Nat.le_refl _)) sizePar (parC_one _ _ _ _ _ _ _ _ _ _ _) ?_)
          refine hKC.out _ _ (fun hHeld => ?_)
          clear hKC KC
          try simp only [Act.put]
          refine tkD (by kernel_rfl) ?_ _
          obtain ⟨h9, hC9⟩ := setWhole hz17 (new := parD alg op key iv aad p7 c7 p11 c11 p15 c15) rfl
          have hB17 := (HBel.out.trans (hS17.mono HBel.out.size)).trans (hC9.below (M := w.heap.size) (by have := HBel.out.size; have := hS17.size; omega) (fun k hk => by simp at hk; omega))
          have hfin := hid (And.intro h9 (And.intro (show ParAt (w15.setCells (w.heap.size + 1) 0 (parD alg op key iv aad p7 c7 p11 c11 p15 c15)) op key iv aad p7 c7 p11 c11 p15 c15 from
            ⟨hr7.chg2 hC9 (Nat.le_refl _) hf7.out, hr11.chg2 hC9 (Nat.le_refl _) hf11.out, hr15.chg2 hC9 (Nat.le_refl _) hf15.out, hc7, hc11, hc15, hla⟩) hB17))
          change Exit.then _ _ _ _ (w15.setCells (w.heap.size + 1) 0 (parD alg op key iv aad p7 c7 p11 c11 p15 c15))
          generalize w15.setCells (w.heap.size + 1) 0 (parD alg op key iv aad p7 c7 p11 c11 p15 c15) = w17 at *
          obtain ⟨f1, f2, f3⟩ := hfin.out
          clear hPF hHeld hS17 hz17 h9 hC9 hB17 hfin
          go_wp2_with fail
          refine bodyPost_ret (v := .agg (parD alg op key iv aad p7 c7 p11 c11 p15 c15).toArray) (results_cell_row (P := Tryz.prog) (p := 2) (ty := tPar) rfl _ _ (w.heap.size + 1) tPar _ (0, 0) _ rfl f1 Tryz.underlying31 rfl sizePar) rfl ⟨p7, c7, p11, c11, p15, c15, rfl, f2, f3⟩
      ·
        refine wantIt rfl (wp_build_nil (.some 15) rfl rfl ?_)
        intro g12 w12 hB12
        have h12 := hS.trans (hB12.mono hS.size)
        try have hr7 := hr7.below hB12
        try have hr11 := hr11.below hB12
        refine hKC.out _ _ (h12) (fun hHeld => ?_)
        clear hKC KC
        try simp only [Act.put, List.setIfInBounds_toArray, List.set_cons_zero, List.set_cons_succ]
        have hS := hHeld (by kernel_rfl)
        refine tkW (rs := [8]) (by kernel_rfl) (by simp) (AllK.cons (o := _) rfl (fun KC hKC => ?_) AllK.nil)
        refine wantIt rfl (wp_build_nil (.some 11) rfl rfl ?_)
        intro g8 w8 hB8
        have h8 := hS.trans (hB8.mono hS.size)
        try have hr7 := hr7.below hB8
        try have hr11 := hr11.below hB8
        refine hKC.out _ _ (h8) (fun hHeld => ?_)
        clear hKC KC
        try simp only [Act.put, List.setIfInBounds_toArray, List.set_cons_zero, List.set_cons_succ]
        have hS := hHeld (by kernel_rfl)
        refine tkW (rs := [11]) (by kernel_rfl) (by simp) (AllK.cons (o := _) rfl (fun KC hKC => ?_) AllK.nil)
        refine wantIt rfl (wp_append_lit (.some 14) rfl (.tmp 11) (.tmp 13) rfl g8 rfl pv iv.length cv iv rfl (HP.out.rv.below hS) rfl (by omega) ?_)
        intro p11 c11 w11 hc11 hr11 hB11 hf11
        have hf11 := hid (fun (hp : 0 < iv.length) => (show Off [w.heap.size + 1] p11 from fun a e => by have := hf11 hp a e; have := hS.size; have := hsz1.out; simp; omega))
        have h11 := hS.trans (hB11.mono hS.size)
        try have hr7 := hr7.below hB11
        refine hKC.out _ _ (h11) (fun hHeld => ?_)
        clear hKC KC
        try simp only [Act.put, List.setIfInBounds_toArray, List.set_cons_zero, List.set_cons_succ]
        have hS := hHeld (by kernel_rfl)
        refine tkW (rs := [15]) (by kernel_rfl) (by simp) (AllK.cons (o := _) rfl (fun KC hKC => ?_) AllK.nil)
        refine wantIt rfl (wp_append_lit (.some 18) rfl (.tmp 15) (.tmp 17) rfl g12 rfl pa aad.length ca aad rfl (HP.out.ra.below hS) rfl (by omega) ?_)
        intro p15 c15 w15 hc15 hr15 hB15 hf15
        have hf15 := hid (fun (hp : 0 < aad.length) => (show Off [w.heap.size + 1] p15 from fun a e => by have := hf15 hp a e; have := hS.size; have := hsz1.out; simp; omega))
        have h15 := hS.trans (hB15.mono hS.size)
        try have hr7 := hr7.below hB15
        try have hr11 := hr11.below hB15
        refine hKC.out _ _ (h15) (fun hHeld => ?_)
        clear hKC KC
        try simp only [Act.put, List.setIfInBounds_toArray, List.set_cons_zero, List.set_cons_succ]
        refine tkB 16 (.some 19) _ _ rfl rfl (by kernel_rfl) (by kernel_rfl) (by kernel_rfl) (by kernel_rfl) hPF rfl (fun w' => by (go_simp; try with_reducible rfl)) hHeld (fun hHeld => ?_)
        simp only [Act.put, List.setIfInBounds_toArray, List.set_cons_zero, List.set_cons_succ]
        refine tkW (rs := [17]) (by kernel_rfl) (by simp) (AllK.close (o := _) rfl (by kernel_rfl) (fun KC hKC => ?_) AllK.nil)
        have hS17 := hHeld (by kernel_rfl)
        have hz17 := HZ.out.below hS17 HZ.out.lt
        refine wantIt rfl (wp_storeD .none rfl tPar (.tmp 2) (.tmp 19) rfl (w.heap.size + 1) 0 (parD alg op key iv aad p7 c7 p11 c11 p15 c15).toArray rfl rfl (hz17.there 0 5 (Nat.le_refl _)) sizePar (parC_one _ _ _ _ _ _ _ _ _ _ _) ?_)
        refine hKC.out _ _ (fun hHeld => ?_)
        clear hKC KC
        try simp only [Act.put]
        refine tkD (by kernel_rfl) ?_ _
        obtain ⟨h9, hC9⟩ := setWhole hz17 (new := parD alg op key iv aad p7 c7 p11 c11 p15 c15) rfl
        have hB17 := (HBel.out.trans (hS17.mono HBel.out.size)).trans (hC9.below (M := w.heap.size) (by have := HBel.out.size; have := hS17.size; omega) (fun k hk => by simp at hk; omega))
        have hfin := hid (And.intro h9 (And.intro (show ParAt (w15.setCells (w.heap.size + 1) 0 (parD alg op key iv aad p7 c7 p11 c11 p15 c15)) op key iv aad p7 c7 p11 c11 p15 c15 from
          ⟨hr7.chg2 hC9 (Nat.le_refl _) hf7.out, hr11.chg2 hC9 (Nat.le_refl _) hf11.out, hr15.chg2 hC9 (Nat.le_refl _) hf15.out, hc7, hc11, hc15, hla⟩) hB17))
        change Exit.then _ _ _ _ (w15.setCells (w.heap.size + 1) 0 (parD alg op key iv aad p7 c7 p11 c11 p15 c15))
        generalize w15.setCells (w.heap.size + 1) 0 (parD alg op key iv aad p7 c7 p11 c11 p15 c15) = w17 at *
        obtain ⟨f1, f2, f3⟩ := hfin.out
        clear hPF hHeld hS17 hz17 h9 hC9 hB17 hfin
        go_wp2_with fail
        refine bodyPost_ret (v := .agg (parD alg op key iv aad p7 c7 p11 c11 p15 c15).toArray) (results_cell_row (P := Tryz.prog) (p := 2) (ty := tPar) rfl _ _ (w.heap.size + 1) tPar _ (0, 0) _ rfl f1 Tryz.underlying31 rfl sizePar) rfl ⟨p7, c7, p11, c11, p15, c15, rfl, f2, f3⟩
    ·
      refine wantIt rfl (wp_build_nil (.some 11) rfl rfl ?_)
      intro g8 w8 hB8
      have h8 := hS.trans (hB8.mono hS.size)
      try have hr7 := hr7.below hB8
      try have hr11 := hr11.below hB8
      refine hKC.out _ _ (h8) (fun hHeld => ?_)
      clear hKC KC
      try simp only [Act.put, List.setIfInBounds_toArray, List.set_cons_zero, List.set_cons_succ]
      have hS := hHeld (by kernel_rfl)
      refine tkW (rs := [7, 12]) (by kernel_rfl) (by simp) (AllK.cons (o := _) rfl (fun KC hKC => ?_) (AllK.cons (o := _) rfl (fun KC hKC => ?_) AllK.nil))
      ·
        refine wantIt rfl (wp_append_lit (.some 10) rfl (.tmp 7) (.tmp 9) rfl g4 rfl pk key.length ck key rfl (HP.out.rk.below hS) rfl (by omega) ?_)
        intro p7 c7 w7 hc7 hr7 hB7 hf7
        have hf7 := hid (fun (hp : 0 < key.length) => (show Off [w.heap.size + 1] p7 from fun a e => by have := hf7 hp a e; have := hS.size; have := hsz1.out; simp; omega))
        have h7 := hS.trans (hB7.mono hS.size)
        refine hKC.out _ _ (h7) (fun hHeld => ?_)
        clear hKC KC
        try simp only [Act.put, List.setIfInBounds_toArray, List.set_cons_zero, List.set_cons_succ]
        have hS := hHeld (by kernel_rfl)
        refine tkW (rs := [11, 12]) (by kernel_rfl) (by simp) (AllK.cons (o := _) rfl (fun KC hKC => ?_) (AllK.cons (o := _) rfl (fun KC hKC => ?_) AllK.nil))
        ·
          refine wantIt rfl (wp_append_lit (.some 14) rfl (.tmp 11) (.tmp 13) rfl g8 rfl pv iv.length cv iv rfl (HP.out.rv.below hS) rfl (by omega) ?_)
          intro p11 c11 w11 hc11 hr11 hB11 hf11
          have hf11 := hid (fun (hp : 0 < iv.length) => (show Off [w.heap.size + 1] p11 from fun a e => by have := hf11 hp a e; have := hS.size; have := hsz1.out; simp; omega))
          have h11 := hS.trans (hB11.mono hS.size)
          try have hr7 := hr7.below hB11
          refine hKC.out _ _ (h11) (fun hHeld => ?_)
          clear hKC KC
          try simp only [Act.put, List.setIfInBounds_toArray, List.set_cons_zero, List.set_cons_succ]
          have hS := hHeld (by kernel_rfl)
          refine tkW (rs := [12]) (by kernel_rfl) (by simp) (AllK.cons (o := _) rfl (fun KC hKC => ?_) AllK.nil)
          refine wantIt rfl (wp_build_nil (.some 15) rfl rfl ?_)
          intro g12 w12 hB12
          have h12 := hS.trans (hB12.mono hS.size)
          try have hr7 := hr7.below hB12
          try have hr11 := hr11.below hB12
          refine hKC.out _ _ (h12) (fun hHeld => ?_)
          clear hKC KC
          try simp only [Act.put, List.setIfInBounds_toArray, List.set_cons_zero, List.set_cons_succ]
          have hS := hHeld (by kernel_rfl)
          refine tkW (rs := [15]) (by kernel_rfl) (by simp) (AllK.cons (o := _) rfl (fun KC hKC => ?_) AllK.nil)
          refine wantIt rfl (wp_append_lit (.some 18) rfl (.tmp 15) (.tmp 17) rfl g12 rfl pa aad.length ca aad rfl (HP.out.ra.below hS) rfl (by omega) ?_)
          intro p15 c15 w15 hc15 hr15 hB15 hf15
          have hf15 := hid (fun (hp : 0 < aad.length) => (show Off [w.heap.size + 1] p15 from fun a e => by have := hf15 hp a e; have := hS.size; have := hsz1.out; simp; omega))
          have h15 := hS.trans (hB15.mono hS.size)
          try have hr7 := hr7.below hB15
          try have hr11 := hr11.below hB15
          refine hKC.out _ _ (h15) (fun hHeld => ?_)
          clear hKC KC
          try simp only [Act.put, List.setIfInBounds_toArray, List.set_cons_zero, List.set_cons_succ]
          refine tkB 16 (.some 19) _ _ rfl rfl (by kernel_rfl) (by kernel_rfl) (by kernel_rfl) (by kernel_rfl) hPF rfl (fun w' => by (go_simp; try with_reducible rfl)) hHeld (fun hHeld => ?_)
          simp only [Act.put, List.setIfInBounds_toArray, List.set_cons_zero, List.set_cons_succ]
          refine tkW (rs := [17]) (by kernel_rfl) (by simp) (AllK.close (o := _) rfl (by kernel_rfl) (fun KC hKC => ?_) AllK.nil)
          have hS17 := hHeld (by kernel_rfl)
          have hz17 := HZ.out.below hS17 HZ.out.lt
          refine wantIt rfl (wp_storeD .none rfl tPar (.tmp 2) (.tmp 19) rfl (w.heap.size + 1) 0 (parD alg op key iv aad p7 c7 p11 c11 p15 c15).toArray rfl rfl (hz17.there 0 5 (Nat.le_refl _)) sizePar (parC_one _ _ _ _ _ _ _ _ _ _ _) ?_)
          refine hKC.out _ _ (fun hHeld => ?_)
          clear hKC KC
          try simp only [Act.put]
          refine tkD (by kernel_rfl) ?_ _
          obtain ⟨h9, hC9⟩ := setWhole hz17 (new := parD alg op key iv aad p7 c7 p11 c11 p15 c15) rfl
          have hB17 := (HBel.out.trans (hS17.mono HBel.out.size)).trans (hC9.below (M := w.heap.size) (by have := HBel.out.size; have := hS17.size; omega) (fun k hk => by simp at hk; omega))
          have hfin := hid (And.intro h9 (And.intro (show ParAt (w15.setCells (w.heap.size + 1) 0 (parD alg op key iv aad p7 c7 p11 c11 p15 c15)) op key iv aad p7 c7 p11 c11 p15 c15 from
            ⟨hr7.chg2 hC9 (Nat.le_refl _) hf7.out, hr11.chg2 hC9 (Nat.le_refl _) hf11.out, hr15.chg2 hC9 (Nat.le_refl _) hf15.out, hc7, hc11, hc15, hla⟩) hB17))
          change Exit.then _ _ _ _ (w15.setCells (w.heap.size + 1) 0 (parD alg op key iv aad p7 c7 p11 c11 p15 c15))
          generalize w15.setCells (w.heap.size + 1) 0 (parD alg op key iv aad p7 c7 p11 c11 p15 c15) = w17 at *
          obtain ⟨f1, f2, f3⟩ := hfin.out
          clear hPF hHeld hS17 hz17 h9 hC9 hB17 hfin
          go_wp2_with fail
          refine bodyPost_ret (v := .agg (parD alg op key iv aad p7 c7 p11 c11 p15 c15).toArray) (results_cell_row (P := Tryz.prog) (p := 2) (ty := tPar) rfl _ _ (w.heap.size + 1) tPar _ (0, 0) _ rfl f1 Tryz.underlying31 rfl sizePar) rfl ⟨p7, c7, p11, c11, p15, c15, rfl, f2, f3⟩
        ·
          refine wantIt rfl (wp_build_nil (.some 15) rfl rfl ?_)
          intro g12 w12 hB12
          have h12 := hS.trans (hB12.mono hS.size)
          try have hr7 := hr7.below hB12
          try have hr11 := hr11.below hB12
          refine hKC.out _ _ (h12) (fun hHeld => ?_)
          clear hKC KC
          try simp only [Act.put, List.setIfInBounds_toArray, List.set_cons_zero, List.set_cons_succ]
          have hS := hHeld (by kernel_rfl)
          refine tkW (rs := [11]) (by kernel_rfl) (by simp) (AllK.cons (o := _) rfl (fun KC hKC => ?_) AllK.nil)
          refine wantIt rfl (wp_append_lit (.some 14) rfl (.tmp 11) (.tmp 13) rfl g8 rfl pv iv.length cv iv rfl (HP.out.rv.below hS) rfl (by omega) ?_)
          intro p11 c11 w11 hc11 hr11 hB11 hf11
          have hf11 := hid (fun (hp : 0 < iv.length) => (show Off [w.heap.size + 1] p11 from fun a e => by have := hf11 hp a e; have := hS.size; have := hsz1.out; simp; omega))
          have h11 := hS.trans (hB11.mono hS.size)
          try have hr7 := hr7.below hB11
          refine hKC.out _ _ (h11) (fun hHeld => ?_)
          clear hKC KC
          try simp only [Act.put, List.setIfInBounds_toArray, List.set_cons_zero, List.set_cons_succ]
          have hS := hHeld (by kernel_rfl)
          refine tkW (rs := [15]) (by kernel_rfl) (by simp) (AllK.cons (o := _) rfl (fun KC hKC => ?_) AllK.nil)
          refine wantIt rfl (wp_append_lit (.some 18) rfl (.tmp 15) (.tmp 17) rfl g12 rfl pa aad.length ca aad rfl (HP.out.ra.below hS) rfl (by omega) ?_)
          intro p15 c15 w15 hc15 hr15 hB15 hf15
          have hf15 := hid (fun (hp : 0 < aad.length) => (show Off [w.heap.size + 1] p15 from fun a e => by have := hf15 hp a e; have := hS.size; have := hsz1.out; simp; omega))
          have h15 := hS.trans (hB15.mono hS.size)
          try have hr7 := hr7.below hB15
          try have hr11 := hr11.below hB15
          refine hKC.out _ _ (h15) (fun hHeld => ?_)
          clear hKC KC
          try simp only [Act.put, List.setIfInBounds_toArray, List.set_cons_zero, List.set_cons_succ]
          refine tkB 16 (.some 19) _ _ rfl rfl (by kernel_rfl) (by kernel_rfl) (by kernel_rfl) (by kernel_rfl) hPF rfl (fun w' => by (go_simp; try with_reducible rfl)) hHeld (fun hHeld => ?_)
          simp only [Act.put, List.setIfInBounds_toArray, List.set_cons_zero, List.set_cons_succ]
          refine tkW (rs := [17]) (by kernel_rfl) (by simp) (AllK.close (o := _) rfl (by kernel_rfl) (fun KC hKC => ?_) AllK.nil)
          have hS17 := hHeld (by kernel_rfl)
          have hz17 := HZ.out.below hS17 HZ.out.lt
          refine wantIt rfl (wp_storeD .none rfl tPar (.tmp 2) (.tmp 19) rfl (w.heap.size + 1) 0 (parD alg op key iv aad p7 c7 p11 c11 p15 c15).toArray rfl rfl (hz17.there 0 5 (Nat.le_refl _)) sizePar (parC_one _ _ _ _ _ _ _ _ _ _ _) ?_)
          refine hKC.out _ _ (fun hHeld => ?_)
          clear hKC KC
          try simp only [Act.put]
          refine tkD (by kernel_rfl) ?_ _
          obtain ⟨h9, hC9⟩ := setWhole hz17 (new := parD alg op key iv aad p7 c7 p11 c11 p15 c15) rfl
          have hB17 := (HBel.out.trans (hS17.mono HBel.out.size)).trans (hC9.below (M := w.heap.size) (by have := HBel.out.size; have := hS17.size; omega) (fun k hk => by simp at hk; omega))
          have hfin := hid (And.intro h9 (And.intro (show ParAt (w15.setCells (w.heap.size + 1) 0 (parD alg op key iv aad p7 c7 p11 c11 p15 c15)) op key iv aad p7 c7 p11 c11 p15 c15 from
            ⟨hr7.chg2 hC9 (Nat.le_refl _) hf7.out, hr11.chg2 hC9 (Nat.le_refl _) hf11.out, hr15.chg2 hC9 (Nat.le_refl _) hf15.out, hc7, hc11, hc15, hla⟩) hB17))
          change Exit.then _ _ _ _ (w15.setCells (w.heap.size + 1) 0 (parD alg op key iv aad p7 c7 p11 c11 p15 c15))
          generalize w15.setCells (w.heap.size + 1) 0 (parD alg op key iv aad p7 c7 p11 c11 p15 c15) = w17 at *
          obtain ⟨f1, f2, f3⟩ := hfin.out
          clear hPF hHeld hS17 hz17 h9 hC9 hB17 hfin
          go_wp2_with fail
          refine bodyPost_ret (v := .agg (parD alg op key iv aad p7 c7 p11 c11 p15 c15).toArray) (results_cell_row (P := Tryz.prog) (p := 2) (ty := tPar) rfl _ _ (w.heap.size + 1) tPar _ (0, 0) _ rfl f1 Tryz.underlying31 rfl sizePar) rfl ⟨p7, c7, p11, c11, p15, c15, rfl, f2, f3⟩
      ·
        refine wantIt rfl (wp_build_nil (.some 15) rfl rfl ?_)
        intro g12 w12 hB12
        have h12 := hS.trans (hB12.mono hS.size)
        try have hr7 := hr7.below hB12
        try have hr11 := hr11.below hB12
        refine hKC.out _ _ (h12) (fun hHeld => ?_)
        clear hKC KC
        try simp only [Act.put, List.setIfInBounds_toArray, List.set_cons_zero, List.set_cons_succ]
        have hS := hHeld (by kernel_rfl)
        refine tkW (rs := [7]) (by kernel_rfl) (by simp) (AllK.cons (o := _) rfl (fun KC hKC => ?_) AllK.nil)
        refine wantIt rfl (wp_append_lit (.some 10) rfl (.tmp 7) (.tmp 9) rfl g4 rfl pk key.length ck key rfl (HP.out.rk.below hS) rfl (by omega) ?_)
        intro p7 c7 w7 hc7 hr7 hB7 hf7
        have hf7 := hid (fun (hp : 0 < key.length) => (show Off [w.heap.size + 1] p7 from fun a e => by have := hf7 hp a e; have := hS.size; have := hsz1.out; simp; omega))
        have h7 := hS.trans (hB7.mono hS.size)
        refine hKC.out _ _ (h7) (fun hHeld => ?_)
        clear hKC KC
        try simp only [Act.put, List.setIfInBounds_toArray, List.set_cons_zero, List.set_cons_succ]
        have hS := hHeld (by kernel_rfl)
        refine tkW (rs := [11]) (by kernel_rfl) (by simp) (AllK.cons (o := _) rfl (fun KC hKC => ?_) AllK.nil)
        refine wantIt rfl (wp_append_lit (.some 14) rfl (.tmp 11) (.tmp 13) rfl g8 rfl pv iv.length cv iv rfl (HP.out.rv.below hS) rfl (by omega) ?_)
        intro p11 c11 w11 hc11 hr11 hB11 hf11
        have hf11 := hid (fun (hp : 0 < iv.length) => (show Off [w.heap.size + 1] p11 from fun a e => by have := hf11 hp a e; have := hS.size; have := hsz1.out; simp; omega))
        have h11 := hS.trans (hB11.mono hS.size)
        try have hr7 := hr7.below hB11
        refine hKC.out _ _ (h11) (fun hHeld => ?_)
        clear hKC KC
        try simp only [Act.put, List.setIfInBounds_toArray, List.set_cons_zero, List.set_cons_succ]
        have hS := hHeld (by kernel_rfl)
        refine tkW (rs := [15]) (by kernel_rfl) (by simp) (AllK.cons (o := _) rfl (fun KC hKC => ?_) AllK.nil)
        refine wantIt rfl (wp_append_lit (.some 18) rfl (.tmp 15) (.tmp 17) rfl g12 rfl pa aad.length ca aad rfl (HP.out.ra.below hS) rfl (by omega) ?_)
        intro p15 c15 w15 hc15 hr15 hB15 hf15
        have hf15 := hid (fun (hp : 0 < aad.length) => (show Off [w.heap.size + 1] p15 from fun a e => by have := hf15 hp a e; have := hS.size; have := hsz1.out; simp; omega))
        have h15 := hS.trans (hB15.mono hS.size)
        try have hr7 := hr7.below hB15
        try have hr11 := hr11.below hB15
        refine hKC.out _ _ (h15) (fun hHeld => ?_)
        clear hKC KC
        try simp only [Act.put, List.setIfInBounds_toArray, List.set_cons_zero, List.set_cons_succ]
        refine tkB 16 (.some 19) _ _ rfl rfl (by kernel_rfl) (by kernel_rfl) (by kernel_rfl) (by kernel_rfl) hPF rfl (fun w' => by (go_simp; try with_reducible rfl)) hHeld (fun hHeld => ?_)
        simp only [Act.put, List.setIfInBounds_toArray, List.set_cons_zero, List.set_cons_succ]
        refine tkW (rs := [17]) (by kernel_rfl) (by simp) (AllK.close (o := _) rfl (by kernel_rfl) (fun KC hKC => ?_) AllK.nil)
        have hS17 := hHeld (by kernel_rfl)
        have hz17 := HZ.out.below hS17 HZ.out.lt
        refine wantIt rfl (wp_storeD .none rfl tPar (.tmp 2) (.tmp 19) rfl (w.heap.size + 1) 0 (parD alg op key iv aad p7 c7 p11 c11 p15 c15).toArray rfl rfl (hz17.there 0 5 (Nat.le_refl _)) sizePar (parC_one _ _ _ _ _ _ _ _ _ _ _) ?_)
        refine hKC.out _ _ (fun hHeld => ?_)
        clear hKC KC
        try simp only [Act.put]
        refine tkD (by kernel_rfl) ?_ _
        obtain ⟨h9, hC9⟩ := setWhole hz17 (new := parD alg op key iv aad p7 c7 p11 c11 p15 c15) rfl
        have hB17 := (HBel.out.trans (hS17.mono HBel.out.size)).trans (hC9.below (M := w.heap.size) (by have := HBel.out.size; have := hS17.size; omega) (fun k hk => by simp at hk; omega))
        have hfin := hid (And.intro h9 (And.intro (show ParAt (w15.setCells (w.heap.size + 1) 0 (parD alg op key iv aad p7 c7 p11 c11 p15 c15)) op key iv aad p7 c7 p11 c11 p15 c15 from
          ⟨hr7.chg2 hC9 (Nat.le_refl _) hf7.out, hr11.chg2 hC9 (Nat.le_refl _) hf11.out, hr15.chg2 hC9 (Nat.le_refl _) hf15.out, hc7, hc11, hc15, hla⟩) hB17))
        change Exit.then _ _ _ _ (w15.setCells (w.heap.size + 1) 0 (parD alg op key iv aad p7 c7 p11 c11 p15 c15))
        generalize w15.setCells (w.heap.size + 1) 0 (parD alg op key iv aad p7 c7 p11 c11 p15 c15) = w17 at *
        obtain ⟨f1, f2, f3⟩ := hfin.out
        clear hPF hHeld hS17 hz17 h9 hC9 hB17 hfin
        go_wp2_with fail
        refine bodyPost_ret (v := .agg (parD alg op key iv aad p7 c7 p11 c11 p15 c15).toArray) (results_cell_row (P := Tryz.prog) (p := 2) (ty := tPar) rfl _ _ (w.heap.size + 1) tPar _ (0, 0) _ rfl f1 Tryz.underlying31 rfl sizePar) rfl ⟨p7, c7, p11, c11, p15, c15, rfl, f2, f3⟩
    ·
      refine wantIt rfl (wp_build_nil (.some 15) rfl rfl ?_)
      intro g12 w12 hB12
      have h12 := hS.trans (hB12.mono hS.size)
      try have hr7 := hr7.below hB12
      try have hr11 := hr11.below hB12
      refine hKC.out _ _ (h12) (fun hHeld => ?_)
      clear hKC KC
      try simp only [Act.put, List.setIfInBounds_toArray, List.set_cons_zero, List.set_cons_succ]
      have hS := hHeld (by kernel_rfl)
      refine tkW (rs := [7, 8]) (by kernel_rfl) (by simp) (AllK.cons (o := _) rfl (fun KC hKC => ?_) (AllK.cons (o := _) rfl (fun KC hKC => ?_) AllK.nil))
      ·
        refine wantIt rfl (wp_append_lit (.some 10) rfl (.tmp 7) (.tmp 9) rfl g4 rfl pk key.length ck key rfl (HP.out.rk.below hS) rfl (by omega) ?_)
        intro p7 c7 w7 hc7 hr7 hB7 hf7
        have hf7 := hid (fun (hp : 0 < key.length) => (show Off [w.heap.size + 1] p7 from fun a e => by have := hf7 hp a e; have := hS.size; have := hsz1.out; simp; omega))
        have h7 := hS.trans (hB7.mono hS.size)
        refine hKC.out _ _ (h7) (fun hHeld => ?_)
        clear hKC KC
        try simp only [Act.put, List.setIfInBounds_toArray, List.set_cons_zero, List.set_cons_succ]
        have hS := hHeld (by kernel_rfl)
        refine tkW (rs := [8]) (by kernel_rfl) (by simp) (AllK.cons (o := _) rfl (fun KC hKC => ?_) AllK.nil)
        refine wantIt rfl (wp_build_nil (.some 11) rfl rfl ?_)
        intro g8 w8 hB8
        have h8 := hS.trans (hB8.mono hS.size)
        try have hr7 := hr7.below hB8
        try have hr11 := hr11.below hB8
        refine hKC.out _ _ (h8) (fun hHeld => ?_)
        clear hKC KC
        try simp only [Act.put, List.setIfInBounds_toArray, List.set_cons_zero, List.set_cons_succ]
        have hS := hHeld (by kernel_rfl)
        refine tkW (rs := [11]) (by kernel_rfl) (by simp) (AllK.cons (o := _) rfl (fun KC hKC => ?_) AllK.nil)
        refine wantIt rfl (wp_append_lit (.some 14) rfl (.tmp 11) (.tmp 13) rfl g8 rfl pv iv.length cv iv rfl (HP.out.rv.below hS) rfl (by omega) ?_)
        intro p11 c11 w11 hc11 hr11 hB11 hf11
        have hf11 := hid (fun (hp : 0 < iv.length) => (show Off [w.heap.size + 1] p11 from fun a e => by have := hf11 hp a e; have := hS.size; have := hsz1.out; simp; omega))
        have h11 := hS.trans (hB11.mono hS.size)
        try have hr7 := hr7.below hB11
        refine hKC.out _ _ (h11) (fun hHeld => ?_)
        clear hKC KC
        try simp only [Act.put, List.setIfInBounds_toArray, List.set_cons_zero, List.set_cons_succ]
        have hS := hHeld (by kernel_rfl)
        refine tkW (rs := [15]) (by kernel_rfl) (by simp) (AllK.cons (o := _) rfl (fun KC hKC => ?_) AllK.nil)
        refine wantIt rfl (wp_append_lit (.some 18) rfl (.tmp 15) (.tmp 17) rfl g12 rfl pa aad.length ca aad rfl (HP.out.ra.below hS) rfl (by omega) ?_)
        intro p15 c15 w15 hc15 hr15 hB15 hf15
        have hf15 := hid (fun (hp : 0 < aad.length) => (show Off [w.heap.size + 1] p15 from fun a e => by have := hf15 hp a e; have := hS.size; have := hsz1.out; simp; omega))
        have h15 := hS.trans (hB15.mono hS.size)
        try have hr7 := hr7.below hB15
        try have hr11 := hr11.below hB15
        refine hKC.out _ _ (h15) (fun hHeld => ?_)
        clear hKC KC
        try simp only [Act.put, List.setIfInBounds_toArray, List.set_cons_zero, List.set_cons_succ]
        refine tkB 16 (.some 19) _ _ rfl rfl (by kernel_rfl) (by kernel_rfl) (by kernel_rfl) (by kernel_rfl) hPF rfl (fun w' => by (go_simp; try with_reducible rfl)) hHeld (fun hHeld => ?_)
        simp only [Act.put, List.setIfInBounds_toArray, List.set_cons_zero, List.set_cons_succ]
        refine tkW (rs := [17]) (by kernel_rfl) (by simp) (AllK.close (o := _) rfl (by kernel_rfl) (fun KC hKC => ?_) AllK.nil)
        have hS17 := hHeld (by kernel_rfl)
        have hz17 := HZ.out.below hS17 HZ.out.lt
        refine wantIt rfl (wp_storeD .none rfl tPar (.tmp 2) (.tmp 19) rfl (w.heap.size + 1) 0 (parD alg op key iv aad p7 c7 p11 c11 p15 c15).toArray rfl rfl (hz17.there 0 5 (Nat.le_refl _)) sizePar (parC_one _ _ _ _ _ _ _ _ _ _ _) ?_)
        refine hKC.out _ _ (fun hHeld => ?_)
        clear hKC KC
        try simp only [Act.put]
        refine tkD (by kernel_rfl) ?_ _
        obtain ⟨h9, hC9⟩ := setWhole hz17 (new := parD alg op key iv aad p7 c7 p11 c11 p15 c15) rfl
        have hB17 := (HBel.out.trans (hS17.mono HBel.out.size)).trans (hC9.below (M := w.heap.size) (by have := HBel.out.size; have := hS17.size; omega) (fun k hk => by simp at hk; omega))
        have hfin := hid (And.intro h9 (And.intro (show ParAt (w15.setCells (w.heap.size + 1) 0 (parD alg op key iv aad p7 c7 p11 c11 p15 c15)) op key iv aad p7 c7 p11 c11 p15 c15 from
          ⟨hr7.chg2 hC9 (Nat.le_refl _) hf7.out, hr11.chg2 hC9 (Nat.le_refl _) hf11.out, hr15.chg2 hC9 (Nat.le_refl _) hf15.out, hc7, hc11, hc15, hla⟩) hB17))
        change Exit.then _ _ _ _ (w15.setCells (w.heap.size + 1) 0 (parD alg op key iv aad p7 c7 p11 c11 p15 c15))
        generalize w15.setCells (w.heap.size + 1) 0 (parD alg op key iv aad p7 c7 p11 c11 p15 c15) = w17 at *
        obtain ⟨f1, f2, f3⟩ := hfin.out
        clear hPF hHeld hS17 hz17 h9 hC9 hB17 hfin
        go_wp2_with fail
        refine bodyPost_ret (v := .agg (parD alg op key iv aad p7 c7 p11 c11 p15 c15).toArray) (results_cell_row (P := Tryz.prog) (p := 2) (ty := tPar) rfl _ _ (w.heap.size + 1) tPar _ (0, 0) _ rfl f1 Tryz.underlying31 rfl sizePar) rfl ⟨p7, c7, p11, c11, p15, c15, rfl, f2, f3⟩
      ·
        refine wantIt rfl (wp_build_nil (.some 11) rfl rfl ?_)
        intro g8 w8 hB8
        have h8 := hS.trans (hB8.mono hS.size)
        try have hr7 := hr7.below hB8
        try have hr11 := hr11.below hB8
        refine hKC.out _ _ (h8) (fun hHeld => ?_)
        clear hKC KC
        try simp only [Act.put, List.setIfInBounds_toArray, List.set_cons_zero, List.set_cons_succ]
        have hS := hHeld (by kernel_rfl)
        refine tkW (rs := [7]) (by kernel_rfl) (by simp) (AllK.cons (o := _) rfl (fun KC hKC => ?_) AllK.nil)
        refine wantIt rfl (wp_append_lit (.some 10) rfl (.tmp 7) (.tmp 9) rfl g4 rfl pk key.length ck key rfl (HP.out.rk.below hS) rfl (by omega) ?_)
        intro p7 c7 w7 hc7 hr7 hB7 hf7
        have hf7 := hid (fun (hp : 0 < key.length) => (show Off [w.heap.size + 1] p7 from fun a e => by have := hf7 hp a e; have := hS.size; have := hsz1.out; simp; omega))
        have h7 := hS.trans (hB7.mono hS.size)
        refine hKC.out _ _ (h7) (fun hHeld => ?_)
        clear hKC KC
        try simp only [Act.put, List.setIfInBounds_toArray, List.set_cons_zero, List.set_cons_succ]
        have hS := hHeld (by kernel_rfl)
        refine tkW (rs := [11]) (by kernel_rfl) (by simp) (AllK.cons (o := _) rfl (fun KC hKC => ?_) AllK.nil)
        refine wantIt rfl (wp_append_lit (.some 14) rfl (.tmp 11) (.tmp 13) rfl g8 rfl pv iv.length cv iv rfl (HP.out.rv.below hS) rfl (by omega) ?_)
        intro p11 c11 w11 hc11 hr11 hB11 hf11
        have hf11 := hid (fun (hp : 0 < iv.length) => (show Off [w.heap.size + 1] p11 from fun a e => by have := hf11 hp a e; have := hS.size; have := hsz1.out; simp; omega))
        have h11 := hS.trans (hB11.mono hS.size)
        try have hr7 := hr7.below hB11
        refine hKC.out _ _ (h11) (fun hHeld => ?_)
        clear hKC KC
        try simp only [Act.put, List.setIfInBounds_toArray, List.set_cons_zero, List.set_cons_succ]
        have hS := hHeld (by kernel_rfl)
        refine tkW (rs := [15]) (by kernel_rfl) (by simp) (AllK.cons (o := _) rfl (fun KC hKC => ?_) AllK.nil)
        refine wantIt rfl (wp_append_lit (.some 18) rfl (.tmp 15) (.tmp 17) rfl g12 rfl pa aad.length ca aad rfl (HP.out.ra.below hS) rfl (by omega) ?_)
        intro p15 c15 w15 hc15 hr15 hB15 hf15
        have hf15 := hid (fun (hp : 0 < aad.length) => (show Off [w.heap.size + 1] p15 from fun a e => by have := hf15 hp a e; have := hS.size; have := hsz1.out; simp; omega))
        have h15 := hS.trans (hB15.mono hS.size)
        try have hr7 := hr7.below hB15
        try have hr11 := hr11.below hB15
        refine hKC.out _ _ (h15) (fun hHeld => ?_)
        clear hKC KC
        try simp only [Act.put, List.setIfInBounds_toArray, List.set_cons_zero, List.set_cons_succ]
        refine tkB 16 (.some 19) _ _ rfl rfl (by kernel_rfl) (by kernel_rfl) (by kernel_rfl) (by kernel_rfl) hPF rfl (fun w' => by (go_simp; try with_reducible rfl)) hHeld (fun hHeld => ?_)
        simp only [Act.put, List.setIfInBounds_toArray, List.set_cons_zero, List.set_cons_succ]
        refine tkW (rs := [17]) (by kernel_rfl) (by simp) (AllK.close (o := _) rfl (by kernel_rfl) (fun KC hKC => ?_) AllK.nil)
        have hS17 := hHeld (by kernel_rfl)
        have hz17 := HZ.out.below hS17 HZ.out.lt
        refine wantIt rfl (wp_storeD .none rfl tPar (.tmp 2) (.tmp 19) rfl (w.heap.size + 1) 0 (parD alg op key iv aad p7 c7 p11 c11 p15 c15).toArray rfl rfl (hz17.there 0 5 (Nat.le_refl _)) sizePar (parC_one _ _ _ _ _ _ _ _ _ _ _) ?_)
        refine hKC.out _ _ (fun hHeld => ?_)
        clear hKC KC
        try simp only [Act.put]
        refine tkD (by kernel_rfl) ?_ _
        obtain ⟨h9, hC9⟩ := setWhole hz17 (new := parD alg op key iv aad p7 c7 p11 c11 p15 c15) rfl
        have hB17 := (HBel.out.trans (hS17.mono HBel.out.size)).trans (hC9.below (M := w.heap.size) (by have := HBel.out.size; have := hS17.size; omega) (fun k hk => by simp at hk; omega))
        have hfin := hid (And.intro h9 (And.intro (show ParAt (w15.setCells (w.heap.size + 1) 0 (parD alg op key iv aad p7 c7 p11 c11 p15 c15)) op key iv aad p7 c7 p11 c11 p15 c15 from
          ⟨hr7.chg2 hC9 (Nat.le_refl _) hf7.out, hr11.chg2 hC9 (Nat.le_refl _) hf11.out, hr15.chg2 hC9 (Nat.le_refl _) hf15.out, hc7, hc11, hc15, hla⟩) hB17))
        change Exit.then _ _ _ _ (w15.setCells (w.heap.size + 1) 0 (parD alg op key iv aad p7 c7 p11 c11 p15 c15))
        generalize w15.setCells (w.heap.size + 1) 0 (parD alg op key iv aad p7 c7 p11 c11 p15 c15) = w17 at *
        obtain ⟨f1, f2, f3⟩ := hfin.out
        clear hPF hHeld hS17 hz17 h9 hC9 hB17 hfin
        go_wp2_with fail
        refine bodyPost_ret (v := .agg (parD alg op key iv aad p7 c7 p11 c11 p15 c15).toArray) (results_cell_row (P := Tryz.prog) (p := 2) (ty := tPar) rfl _ _ (w.heap.size + 1) tPar _ (0, 0) _ rfl f1 Tryz.underlying31 rfl sizePar) rfl ⟨p7, c7, p11, c11, p15, c15, rfl, f2, f3⟩
  ·
    refine wantIt rfl (wp_build_nil (.some 11) rfl rfl ?_)
    intro g8 w8 hB8
    have h8 := hS.trans (hB8.mono hS.size)
    try have hr7 := hr7.below hB8
    try have hr11 := hr11.below hB8
    refine hKC.out _ _ (h8) (fun hHeld => ?_)
    clear hKC KC
    try simp only [Act.put, List.setIfInBounds_toArray, List.set_cons_zero, List.set_cons_succ]
    have hS := hHeld (by kernel_rfl)
    refine tkW (rs := [4, 12]) (by kernel_rfl) (by simp) (AllK.cons (o := _) rfl (fun KC hKC => ?_) (AllK.cons (o := _) rfl (fun KC hKC => ?_) AllK.nil))
    ·
      refine wantIt rfl (wp_build_nil (.some 7) rfl rfl ?_)
      intro g4 w4 hB4
      have h4 := hS.trans (hB4.mono hS.size)
      try have hr7 := hr7.below hB4
      try have hr11 := hr11.below hB4
      refine hKC.out _ _ (h4) (fun hHeld => ?_)
      clear hKC KC
      try simp only [Act.put, List.setIfInBounds_toArray, List.set_cons_zero, List.set_cons_succ]
      have hS := hHeld (by kernel_rfl)
      refine tkW (rs := [7, 12]) (by kernel_rfl) (by simp) (AllK.cons (o := _) rfl (fun KC hKC => ?_) (AllK.cons (o := _) rfl (fun KC hKC => ?_) AllK.nil))
      ·
        refine wantIt rfl (wp_append_lit (.some 10) rfl (.tmp 7) (.tmp 9) rfl g4 rfl pk key.length ck key rfl (HP.out.rk.below hS) rfl (by omega) ?_)
        intro p7 c7 w7 hc7 hr7 hB7 hf7
        have hf7 := hid (fun (hp : 0 < key.length) => (show Off [w.heap.size + 1] p7 from fun a e => by have := hf7 hp a e; have := hS.size; have := hsz1.out; simp; omega))
        have h7 := hS.trans (hB7.mono hS.size)
        refine hKC.out _ _ (h7) (fun hHeld => ?_)
        clear hKC KC
        try simp only [Act.put, List.setIfInBounds_toArray, List.set_cons_zero, List.set_cons_succ]
        have hS := hHeld (by kernel_rfl)
        refine tkW (rs := [11, 12]) (by kernel_rfl) (by simp) (AllK.cons (o := _) rfl (fun KC hKC => ?_) (AllK.cons (o := _) rfl (fun KC hKC => ?_) AllK.nil))
        ·
          refine wantIt rfl (wp_append_lit (.some 14) rfl (.tmp 11) (.tmp 13) rfl g8 rfl pv iv.length cv iv rfl (HP.out.rv.below hS) rfl (by omega) ?_)
          intro p11 c11 w11 hc11 hr11 hB11 hf11
          have hf11 := hid (fun (hp : 0 < iv.length) => (show Off [w.heap.size + 1] p11 from fun a e => by have := hf11 hp a e; have := hS.size; have := hsz1.out; simp; omega))
          have h11 := hS.trans (hB11.mono hS.size)
          try have hr7 := hr7.below hB11
          refine hKC.out _ _ (h11) (fun hHeld => ?_)
          clear hKC KC
          try simp only [Act.put, List.setIfInBounds_toArray, List.set_cons_zero, List.set_cons_succ]
          have hS := hHeld (by kernel_rfl)
          refine tkW (rs := [12]) (by kernel_rfl) (by simp) (AllK.cons (o := _) rfl (fun KC hKC => ?_) AllK.nil)
          refine wantIt rfl (wp_build_nil (.some 15) rfl rfl ?_)
          intro g12 w12 hB12
          have h12 := hS.trans (hB12.mono hS.size)
          try have hr7 := hr7.below hB12
          try have hr11 := hr11.below hB12
          refine hKC.out _ _ (h12) (fun hHeld => ?_)
          clear hKC KC
          try simp only [Act.put, List.setIfInBounds_toArray, List.set_cons_zero, List.set_cons_succ]
          have hS := hHeld (by kernel_rfl)
          refine tkW (rs := [15]) (by kernel_rfl) (by simp) (AllK.cons (o := _) rfl (fun KC hKC => ?_) AllK.nil)
          refine wantIt rfl (wp_append_lit (.some 18) rfl (.tmp 15) (.tmp 17) rfl g12 rfl pa aad.length ca aad rfl (HP.out.ra.below hS) rfl (by omega) ?_)
          intro p15 c15 w15 hc15 hr15 hB15 hf15
          have hf15 := hid (fun (hp : 0 < aad.length) => (show Off [w.heap.size + 1] p15 from fun a e => by have := hf15 hp a e; have := hS.size; have := hsz1.out; simp; omega))
          have h15 := hS.trans (hB15.mono hS.size)
          try have hr7 := hr7.below hB15
          try have hr11 := hr11.below hB15
          refine hKC.out _ _ (h15) (fun hHeld => ?_)
          clear hKC KC
          try simp only [Act.put, List.setIfInBounds_toArray, List.set_cons_zero, List.set_cons_succ]
          refine tkB 16 (.some 19) _ _ rfl rfl (by kernel_rfl) (by kernel_rfl) (by kernel_rfl) (by kernel_rfl) hPF rfl (fun w' => by (go_simp; try with_reducible rfl)) hHeld (fun hHeld => ?_)
          simp only [Act.put, List.setIfInBounds_toArray, List.set_cons_zero, List.set_cons_succ]
          refine tkW (rs := [17]) (by kernel_rfl) (by simp) (AllK.close (o := _) rfl (by kernel_rfl) (fun KC hKC => ?_) AllK.nil)
          have hS17 := hHeld (by kernel_rfl)
          have hz17 := HZ.out.below hS17 HZ.out.lt
          refine wantIt rfl (wp_storeD .none rfl tPar (.tmp 2) (.tmp 19) rfl (w.heap.size + 1) 0 (parD alg op key iv aad p7 c7 p11 c11 p15 c15).toArray rfl rfl (hz17.there 0 5 (Nat.le_refl _)) sizePar (parC_one _ _ _ _ _ _ _ _ _ _ _) ?_)
          refine hKC.out _ _ (fun hHeld => ?_)
          clear hKC KC
          try simp only [Act.put]
          refine tkD (by kernel_rfl) ?_ _
          obtain ⟨h9, hC9⟩ := setWhole hz17 (new := parD alg op key iv aad p7 c7 p11 c11 p15 c15) rfl
          have hB17 := (HBel.out.trans (hS17.mono HBel.out.size)).trans (hC9.below (M := w.heap.size) (by have := HBel.out.size; have := hS17.size; omega) (fun k hk => by simp at hk; omega))
          have hfin := hid (And.intro h9 (And.intro (show ParAt (w15.setCells (w.heap.size + 1) 0 (parD alg op key iv aad p7 c7 p11 c11 p15 c15)) op key iv aad p7 c7 p11 c11 p15 c15 from
            ⟨hr7.chg2 hC9 (Nat.le_refl _) hf7.out, hr11.chg2 hC9 (Nat.le_refl _) hf11.out, hr15.chg2 hC9 (Nat.le_refl _) hf15.out, hc7, hc11, hc15, hla⟩) hB17))
          change Exit.then _ _ _ _ (w15.setCells (w.heap.size + 1) 0 (parD alg op key iv aad p7 c7 p11 c11 p15 c15))
          generalize w15.setCells (w.heap.size + 1) 0 (parD alg op key iv aad p7 c7 p11 c11 p15 c15) = w17 at *
          obtain ⟨f1, f2, f3⟩ := hfin.out
          clear hPF hHeld hS17 hz17 h9 hC9 hB17 hfin
          go_wp2_with fail
          refine bodyPost_ret (v := .agg (parD alg op key iv aad p7 c7 p11 c11 p15 c15).toArray) (results_cell_row (P := Tryz.prog) (p := 2) (ty := tPar) rfl _ _ (w.heap.size + 1) tPar _ (0, 0) _ rfl f1 Tryz.underlying31 rfl sizePar) rfl ⟨p7, c7, p11, c11, p15, c15, rfl, f2, f3⟩
        ·
          refine wantIt rfl (wp_build_nil (.some 15) rfl rfl ?_)
          intro g12 w12 hB12
          have h12 := hS.trans (hB12.mono hS.size)
          try have hr7 := hr7.below hB12
          try have hr11 := hr11.below hB12
          refine hKC.out _ _ (h12) (fun hHeld => ?_)
          clear hKC KC
          try simp only [Act.put, List.setIfInBounds_toArray, List.set_cons_zero, List.set_cons_succ]
          have hS := hHeld (by kernel_rfl)
          refine tkW (rs := [11]) (by kernel_rfl) (by simp) (AllK.cons (o := _) rfl (fun KC hKC => ?_) AllK.nil)
          refine wantIt rfl (wp_append_lit (.some 14) rfl (.tmp 11) (.tmp 13) rfl g8 rfl pv iv.length cv iv rfl (HP.out.rv.below hS) rfl (by omega) ?_)
          intro p11 c11 w11 hc11 hr11 hB11 hf11
          have hf11 := hid (fun (hp : 0 < iv.length) => (show Off [w.heap.size + 1] p11 from fun a e => by have := hf11 hp a e; have := hS.size; have := hsz1.out; simp; omega))
          have h11 := hS.trans (hB11.mono hS.size)
          try have hr7 := hr7.below hB11
          refine hKC.out _ _ (h11) (fun hHeld => ?_)
          clear hKC KC
          try simp only [Act.put, List.setIfInBounds_toArray, List.set_cons_zero, List.set_cons_succ]
          have hS := hHeld (by kernel_rfl)
          refine tkW (rs := [15]) (by kernel_rfl) (by simp) (AllK.cons (o := _) rfl (fun KC hKC => ?_) AllK.nil)
          refine wantIt rfl (wp_append_lit (.some 18) rfl (.tmp 15) (.tmp 17) rfl g12 rfl pa aad.length ca aad rfl (HP.out.ra.below hS) rfl (by omega) ?_)
          intro p15 c15 w15 hc15 hr15 hB15 hf15
          have hf15 := hid (fun (hp : 0 < aad.length) => (show Off [w.heap.size + 1] p15 from fun a e => by have := hf15 hp a e; have := hS.size; have := hsz1.out; simp; omega))
          have h15 := hS.trans (hB15.mono hS.size)
          try have hr7 := hr7.below hB15
          try have hr11 := hr11.below hB15
          refine hKC.out _ _ (h15) (fun hHeld => ?_)
          clear hKC KC
          try simp only [Act.put, List.setIfInBounds_toArray, List.set_cons_zero, List.set_cons_succ]
          refine tkB 16 (.some 19) _ _ rfl rfl (by kernel_rfl) (by kernel_rfl) (by kernel_rfl) (by kernel_rfl) hPF rfl (fun w' => by (go_simp; try with_reducible rfl)) hHeld (fun hHeld => ?_)
          simp only [Act.put, List.setIfInBounds_toArray, List.set_cons_zero, List.set_cons_succ]
          refine tkW (rs := [17]) (by kernel_rfl) (by simp) (AllK.close (o := _) rfl (by kernel_rfl) (fun KC hKC => ?_) AllK.nil)
          have hS17 := hHeld (by kernel_rfl)
          have hz17 := HZ.out.below hS17 HZ.out.lt
          refine wantIt rfl (wp_storeD .none rfl tPar (.tmp 2) (.tmp 19) rfl (w.heap.size + 1) 0 (parD alg op key iv aad p7 c7 p11 c11 p15 c15).toArray rfl rfl (hz17.there 0 5 (Nat.le_refl _)) sizePar (parC_one _ _ _ _ _ _ _ _ _ _ _) ?_)
          refine hKC.out _ _ (fun hHeld => ?_)
          clear hKC KC
          try simp only [Act.put]
          refine tkD (by kernel_rfl) ?_ _
          obtain ⟨h9, hC9⟩ := setWhole hz17 (new := parD alg op key iv aad p7 c7 p11 c11 p15 c15) rfl
          have hB17 := (HBel.out.trans (hS17.mono HBel.out.size)).trans (hC9.below (M := w.heap.size) (by have := HBel.out.size; have := hS17.size; omega) (fun k hk => by simp at hk; omega))
          have hfin := hid (And.intro h9 (And.intro (show ParAt (w15.setCells (w.heap.size + 1) 0 (parD alg op key iv aad p7 c7 p11 c11 p15 c15)) op key iv aad p7 c7 p11 c11 p15 c15 from
            ⟨hr7.chg2 hC9 (Nat.le_refl _) hf7.out, hr11.chg2 hC9 (Nat.le_refl _) hf11.out, hr15.chg2 hC9 (Nat.le_refl _) hf15.out, hc7, hc11, hc15, hla⟩) hB17))
          change Exit.then _ _ _ _ (w15.setCells (w.heap.size + 1) 0 (parD alg op key iv aad p7 c7 p11 c11 p15 c15))
          generalize w15.setCells (w.heap.size + 1) 0 (parD alg op key iv aad p7 c7 p11 c11 p15 c15) = w17 at *
          obtain ⟨f1, f2, f3⟩ := hfin.out
          clear hPF hHeld hS17 hz17 h9 hC9 hB17 hfin
          go_wp2_with fail
          refine bodyPost_ret (v := .agg (parD alg op key iv aad p7 c7 p11 c11 p15 c15).toArray) (results_cell_row (P := Tryz.prog) (p := 2) (ty := tPar) rfl _ _ (w.heap.size + 1) tPar _ (0, 0) _ rfl f1 Tryz.underlying31 rfl sizePar) rfl ⟨p7, c7, p11, c11, p15, c15, rfl, f2, f3⟩
      ·
        refine wantIt rfl (wp_build_nil (.some 15) rfl rfl ?_)
        intro g12 w12 hB12
        have h12 := hS.trans (hB12.mono hS.size)
        try have hr7 := hr7.below hB12
        try have hr11 := hr11.below hB12
        refine hKC.out _ _ (h12) (fun hHeld => ?_)
        clear hKC KC
        try simp only [Act.put, List.setIfInBounds_toArray, List.set_cons_zero, List.set_cons_succ]
        have hS := hHeld (by kernel_rfl)
        refine tkW (rs := [7]) (by kernel_rfl) (by simp) (AllK.cons (o := _) rfl (fun KC hKC => ?_) AllK.nil)
        refine wantIt rfl (wp_append_lit (.some 10) rfl (.tmp 7) (.tmp 9) rfl g4 rfl pk key.length ck key rfl (HP.out.rk.below hS) rfl (by omega) ?_)
        intro p7 c7 w7 hc7 hr7 hB7 hf7
        have hf7 := hid (fun (hp : 0 < key.length) => (show Off [w.heap.size + 1] p7 from fun a e => by have := hf7 hp a e; have := hS.size; have := hsz1.out; simp; omega))
        have h7 := hS.trans (hB7.mono hS.size)
        refine hKC.out _ _ (h7) (fun hHeld => ?_)
        clear hKC KC
        try simp only [Act.put, List.setIfInBounds_toArray, List.set_cons_zero, List.set_cons_succ]
        have hS := hHeld (by kernel_rfl)
        refine tkW (rs := [11]) (by kernel_rfl) (by simp) (AllK.cons (o := _) rfl (fun KC hKC => ?_) AllK.nil)
        refine wantIt rfl (wp_append_lit (.some 14) rfl (.tmp 11) (.tmp 13) rfl g8 rfl pv iv.length cv iv rfl (HP.out.rv.below hS) rfl (by omega) ?_)
        intro p11 c11 w11 hc11 hr11 hB11 hf11
        have hf11 := hid (fun (hp : 0 < iv.length) => (show Off [w.heap.size + 1] p11 from fun a e => by have := hf11 hp a e; have := hS.size; have := hsz1.out; simp; omega))
        have h11 := hS.trans (hB11.mono hS.size)
        try have hr7 := hr7.below hB11
        refine hKC.out _ _ (h11) (fun hHeld => ?_)
        clear hKC KC
        try simp only [Act.put, List.setIfInBounds_toArray, List.set_cons_zero, List.set_cons_succ]
        have hS := hHeld (by kernel_rfl)
        refine tkW (rs := [15]) (by kernel_rfl) (by simp) (AllK.cons (o := _) rfl (fun KC hKC => ?_) AllK.nil)
        refine wantIt rfl (wp_append_lit (.some 18) rfl (.tmp 15) (.tmp 17) rfl g12 rfl pa aad.length ca aad rfl (HP.out.ra.below hS) rfl (by omega) ?_)
        intro p15 c15 w15 hc15 hr15 hB15 hf15
        have hf15 := hid (fun (hp : 0 < aad.length) => (show Off [w.heap.size + 1] p15 from fun a e => by have := hf15 hp a e; have := hS.size; have := hsz1.out; simp; omega))
        have h15 := hS.trans (hB15.mono hS.size)
        try have hr7 := hr7.below hB15
        try have hr11 := hr11.below hB15
        refine hKC.out _ _ (h15) (fun hHeld => ?_)
        clear hKC KC
        try simp only [Act.put, List.setIfInBounds_toArray, List.set_cons_zero, List.set_cons_succ]
        refine tkB 16 (.some 19) _ _ rfl rfl (by kernel_rfl) (by kernel_rfl) (by kernel_rfl) (by kernel_rfl) hPF rfl (fun w' => by (go_simp; try with_reducible rfl)) hHeld (fun hHeld => ?_)
        simp only [Act.put, List.setIfInBounds_toArray, List.set_cons_zero, List.set_cons_succ]
        refine tkW (rs := [17]) (by kernel_rfl) (by simp) (AllK.close (o := _) rfl (by kernel_rfl) (fun KC hKC => ?_) AllK.nil)
        have hS17 := hHeld (by kernel_rfl)
        have hz17 := HZ.out.below hS17 HZ.out.lt
        refine wantIt rfl (wp_storeD .none rfl tPar (.tmp 2) (.tmp 19) rfl (w.heap.size + 1) 0 (parD alg op key iv aad p7 c7 p11 c11 p15 c15).toArray rfl rfl (hz17.there 0 5 (Nat.le_refl _)) sizePar (parC_one _ _ _ _ _ _ _ _ _ _ _) ?_)
        refine hKC.out _ _ (fun hHeld => ?_)
        clear hKC KC
        try simp only [Act.put]
        refine tkD (by kernel_rfl) ?_ _
        obtain ⟨h9, hC9⟩ := setWhole hz17 (new := parD alg op key iv aad p7 c7 p11 c11 p15 c15) rfl
        have hB17 := (HBel.out.trans (hS17.mono HBel.out.size)).trans (hC9.below (M := w.heap.size) (by have := HBel.out.size; have := hS17.size; omega) (fun k hk => by simp at hk; omega))
        have hfin := hid (And.intro h9 (And.intro (show ParAt (w15.setCells (w.heap.size + 1) 0 (parD alg op key iv aad p7 c7 p11 c11 p15 c15)) op key iv aad p7 c7 p11 c11 p15 c15 from
          ⟨hr7.chg2 hC9 (Nat.le_refl _) hf7.out, hr11.chg2 hC9 (Nat.le_refl _) hf11.out, hr15.chg2 hC9 (Nat.le_refl _) hf15.out, hc7, hc11, hc15, hla⟩) hB17))
        change Exit.then _ _ _ _ (w15.setCells (w.heap.size + 1) 0 (parD alg op key iv aad p7 c7 p11 c11 p15 c15))
        generalize w15.setCells (w.heap.size + 1) 0 (parD alg op key iv aad p7 c7 p11 c11 p15 c15) = w17 at *
        obtain ⟨f1, f2, f3⟩ := hfin.out
        clear hPF hHeld hS17 hz17 h9 hC9 hB17 hfin
        go_wp2_with fail
        refine bodyPost_ret (v := .agg (parD alg op key iv aad p7 c7 p11 c11 p15 c15).toArray) (results_cell_row (P := Tryz.prog) (p := 2) (ty := tPar) rfl _ _ (w.heap.size + 1) tPar _ (0, 0) _ rfl f1 Tryz.underlying31 rfl sizePar) rfl ⟨p7, c7, p11, c11, p15, c15, rfl, f2, f3⟩
    ·
      refine wantIt rfl (wp_build_nil (.some 15) rfl rfl ?_)
      intro g12 w12 hB12
      have h12 := hS.trans (hB12.mono hS.size)
      try have hr7 := hr7.below hB12
      try have hr11 := hr11.below hB12
      refine hKC.out _ _ (h12) (fun hHeld => ?_)
      clear hKC KC
      try simp only [Act.put, List.setIfInBounds_toArray, List.set_cons_zero, List.set_cons_succ]
      have hS := hHeld (by kernel_rfl)
      refine tkW (rs := [4]) (by kernel_rfl) (by simp) (AllK.cons (o := _) rfl (fun KC hKC => ?_) AllK.nil)
      refine wantIt rfl (wp_build_nil (.some 7) rfl rfl ?_)
      intro g4 w4 hB4
      have h4 := hS.trans (hB4.mono hS.size)
      try have hr7 := hr7.below hB4
      try have hr11 := hr11.below hB4
      refine hKC.out _ _ (h4) (fun hHeld => ?_)
      clear hKC KC
      try simp only [Act.put, List.setIfInBounds_toArray, List.set_cons_zero, List.set_cons_succ]
      have hS := hHeld (by kernel_rfl)
      refine tkW (rs := [7]) (by kernel_rfl) (by simp) (AllK.cons (o := _) rfl (fun KC hKC => ?_) AllK.nil)
      refine wantIt rfl (wp_append_lit (.some 10) rfl (.tmp 7) (.tmp 9) rfl g4 rfl pk key.length ck key rfl (HP.out.rk.below hS) rfl (by omega) ?_)
      intro p7 c7 w7 hc7 hr7 hB7 hf7
      have hf7 := hid (fun (hp : 0 < key.length) => (show Off [w.heap.size + 1] p7 from fun a e => by have := hf7 hp a e; have := hS.size; have := hsz1.out; simp; omega))
      have h7 := hS.trans (hB7.mono hS.size)
      refine hKC.out _ _ (h7) (fun hHeld => ?_)
      clear hKC KC
      try simp only [Act.put, List.setIfInBounds_toArray, List.set_cons_zero, List.set_cons_succ]
      have hS := hHeld (by kernel_rfl)
      refine tkW (rs := [11]) (by kernel_rfl) (by simp) (AllK.cons (o := _) rfl (fun KC hKC => ?_) AllK.nil)
      refine wantIt rfl (wp_append_lit (.some 14) rfl (.tmp 11) (.tmp 13) rfl g8 rfl pv iv.length cv iv rfl (HP.out.rv.below hS) rfl (by omega) ?_)
      intro p11 c11 w11 hc11 hr11 hB11 hf11
      have hf11 := hid (fun (hp : 0 < iv.length) => (show Off [w.heap.size + 1] p11 from fun a e => by have := hf11 hp a e; have := hS.size; have := hsz1.out; simp; omega))
      have h11 := hS.trans (hB11.mono hS.size)
      try have hr7 := hr7.below hB11
      refine hKC.out _ _ (h11) (fun hHeld => ?_)
      clear hKC KC
      try simp only [Act.put, List.setIfInBounds_toArray, List.set_cons_zero, List.set_cons_succ]
      have hS := hHeld (by kernel_rfl)
      refine tkW (rs := [15]) (by kernel_rfl) (by simp) (AllK.cons (o := _) rfl (fun KC hKC => ?_) AllK.nil)
      refine wantIt rfl (wp_append_lit (.some 18) rfl (.tmp 15) (.tmp 17) rfl g12 rfl pa aad.length ca aad rfl (HP.out.ra.below hS) rfl (by omega) ?_)
      intro p15 c15 w15 hc15 hr15 hB15 hf15
      have hf15 := hid (fun (hp : 0 < aad.length) => (show Off [w.heap.size + 1] p15 from fun a e => by have := hf15 hp a e; have := hS.size; have := hsz1.out; simp; omega))
      have h15 := hS.trans (hB15.mono hS.size)
      try have hr7 := hr7.below hB15
      try have hr11 := hr11.below hB15
      refine hKC.out _ _ (h15) (fun hHeld => ?_)
      clear hKC KC
      try simp only [Act.put, List.setIfInBounds_toArray, List.set_cons_zero, List.set_cons_succ]
      refine tkB 16 (.some 19) _ _ rfl rfl (by kernel_rfl) (by kernel_rfl) (by kernel_rfl) (by kernel_rfl) hPF rfl (fun w' => by (go_simp; try with_reducible rfl)) hHeld (fun hHeld => ?_)
      simp only [Act.put, List.setIfInBounds_toArray, List.set_cons_zero, List.set_cons_succ]
      refine tkW (rs := [17]) (by kernel_rfl) (by simp) (AllK.close (o := _) rfl (by kernel_rfl) (fun KC hKC => ?_) AllK.nil)
      have hS17 := hHeld (by kernel_rfl)
      have hz17 := HZ.out.below hS17 HZ.out.lt
      refine wantIt rfl (wp_storeD .none rfl tPar (.tmp 2) (.tmp 19) rfl (w.heap.size + 1) 0 (parD alg op key iv aad p7 c7 p11 c11 p15 c15).toArray rfl rfl (hz17.there 0 5 (Nat.le_refl _)) sizePar (parC_one _ _ _ _ _ _ _ _ _ _ _) ?_)
      refine hKC.out _ _ (fun hHeld => ?_)
      clear hKC KC
      try simp only [Act.put]
      refine tkD (by kernel_rfl) ?_ _
      obtain ⟨h9, hC9⟩ := setWhole hz17 (new := parD alg op key iv aad p7 c7 p11 c11 p15 c15) rfl
      have hB17 := (HBel.out.trans (hS17.mono HBel.out.size)).trans (hC9.below (M := w.heap.size) (by have := HBel.out.size; have := hS17.size; omega) (fun k hk => by simp at hk; omega))
      have hfin := hid (And.intro h9 (And.intro (show ParAt (w15.setCells (w.heap.size + 1) 0 (parD alg op key iv aad p7 c7 p11 c11 p15 c15)) op key iv aad p7 c7 p11 c11 p15 c15 from
        ⟨hr7.chg2 hC9 (Nat.le_refl _) hf7.out, hr11.chg2 hC9 (Nat.le_refl _) hf11.out, hr15.chg2 hC9 (Nat.le_refl _) hf15.out, hc7, hc11, hc15, hla⟩) hB17))
      change Exit.then _ _ _ _ (w15.setCells (w.heap.size + 1) 0 (parD alg op key iv aad p7 c7 p11 c11 p15 c15))
      generalize w15.setCells (w.heap.size + 1) 0 (parD alg op key iv aad p7 c7 p11 c11 p15 c15) = w17 at *
      obtain ⟨f1, f2, f3⟩ := hfin.out
      clear hPF hHeld hS17 hz17 h9 hC9 hB17 hfin
      go_wp2_with fail
      refine bodyPost_ret (v := .agg (parD alg op key iv aad p7 c7 p11 c11 p15 c15).toArray) (results_cell_row (P := Tryz.prog) (p := 2) (ty := tPar) rfl _ _ (w.heap.size + 1) tPar _ (0, 0) _ rfl f1 Tryz.underlying31 rfl sizePar) rfl ⟨p7, c7, p11, c11, p15, c15, rfl, f2, f3⟩
  ·
    refine wantIt rfl (wp_build_nil (.some 15) rfl rfl ?_)
    intro g12 w12 hB12
    have h12 := hS.trans (hB12.mono hS.size)
    try have hr7 := hr7.below hB12
    try have hr11 := hr11.below hB12
    refine hKC.out _ _ (h12) (fun hHeld => ?_)
    clear hKC KC
    try simp only [Act.put, List.setIfInBounds_toArray, List.set_cons_zero, List.set_cons_succ]
    have hS := hHeld (by kernel_rfl)
    refine tkW (rs := [4, 8]) (by kernel_rfl) (by simp) (AllK.cons (o := _) rfl (fun KC hKC => ?_) (AllK.cons (o := _) rfl (fun KC hKC => ?_) AllK.nil))
    ·
      refine wantIt rfl (wp_build_nil (.some 7) rfl rfl ?_)
      intro g4 w4 hB4
      have h4 := hS.trans (hB4.mono hS.size)
      try have hr7 := hr7.below hB4
      try have hr11 := hr11.below hB4
      refine hKC.out _ _ (h4) (fun hHeld => ?_)
      clear hKC KC
      try simp only [Act.put, List.setIfInBounds_toArray, List.set_cons_zero, List.set_cons_succ]
      have hS := hHeld (by kernel_rfl)
      refine tkW (rs := [7, 8]) (by kernel_rfl) (by simp) (AllK.cons (o := _) rfl (fun KC hKC => ?_) (AllK.cons (o := _) rfl (fun KC hKC => ?_) AllK.nil))
      ·
        refine wantIt rfl (wp_append_lit (.some 10) rfl (.tmp 7) (.tmp 9) rfl g4 rfl pk key.length ck key rfl (HP.out.rk.below hS) rfl (by omega) ?_)
        intro p7 c7 w7 hc7 hr7 hB7 hf7
        have hf7 := hid (fun (hp : 0 < key.length) => (show Off [w.heap.size + 1] p7 from fun a e => by have := hf7 hp a e; have := hS.size; have := hsz1.out; simp; omega))
        have h7 := hS.trans (hB7.mono hS.size)
        refine hKC.out _ _ (h7) (fun hHeld => ?_)
        clear hKC KC
        try simp only [Act.put, List.setIfInBounds_toArray, List.set_cons_zero, List.set_cons_succ]
        have hS := hHeld (by kernel_rfl)
        refine tkW (rs := [8]) (by kernel_rfl) (by simp) (AllK.cons (o := _) rfl (fun KC hKC => ?_) AllK.nil)
        refine wantIt rfl (wp_build_nil (.some 11) rfl rfl ?_)
        intro g8 w8 hB8
        have h8 := hS.trans (hB8.mono hS.size)
        try have hr7 := hr7.below hB8
        try have hr11 := hr11.below hB8
        refine hKC.out _ _ (h8) (fun hHeld => ?_)
        clear hKC KC
        try simp only [Act.put, List.setIfInBounds_toArray, List.set_cons_zero, List.set_cons_succ]
        have hS := hHeld (by kernel_rfl)
        refine tkW (rs := [11]) (by kernel_rfl) (by simp) (AllK.cons (o := _) rfl (fun KC hKC => ?_) AllK.nil)
        refine wantIt rfl (wp_append_lit (.some 14) rfl (.tmp 11) (.tmp 13) rfl g8 rfl pv iv.length cv iv rfl (HP.out.rv.below hS) rfl (by omega) ?_)
        intro p11 c11 w11 hc11 hr11 hB11 hf11
        have hf11 := hid (fun (hp : 0 < iv.length) => (show Off [w.heap.size + 1] p11 from fun a e => by have := hf11 hp a e; have := hS.size; have := hsz1.out; simp; omega))
        have h11 := hS.trans (hB11.mono hS.size)
        try have hr7 := hr7.below hB11
        refine hKC.out _ _ (h11) (fun hHeld => ?_)
        clear hKC KC
        try simp only [Act.put, List.setIfInBounds_toArray, List.set_cons_zero, List.set_cons_succ]
        have hS := hHeld (by kernel_rfl)
        refine tkW (rs := [15]) (by kernel_rfl) (by simp) (AllK.cons (o := _) rfl (fun KC hKC => ?_) AllK.nil)
        refine wantIt rfl (wp_append_lit (.some 18) rfl (.tmp 15) (.tmp 17) rfl g12 rfl pa aad.length ca aad rfl (HP.out.ra.below hS) rfl (by omega) ?_)
        intro p15 c15 w15 hc15 hr15 hB15 hf15
        have hf15 := hid (fun (hp : 0 < aad.length) => (show Off [w.heap.size + 1] p15 from fun a e => by have := hf15 hp a e; have := hS.size; have := hsz1.out; simp; omega))
        have h15 := hS.trans (hB15.mono hS.size)
        try have hr7 := hr7.below hB15
        try have hr11 := hr11.below hB15
        refine hKC.out _ _ (h15) (fun hHeld => ?_)
        clear hKC KC
        try simp only [Act.put, List.setIfInBounds_toArray, List.set_cons_zero, List.set_cons_succ]
        refine tkB 16 (.some 19) _ _ rfl rfl (by kernel_rfl) (by kernel_rfl) (by kernel_rfl) (by kernel_rfl) hPF rfl (fun w' => by (go_simp; try with_reducible rfl)) hHeld (fun hHeld => ?_)
        simp only [Act.put, List.setIfInBounds_toArray, List.set_cons_zero, List.set_cons_succ]
        refine tkW (rs := [17]) (by kernel_rfl) (by simp) (AllK.close (o := _) rfl (by kernel_rfl) (fun KC hKC => ?_) AllK.nil)
        have hS17 := hHeld (by kernel_rfl)
        have hz17 := HZ.out.below hS17 HZ.out.lt
        refine wantIt rfl (wp_storeD .none rfl tPar (.tmp 2) (.tmp 19) rfl (w.heap.size + 1) 0 (parD alg op key iv aad p7 c7 p11 c11 p15 c15).toArray rfl rfl (hz17.there 0 5 (Nat.le_refl _)) sizePar (parC_one _ _ _ _ _ _ _ _ _ _ _) ?_)
        refine hKC.out _ _ (fun hHeld => ?_)
        clear hKC KC
        try simp only [Act.put]
        refine tkD (by kernel_rfl) ?_ _
        obtain ⟨h9, hC9⟩ := setWhole hz17 (new := parD alg op key iv aad p7 c7 p11 c11 p15 c15) rfl
        have hB17 := (HBel.out.trans (hS17.mono HBel.out.size)).trans (hC9.below (M := w.heap.size) (by have := HBel.out.size; have := hS17.size; omega) (fun k hk => by simp at hk; omega))
        have hfin := hid (And.intro h9 (And.intro (show ParAt (w15.setCells (w.heap.size + 1) 0 (parD alg op key iv aad p7 c7 p11 c11 p15 c15)) op key iv aad p7 c7 p11 c11 p15 c15 from
          ⟨hr7.chg2 hC9 (Nat.le_refl _) hf7.out, hr11.chg2 hC9 (Nat.le_refl _) hf11.out, hr15.chg2 hC9 (Nat.le_refl _) hf15.out, hc7, hc11, hc15, hla⟩) hB17))
        change Exit.then _ _ _ _ (w15.setCells (w.heap.size + 1) 0 (parD alg op key iv aad p7 c7 p11 c11 p15 c15))
        generalize w15.setCells (w.heap.size + 1) 0 (parD alg op key iv aad p7 c7 p11 c11 p15 c15) = w17 at *
        obtain ⟨f1, f2, f3⟩ := hfin.out
        clear hPF hHeld hS17 hz17 h9 hC9 hB17 hfin
        go_wp2_with fail
        refine bodyPost_ret (v := .agg (parD alg op key iv aad p7 c7 p11 c11 p15 c15).toArray) (results_cell_row (P := Tryz.prog) (p := 2) (ty := tPar) rfl _ _ (w.heap.size + 1) tPar _ (0, 0) _ rfl f1 Tryz.underlying31 rfl sizePar) rfl ⟨p7, c7, p11, c11, p15, c15, rfl, f2, f3⟩
      ·
        refine wantIt rfl (wp_build_nil (.some 11) rfl rfl ?_)
        intro g8 w8 hB8
        have h8 := hS.trans (hB8.mono hS.size)
        try have hr7 := hr7.below hB8
        try have hr11 := hr11.below hB8
        refine hKC.out _ _ (h8) (fun hHeld => ?_)
        clear hKC KC
        try simp only [Act.put, List.setIfInBounds_toArray, List.set_cons_zero, List.set_cons_succ]
        have hS := hHeld (by kernel_rfl)
        refine tkW (rs := [7]) (by kernel_rfl) (by simp) (AllK.cons (o := _) rfl (fun KC hKC => ?_) AllK.nil)
        refine wantIt rfl (wp_append_lit (.some 10) rfl (.tmp 7) (.tmp 9) rfl g4 rfl pk key.length ck key rfl (HP.out.rk.below hS) rfl (by omega) ?_)
        intro p7 c7 w7 hc7 hr7 hB7 hf7
        have hf7 := hid (fun (hp : 0 < key.length) => (show Off [w.heap.size + 1] p7 from fun a e => by have := hf7 hp a e; have := hS.size; have := hsz1.out; simp; omega))
        have h7 := hS.trans (hB7.mono hS.size)
        refine hKC.out _ _ (h7) (fun hHeld => ?_)
        clear hKC KC
        try simp only [Act.put, List.setIfInBounds_toArray, List.set_cons_zero, List.set_cons_succ]
        have hS := hHeld (by kernel_rfl)
        refine tkW (rs := [11]) (by kernel_rfl) (by simp) (AllK.cons (o := _) rfl (fun KC hKC => ?_) AllK.nil)
        refine wantIt rfl (wp_append_lit (.some 14) rfl (.tmp 11) (.tmp 13) rfl g8 rfl pv iv.length cv iv rfl (HP.out.rv.below hS) rfl (by omega) ?_)
        intro p11 c11 w11 hc11 hr11 hB11 hf11
        have hf11 := hid (fun (hp : 0 < iv.length) => (show Off [w.heap.size + 1] p11 from fun a e => by have := hf11 hp a e; have := hS.size; have := hsz1.out; simp; omega))
        have h11 := hS.trans (hB11.mono hS.size)
        try have hr7 := hr7.below hB11
        refine hKC.out _ _ (h11) (fun hHeld => ?_)
        clear hKC KC
        try simp only [Act.put, List.setIfInBounds_toArray, List.set_cons_zero, List.set_cons_succ]
        have hS := hHeld (by kernel_rfl)
        refine tkW (rs := [15]) (by kernel_rfl) (by simp) (AllK.cons (o := _) rfl (fun KC hKC => ?_) AllK.nil)
        refine wantIt rfl (wp_append_lit (.some 18) rfl (.tmp 15) (.tmp 17) rfl g12 rfl pa aad.length ca aad rfl (HP.out.ra.below hS) rfl (by omega) ?_)
        intro p15 c15 w15 hc15 hr15 hB15 hf15
        have hf15 := hid (fun (hp : 0 < aad.length) => (show Off [w.heap.size + 1] p15 from fun a e => by have := hf15 hp a e; have := hS.size; have := hsz1.out; simp; omega))
        have h15 := hS.trans (hB15.mono hS.size)
        try have hr7 := hr7.below hB15
        try have hr11 := hr11.below hB15
        refine hKC.out _ _ (h15) (fun hHeld => ?_)
        clear hKC KC
        try simp only [Act.put, List.setIfInBounds_toArray, List.set_cons_zero, List.set_cons_succ]
        refine tkB 16 (.some 19) _ _ rfl rfl (by kernel_rfl) (by kernel_rfl) (by kernel_rfl) (by kernel_rfl) hPF rfl (fun w' => by (go_simp; try with_reducible rfl)) hHeld (fun hHeld => ?_)
        simp only [Act.put, List.setIfInBounds_toArray, List.set_cons_zero, List.set_cons_succ]
        refine tkW (rs := [17]) (by kernel_rfl) (by simp) (AllK.close (o := _) rfl (by kernel_rfl) (fun KC hKC => ?_) AllK.nil)
        have hS17 := hHeld (by kernel_rfl)
        have hz17 := HZ.out.below hS17 HZ.out.lt
        refine wantIt rfl (wp_storeD .none rfl tPar (.tmp 2) (.tmp 19) rfl (w.heap.size + 1) 0 (parD alg op key iv aad p7 c7 p11 c11 p15 c15).toArray rfl rfl (hz17.there 0 5 (Nat.le_refl _)) sizePar (parC_one _ _ _ _ _ _ _ _ _ _ _) ?_)
        refine hKC.out _ _ (fun hHeld => ?_)
        clear hKC KC
        try simp only [Act.put]
        refine tkD (by kernel_rfl) ?_ _
        obtain ⟨h9, hC9⟩ := setWhole hz17 (new := parD alg op key iv aad p7 c7 p11 c11 p15 c15) rfl
        have hB17 := (HBel.out.trans (hS17.mono HBel.out.size)).trans (hC9.below (M := w.heap.size) (by have := HBel.out.size; have := hS17.size; omega) (fun k hk => by simp at hk; omega))
        have hfin := hid (And.intro h9 (And.intro (show ParAt (w15.setCells (w.heap.size + 1) 0 (parD alg op key iv aad p7 c7 p11 c11 p15 c15)) op key iv aad p7 c7 p11 c11 p15 c15 from
          ⟨hr7.chg2 hC9 (Nat.le_refl _) hf7.out, hr11.chg2 hC9 (Nat.le_refl _) hf11.out, hr15.chg2 hC9 (Nat.le_refl _) hf15.out, hc7, hc11, hc15, hla⟩) hB17))
        change Exit.then _ _ _ _ (w15.setCells (w.heap.size + 1) 0 (parD alg op key iv aad p7 c7 p11 c11 p15 c15))
        generalize w15.setCells (w.heap.size + 1) 0 (parD alg op key iv aad p7 c7 p11 c11 p15 c15) = w17 at *
        obtain ⟨f1, f2, f3⟩ := hfin.out
        clear hPF hHeld hS17 hz17 h9 hC9 hB17 hfin
        go_wp2_with fail
        refine bodyPost_ret (v := .agg (parD alg op key iv aad p7 c7 p11 c11 p15 c15).toArray) (results_cell_row (P := Tryz.prog) (p := 2) (ty := tPar) rfl _ _ (w.heap.size + 1) tPar _ (0, 0) _ rfl f1 Tryz.underlying31 rfl sizePar) rfl ⟨p7, c7, p11, c11, p15, c15, rfl, f2, f3⟩
    ·
      refine wantIt rfl (wp_build_nil (.some 11) rfl rfl ?_)
      intro g8 w8 hB8
      have h8 := hS.trans (hB8.mono hS.size)
      try have hr7 := hr7.below hB8
      try have hr11 := hr11.below hB8
      refine hKC.out _ _ (h8) (fun hHeld => ?_)
      clear hKC KC
      try simp only [Act.put, List.setIfInBounds_toArray, List.set_cons_zero, List.set_cons_succ]
      have hS := hHeld (by kernel_rfl)
      refine tkW (rs := [4]) (by kernel_rfl) (by simp) (AllK.cons (o := _) rfl (fun KC hKC => ?_) AllK.nil)
      refine wantIt rfl (wp_build_nil (.some 7) rfl rfl ?_)
      intro g4 w4 hB4
      have h4 := hS.trans (hB4.mono hS.size)
      try have hr7 := hr7.below hB4
      try have hr11 := hr11.below hB4
      refine hKC.out _ _ (h4) (fun hHeld => ?_)
      clear hKC KC
      try simp only [Act.put, List.setIfInBounds_toArray, List.set_cons_zero, List.set_cons_succ]
      have hS := hHeld (by kernel_rfl)
      refine tkW (rs := [7]) (by kernel_rfl) (by simp) (AllK.cons (o := _) rfl (fun KC hKC => ?_) AllK.nil)
      refine wantIt rfl (wp_append_lit (.some 10) rfl (.tmp 7) (.tmp 9) rfl g4 rfl pk key.length ck key rfl (HP.out.rk.below hS) rfl (by omega) ?_)
      intro p7 c7 w7 hc7 hr7 hB7 hf7
      have hf7 := hid (fun (hp : 0 < key.length) => (show Off [w.heap.size + 1] p7 from fun a e => by have := hf7 hp a e; have := hS.size; have := hsz1.out; simp; omega))
      have h7 := hS.trans (hB7.mono hS.size)
      refine hKC.out _ _ (h7) (fun hHeld => ?_)
      clear hKC KC
      try simp only [Act.put, List.setIfInBounds_toArray, List.set_cons_zero, List.set_cons_succ]
      have hS := hHeld (by kernel_rfl)
      refine tkW (rs := [11]) (by kernel_rfl) (by simp) (AllK.cons (o := _) rfl (fun KC hKC => ?_) AllK.nil)
      refine wantIt rfl (wp_append_lit (.some 14) rfl (.tmp 11) (.tmp 13) rfl g8 rfl pv iv.length cv iv rfl (HP.out.rv.below hS) rfl (by omega) ?_)
      intro p11 c11 w11 hc11 hr11 hB11 hf11
      have hf11 := hid (fun (hp : 0 < iv.length) => (show Off [w.heap.size + 1] p11 from fun a e => by have := hf11 hp a e; have := hS.size; have := hsz1.out; simp; omega))
      have h11 := hS.trans (hB11.mono hS.size)
      try have hr7 := hr7.below hB11
      refine hKC.out _ _ (h11) (fun hHeld => ?_)
      clear hKC KC
      try simp only [Act.put, List.setIfInBounds_toArray, List.set_cons_zero, List.set_cons_succ]
      have hS := hHeld (by kernel_rfl)
      refine tkW (rs := [15]) (by kernel_rfl) (by simp) (AllK.cons (o := _) rfl (fun KC hKC => ?_) AllK.nil)
      refine wantIt rfl (wp_append_lit (.some 18) rfl (.tmp 15) (.tmp 17) rfl g12 rfl pa aad.length ca aad rfl (HP.out.ra.below hS) rfl (by omega) ?_)
      intro p15 c15 w15 hc15 hr15 hB15 hf15
      have hf15 := hid (fun (hp : 0 < aad.length) => (show Off [w.heap.size + 1] p15 from fun a e => by have := hf15 hp a e; have := hS.size; have := hsz1.out; simp; omega))
      have h15 := hS.trans (hB15.mono hS.size)
      try have hr7 := hr7.below hB15
      try have hr11 := hr11.below hB15
      refine hKC.out _ _ (h15) (fun hHeld => ?_)
      clear hKC KC
      try simp only [Act.put, List.setIfInBounds_toArray, List.set_cons_zero, List.set_cons_succ]
      refine tkB 16 (.some 19) _ _ rfl rfl (by kernel_rfl) (by kernel_rfl) (by kernel_rfl) (by kernel_rfl) hPF rfl (fun w' => by (go_simp; try with_reducible rfl)) hHeld (fun hHeld => ?_)
      simp only [Act.put, List.setIfInBounds_toArray, List.set_cons_zero, List.set_cons_succ]
      refine tkW (rs := [17]) (by kernel_rfl) (by simp) (AllK.close (o := _) rfl (by kernel_rfl) (fun KC hKC => ?_) AllK.nil)
      have hS17 := hHeld (by kernel_rfl)
      have hz17 := HZ.out.below hS17 HZ.out.lt
      refine wantIt rfl (wp_storeD .none rfl tPar (.tmp 2) (.tmp 19) rfl (w.heap.size + 1) 0 (parD alg op key iv aad p7 c7 p11 c11 p15 c15).toArray rfl rfl (hz17.there 0 5 (Nat.le_refl _)) sizePar (parC_one _ _ _ _ _ _ _ _ _ _ _) ?_)
      refine hKC.out _ _ (fun hHeld => ?_)
      clear hKC KC
      try simp only [Act.put]
      refine tkD (by kernel_rfl) ?_ _
      obtain ⟨h9, hC9⟩ := setWhole hz17 (new := parD alg op key iv aad p7 c7 p11 c11 p15 c15) rfl
      have hB17 := (HBel.out.trans (hS17.mono HBel.out.size)).trans (hC9.below (M := w.heap.size) (by have := HBel.out.size; have := hS17.size; omega) (fun k hk => by simp at hk; omega))
      have hfin := hid (And.intro h9 (And.intro (show ParAt (w15.setCells (w.heap.size + 1) 0 (parD alg op key iv aad p7 c7 p11 c11 p15 c15)) op key iv aad p7 c7 p11 c11 p15 c15 from
        ⟨hr7.chg2 hC9 (Nat.le_refl _) hf7.out, hr11.chg2 hC9 (Nat.le_refl _) hf11.out, hr15.chg2 hC9 (Nat.le_refl _) hf15.out, hc7, hc11, hc15, hla⟩) hB17))
      change Exit.then _ _ _ _ (w15.setCells (w.heap.size + 1) 0 (parD alg op key iv aad p7 c7 p11 c11 p15 c15))
      generalize w15.setCells (w.heap.size + 1) 0 (parD alg op key iv aad p7 c7 p11 c11 p15 c15) = w17 at *
      obtain ⟨f1, f2, f3⟩ := hfin.out
      clear hPF hHeld hS17 hz17 h9 hC9 hB17 hfin
      go_wp2_with fail
      refine bodyPost_ret (v := .agg (parD alg op key iv aad p7 c7 p11 c11 p15 c15).toArray) (results_cell_row (P := Tryz.prog) (p := 2) (ty := tPar) rfl _ _ (w.heap.size + 1) tPar _ (0, 0) _ rfl f1 Tryz.underlying31 rfl sizePar) rfl ⟨p7, c7, p11, c11, p15, c15, rfl, f2, f3⟩

set_option maxRecDepth 100000 in
set_option maxHeartbeats 4000000 in
theorem pshort_any (w : World) (alg : Int) (op : Bool) (pk : Option Addr) (k ck : Nat) (pv : Option Addr) (v cv : Nat) (pa : Option Addr) (a ca : Nat) :
    Calls Tryz.prog 19 #[.agg (parC alg op pk k ck pv v cv pa a ca).toArray] w fun e w' => e = .returned (.bool (decide (k ≤ 120 ∧ v ≤ 100 ∧ a ≤ 1100))) ∧ Below w.heap.size w w' := by
  have hB := hid ((Below.refl w.heap.size w).alloc (Nat.le_refl _) (.cells (parC alg op pk k ck pv v cv pa a ca).toArray tRP))
  by_cases h1 : k ≤ 120
  · by_cases h2 : v ≤ 100
    · by_cases h3 : a ≤ 1100
      · rw [decide_eq_true (And.intro h1 (And.intro h2 h3))]
        have q1 : (k : Int) ≤ 120 := by omega
        have q2 : (v : Int) ≤ 100 := by omega
        have q3 : (a : Int) ≤ 1100 := by omega
        go_enter Tryz.func19, Tryz.ntmps19
        go_wp2_with fail
        go_ret
        exact ⟨rfl, hB.out⟩
      · rw [decide_eq_false (fun h => h3 h.2.2)]
        have q1 : (k : Int) ≤ 120 := by omega
        have q2 : (v : Int) ≤ 100 := by omega
        have q3 : ¬ (a : Int) ≤ 1100 := by omega
        go_enter Tryz.func19, Tryz.ntmps19
        go_wp2_with fail
        go_ret
        exact ⟨rfl, hB.out⟩
    · rw [decide_eq_false (fun h => h2 h.2.1)]
      have q1 : (k : Int) ≤ 120 := by omega
      have q2 : ¬ (v : Int) ≤ 100 := by omega
      go_enter Tryz.func19, Tryz.ntmps19
      go_wp2_with fail
      go_ret
      exact ⟨rfl, hB.out⟩
  · rw [decide_eq_false (fun h => h1 h.1)]
    have q1 : ¬ (k : Int) ≤ 120 := by omega
    go_enter Tryz.func19, Tryz.ntmps19
    go_wp2_with fail
    go_ret
    exact ⟨rfl, hB.out⟩
theorem do_awake (w : World) (T : TabW w) (g0 g1 g3 : Nat) (h0 : RowAt w (some ⟨g0, 0, none⟩) (List.replicate 32 0)) (h1 : RowAt w (some ⟨g1, 0, none⟩) (List.replicate 12 0)) (h3 : RowAt w (some ⟨g3, 0, none⟩) [97]) :
    Calls Tryz.prog 13 #[.agg #[.int .i64 6, .bool false, .slice (some ⟨g0, 0, none⟩) 32 32, .slice (some ⟨g1, 0, none⟩) 12 12, .slice none 0 0], .slice (some ⟨g3, 0, none⟩) 1 1] w fun e w' => (∃ p c, e = .returned (.tuple #[.slice p 17 c, .int .i64 0])) ∧ Below w.heap.size w w' := by
  have hd := do_any w 6 false (List.replicate 32 0) (List.replicate 12 0) [] [97] (some ⟨g0, 0, none⟩) 32 (some ⟨g1, 0, none⟩) 12 none 0 ⟨h0, h1, RowAt.nilW _ _, by simp, by simp, by simp, by decide⟩ (some ⟨g3, 0, none⟩) 1 h3 (by simp) (by decide) T
  have e : algF 6 false (List.replicate 32 0) (List.replicate 12 0) [] [97] = (0, sealC (List.replicate 32 0) (List.replicate 12 0) [] [97]) := by
    unfold algF
    simp only [List.length_replicate, List.length_nil]
    rw [if_neg (by decide), if_neg (by decide), if_neg (by decide), if_neg (by decide)]
    rfl
  rw [e] at hd
  simp only [List.length_nil, List.length_cons] at hd
  refine hd.mono ?_
  rintro e w' ⟨⟨v, rfl, ⟨p, c, rfl, _, _⟩, _⟩, hB⟩
  have hl : (sealC (List.replicate 32 0) (List.replicate 12 0) [] [97]).length = 17 := by rw [sealC_len]; rfl
  refine ⟨⟨p, c, ?_⟩, hB⟩
  simp only [hl]
  rfl

set_option maxRecDepth 100000 in
set_option maxHeartbeats 8000000 in
theorem awake12_any (w : World) (T : TabW w) : Calls Tryz.prog 22 #[] w fun e w' => e = .returned (.bool true) ∧ Below w.heap.size w w' := by
  go_enter Tryz.func22, Tryz.ntmps22
  go_wp2_with fail
  refine (room_any w 5 false 5 (by decide)).mono ?_
  rintro e w1 ⟨rfl, hB1⟩
  rw [show roomA 5 false 5 = (21, 0) from rfl]
  go_upto_region 2 with fail
  have hW1 := T.below hB1 T.1
  have hs1 := hB1.size
  have S0 : Below w1.heap.size w1 w1.drew := (Below.refl _ _).drew
  try simp only [Act.put]
  refine tkR (fun w' => Below w1.heap.size w1 w') [5] (by kernel_rfl) (fun c a d v w h => by cases d <;> exact h) (S0) (fun hPF hHeld => ?_)
  have hS := hHeld (by kernel_rfl)
  refine tkW (rs := [0, 1, 3]) (by kernel_rfl) (by simp) (AllK.cons (o := _) rfl (fun KC hKC => ?_) (AllK.cons (o := _) rfl (fun KC hKC => ?_) (AllK.cons (o := _) rfl (fun KC hKC => ?_) AllK.nil)))
  ·
    refine wantIt rfl (wp_make_row (.some 10) rfl 32 (by decide) _ _ rfl rfl rfl ?_)
    intro g0 w0 hg0 hb0 hB0
    have h0 := hS.trans (hB0.mono hS.size)
    have hr0 := hb0.rowAt0
    try have hr1 := hr1.below hB0
    try have hr3 := hr3.below hB0
    try have hb3 := hb3.below hB0 hb3.lt
    refine hKC.out _ _ (h0) (fun hHeld => ?_)
    clear hKC KC
    try simp only [Act.put, List.setIfInBounds_toArray, List.set_cons_zero, List.set_cons_succ]
    have hS := hHeld (by kernel_rfl)
    refine tkW (rs := [1, 3]) (by kernel_rfl) (by simp) (AllK.cons (o := _) rfl (fun KC hKC => ?_) (AllK.cons (o := _) rfl (fun KC hKC => ?_) AllK.nil))
    ·
      refine wantIt rfl (wp_make_row (.some 11) rfl 12 (by decide) _ _ rfl rfl rfl ?_)
      intro g1 w2 hg1 hb1 hB2
      have h1 := hS.trans (hB2.mono hS.size)
      have hr1 := hb1.rowAt0
      try have hr0 := hr0.below hB2
      try have hr3 := hr3.below hB2
      try have hb3 := hb3.below hB2 hb3.lt
      refine hKC.out _ _ (h1) (fun hHeld => ?_)
      clear hKC KC
      try simp only [Act.put, List.setIfInBounds_toArray, List.set_cons_zero, List.set_cons_succ]
      refine tkB 2 (.some 12) _ _ rfl rfl (by kernel_rfl) (by kernel_rfl) (by kernel_rfl) (by kernel_rfl) hPF rfl (fun w' => by (go_simp; try with_reducible rfl)) hHeld (fun hHeld => ?_)
      simp only [Act.put, List.setIfInBounds_toArray, List.set_cons_zero, List.set_cons_succ]
      have hS := hHeld (by kernel_rfl)
      refine tkW (rs := [3]) (by kernel_rfl) (by simp) (AllK.cons (o := _) rfl (fun KC hKC => ?_) AllK.nil)
      refine wantIt rfl (wp_build_byte (.some 13) rfl 97 97 rfl rfl ?_)
      intro g3 w3 hg3 hb3 hB3
      have h3 := hS.trans (hB3.mono hS.size)
      have hgb3 := hid (Nat.le_trans hS.size hg3)
      have hr3 := hb3.rowAt0
      try have hr0 := hr0.below hB3
      try have hr1 := hr1.below hB3
      refine hKC.out _ _ (h3) (fun hHeld => ?_)
      clear hKC KC
      try simp only [Act.put, List.setIfInBounds_toArray, List.set_cons_zero, List.set_cons_succ]
      have hS := hHeld (by kernel_rfl)
      refine tkW (rs := [4]) (by kernel_rfl) (by simp) (AllK.cons (o := _) rfl (fun KC hKC => ?_) AllK.nil)
      refine wantIt rfl (wp_convert_lit (.some 14) rfl (.tmp 13) rfl g3 1 1 rfl _ hb3 ?_)
      intro w4 hC4 hE4 hs4
      have h4 := hS.trans (hC4.below hS.size (fun k hk => by simp at hk; have := hgb3.out; omega))
      have hr3 := hr3.cellEq (Nat.le_of_eq hs4.symm) hE4
      try have hr0 := hr0.cellEq (Nat.le_of_eq hs4.symm) hE4
      try have hr1 := hr1.cellEq (Nat.le_of_eq hs4.symm) hE4
      refine hKC.out _ _ (h4) (fun hHeld => ?_)
      clear hKC KC
      try simp only [Act.put, List.setIfInBounds_toArray, List.set_cons_zero, List.set_cons_succ]
      refine tkW (rs := [5]) (by kernel_rfl) (by simp) (AllK.close (o := _) rfl (by kernel_rfl) (fun KC hKC => ?_) AllK.nil)
      go_simp
      have hS5 := hHeld (by kernel_rfl)
      refine (do_awake _ (hW1.below hS5 hW1.1) g0 g1 g3 hr0 hr1 hr3).mono ?_
      rintro e w5 ⟨⟨p, c, rfl⟩, hB5⟩
      refine hKC.out _ _ (fun hHeld => ?_)
      clear hKC KC
      try simp only [Act.put, List.setIfInBounds_toArray, List.set_cons_zero, List.set_cons_succ]
      refine tkB 6 (.some 9) _ _ rfl rfl (by kernel_rfl) (by kernel_rfl) (by kernel_rfl) (by kernel_rfl) hPF rfl (fun w' => by (go_simp; try with_reducible rfl)) hHeld (fun hHeld => ?_)
      simp only [Act.put, List.setIfInBounds_toArray, List.set_cons_zero, List.set_cons_succ]
      refine tkB 7 (.some 16) _ _ rfl rfl (by kernel_rfl) (by kernel_rfl) (by kernel_rfl) (by kernel_rfl) hPF rfl (fun w' => by (go_simp; try with_reducible rfl)) hHeld (fun hHeld => ?_)
      simp only [Act.put, List.setIfInBounds_toArray, List.set_cons_zero, List.set_cons_succ]
      refine tkB 8 (.some 17) _ _ rfl rfl (by kernel_rfl) (by kernel_rfl) (by kernel_rfl) (by kernel_rfl) hPF rfl (fun w' => by (go_simp; try with_reducible rfl)) hHeld (fun hHeld => ?_)
      simp only [Act.put, List.setIfInBounds_toArray, List.set_cons_zero, List.set_cons_succ]
      refine tkB 9 (.some 3) _ _ rfl rfl (by kernel_rfl) (by kernel_rfl) (by kernel_rfl) (by kernel_rfl) hPF rfl (fun w' => by (go_simp; try with_reducible rfl)) hHeld (fun hHeld => ?_)
      simp only [Act.put, List.setIfInBounds_toArray, List.set_cons_zero, List.set_cons_succ]
      refine tkB 10 (.some 4) _ _ rfl rfl (by kernel_rfl) (by kernel_rfl) (by kernel_rfl) (by kernel_rfl) hPF rfl (fun w' => by (go_simp; try with_reducible rfl)) hHeld (fun hHeld => ?_)
      simp only [Act.put, List.setIfInBounds_toArray, List.set_cons_zero, List.set_cons_succ]
      refine tkD (by kernel_rfl) ?_ _
      have hB := hid (hB1.trans ((hS5.trans (hB5.mono hS5.size)).mono hs1))
      clear hPF hHeld hS5
      go_wp2_with fail
      go_ret
      exact ⟨rfl, hB.out⟩
    ·
      refine wantIt rfl (wp_build_byte (.some 13) rfl 97 97 rfl rfl ?_)
      intro g3 w3 hg3 hb3 hB3
      have h3 := hS.trans (hB3.mono hS.size)
      have hgb3 := hid (Nat.le_trans hS.size hg3)
      have hr3 := hb3.rowAt0
      try have hr0 := hr0.below hB3
      try have hr1 := hr1.below hB3
      refine hKC.out _ _ (h3) (fun hHeld => ?_)
      clear hKC KC
      try simp only [Act.put, List.setIfInBounds_toArray, List.set_cons_zero, List.set_cons_succ]
      have hS := hHeld (by kernel_rfl)
      refine tkW (rs := [1, 4]) (by kernel_rfl) (by simp) (AllK.cons (o := _) rfl (fun KC hKC => ?_) (AllK.cons (o := _) rfl (fun KC hKC => ?_) AllK.nil))
      ·
        refine wantIt rfl (wp_make_row (.some 11) rfl 12 (by decide) _ _ rfl rfl rfl ?_)
        intro g1 w2 hg1 hb1 hB2
        have h1 := hS.trans (hB2.mono hS.size)
        have hr1 := hb1.rowAt0
        try have hr0 := hr0.below hB2
        try have hr3 := hr3.below hB2
        try have hb3 := hb3.below hB2 hb3.lt
        refine hKC.out _ _ (h1) (fun hHeld => ?_)
        clear hKC KC
        try simp only [Act.put, List.setIfInBounds_toArray, List.set_cons_zero, List.set_cons_succ]
        refine tkB 2 (.some 12) _ _ rfl rfl (by kernel_rfl) (by kernel_rfl) (by kernel_rfl) (by kernel_rfl) hPF rfl (fun w' => by (go_simp; try with_reducible rfl)) hHeld (fun hHeld => ?_)
        simp only [Act.put, List.setIfInBounds_toArray, List.set_cons_zero, List.set_cons_succ]
        have hS := hHeld (by kernel_rfl)
        refine tkW (rs := [4]) (by kernel_rfl) (by simp) (AllK.cons (o := _) rfl (fun KC hKC => ?_) AllK.nil)
        refine wantIt rfl (wp_convert_lit (.some 14) rfl (.tmp 13) rfl g3 1 1 rfl _ hb3 ?_)
        intro w4 hC4 hE4 hs4
        have h4 := hS.trans (hC4.below hS.size (fun k hk => by simp at hk; have := hgb3.out; omega))
        have hr3 := hr3.cellEq (Nat.le_of_eq hs4.symm) hE4
        try have hr0 := hr0.cellEq (Nat.le_of_eq hs4.symm) hE4
        try have hr1 := hr1.cellEq (Nat.le_of_eq hs4.symm) hE4
        refine hKC.out _ _ (h4) (fun hHeld => ?_)
        clear hKC KC
        try simp only [Act.put, List.setIfInBounds_toArray, List.set_cons_zero, List.set_cons_succ]
        refine tkW (rs := [5]) (by kernel_rfl) (by simp) (AllK.close (o := _) rfl (by kernel_rfl) (fun KC hKC => ?_) AllK.nil)
        go_simp
        have hS5 := hHeld (by kernel_rfl)
        refine (do_awake _ (hW1.below hS5 hW1.1) g0 g1 g3 hr0 hr1 hr3).mono ?_
        rintro e w5 ⟨⟨p, c, rfl⟩, hB5⟩
        refine hKC.out _ _ (fun hHeld => ?_)
        clear hKC KC
        try simp only [Act.put, List.setIfInBounds_toArray, List.set_cons_zero, List.set_cons_succ]
        refine tkB 6 (.some 9) _ _ rfl rfl (by kernel_rfl) (by kernel_rfl) (by kernel_rfl) (by kernel_rfl) hPF rfl (fun w' => by (go_simp; try with_reducible rfl)) hHeld (fun hHeld => ?_)
        simp only [Act.put, List.setIfInBounds_toArray, List.set_cons_zero, List.set_cons_succ]
        refine tkB 7 (.some 16) _ _ rfl rfl (by kernel_rfl) (by kernel_rfl) (by kernel_rfl) (by kernel_rfl) hPF rfl (fun w' => by (go_simp; try with_reducible rfl)) hHeld (fun hHeld => ?_)
        simp only [Act.put, List.setIfInBounds_toArray, List.set_cons_zero, List.set_cons_succ]
        refine tkB 8 (.some 17) _ _ rfl rfl (by kernel_rfl) (by kernel_rfl) (by kernel_rfl) (by kernel_rfl) hPF rfl (fun w' => by (go_simp; try with_reducible rfl)) hHeld (fun hHeld => ?_)
        simp only [Act.put, List.setIfInBounds_toArray, List.set_cons_zero, List.set_cons_succ]
        refine tkB 9 (.some 3) _ _ rfl rfl (by kernel_rfl) (by kernel_rfl) (by kernel_rfl) (by kernel_rfl) hPF rfl (fun w' => by (go_simp; try with_reducible rfl)) hHeld (fun hHeld => ?_)
        simp only [Act.put, List.setIfInBounds_toArray, List.set_cons_zero, List.set_cons_succ]
        refine tkB 10 (.some 4) _ _ rfl rfl (by kernel_rfl) (by kernel_rfl) (by kernel_rfl) (by kernel_rfl) hPF rfl (fun w' => by (go_simp; try with_reducible rfl)) hHeld (fun hHeld => ?_)
        simp only [Act.put, List.setIfInBounds_toArray, List.set_cons_zero, List.set_cons_succ]
        refine tkD (by kernel_rfl) ?_ _
        have hB := hid (hB1.trans ((hS5.trans (hB5.mono hS5.size)).mono hs1))
        clear hPF hHeld hS5
        go_wp2_with fail
        go_ret
        exact ⟨rfl, hB.out⟩
      ·
        refine wantIt rfl (wp_convert_lit (.some 14) rfl (.tmp 13) rfl g3 1 1 rfl _ hb3 ?_)
        intro w4 hC4 hE4 hs4
        have h4 := hS.trans (hC4.below hS.size (fun k hk => by simp at hk; have := hgb3.out; omega))
        have hr3 := hr3.cellEq (Nat.le_of_eq hs4.symm) hE4
        try have hr0 := hr0.cellEq (Nat.le_of_eq hs4.symm) hE4
        try have hr1 := hr1.cellEq (Nat.le_of_eq hs4.symm) hE4
        refine hKC.out _ _ (h4) (fun hHeld => ?_)
        clear hKC KC
        try simp only [Act.put, List.setIfInBounds_toArray, List.set_cons_zero, List.set_cons_succ]
        have hS := hHeld (by kernel_rfl)
        refine tkW (rs := [1]) (by kernel_rfl) (by simp) (AllK.cons (o := _) rfl (fun KC hKC => ?_) AllK.nil)
        refine wantIt rfl (wp_make_row (.some 11) rfl 12 (by decide) _ _ rfl rfl rfl ?_)
        intro g1 w2 hg1 hb1 hB2
        have h1 := hS.trans (hB2.mono hS.size)
        have hr1 := hb1.rowAt0
        try have hr0 := hr0.below hB2
        try have hr3 := hr3.below hB2
        try have hb3 := hb3.below hB2 hb3.lt
        refine hKC.out _ _ (h1) (fun hHeld => ?_)
        clear hKC KC
        try simp only [Act.put, List.setIfInBounds_toArray, List.set_cons_zero, List.set_cons_succ]
        refine tkB 2 (.some 12) _ _ rfl rfl (by kernel_rfl) (by kernel_rfl) (by kernel_rfl) (by kernel_rfl) hPF rfl (fun w' => by (go_simp; try with_reducible rfl)) hHeld (fun hHeld => ?_)
        simp only [Act.put, List.setIfInBounds_toArray, List.set_cons_zero, List.set_cons_succ]
        refine tkW (rs := [5]) (by kernel_rfl) (by simp) (AllK.close (o := _) rfl (by kernel_rfl) (fun KC hKC => ?_) AllK.nil)
        go_simp
        have hS5 := hHeld (by kernel_rfl)
        refine (do_awake _ (hW1.below hS5 hW1.1) g0 g1 g3 hr0 hr1 hr3).mono ?_
        rintro e w5 ⟨⟨p, c, rfl⟩, hB5⟩
        refine hKC.out _ _ (fun hHeld => ?_)
        clear hKC KC
        try simp only [Act.put, List.setIfInBounds_toArray, List.set_cons_zero, List.set_cons_succ]
        refine tkB 6 (.some 9) _ _ rfl rfl (by kernel_rfl) (by kernel_rfl) (by kernel_rfl) (by kernel_rfl) hPF rfl (fun w' => by (go_simp; try with_reducible rfl)) hHeld (fun hHeld => ?_)
        simp only [Act.put, List.setIfInBounds_toArray, List.set_cons_zero, List.set_cons_succ]
        refine tkB 7 (.some 16) _ _ rfl rfl (by kernel_rfl) (by kernel_rfl) (by kernel_rfl) (by kernel_rfl) hPF rfl (fun w' => by (go_simp; try with_reducible rfl)) hHeld (fun hHeld => ?_)
        simp only [Act.put, List.setIfInBounds_toArray, List.set_cons_zero, List.set_cons_succ]
        refine tkB 8 (.some 17) _ _ rfl rfl (by kernel_rfl) (by kernel_rfl) (by kernel_rfl) (by kernel_rfl) hPF rfl (fun w' => by (go_simp; try with_reducible rfl)) hHeld (fun hHeld => ?_)
        simp only [Act.put, List.setIfInBounds_toArray, List.set_cons_zero, List.set_cons_succ]
        refine tkB 9 (.some 3) _ _ rfl rfl (by kernel_rfl) (by kernel_rfl) (by kernel_rfl) (by kernel_rfl) hPF rfl (fun w' => by (go_simp; try with_reducible rfl)) hHeld (fun hHeld => ?_)
        simp only [Act.put, List.setIfInBounds_toArray, List.set_cons_zero, List.set_cons_succ]
        refine tkB 10 (.some 4) _ _ rfl rfl (by kernel_rfl) (by kernel_rfl) (by kernel_rfl) (by kernel_rfl) hPF rfl (fun w' => by (go_simp; try with_reducible rfl)) hHeld (fun hHeld => ?_)
        simp only [Act.put, List.setIfInBounds_toArray, List.set_cons_zero, List.set_cons_succ]
        refine tkD (by kernel_rfl) ?_ _
        have hB := hid (hB1.trans ((hS5.trans (hB5.mono hS5.size)).mono hs1))
        clear hPF hHeld hS5
        go_wp2_with fail
        go_ret
        exact ⟨rfl, hB.out⟩
  ·
    refine wantIt rfl (wp_make_row (.some 11) rfl 12 (by decide) _ _ rfl rfl rfl ?_)
    intro g1 w2 hg1 hb1 hB2
    have h1 := hS.trans (hB2.mono hS.size)
    have hr1 := hb1.rowAt0
    try have hr0 := hr0.below hB2
    try have hr3 := hr3.below hB2
    try have hb3 := hb3.below hB2 hb3.lt
    refine hKC.out _ _ (h1) (fun hHeld => ?_)
    clear hKC KC
    try simp only [Act.put, List.setIfInBounds_toArray, List.set_cons_zero, List.set_cons_succ]
    have hS := hHeld (by kernel_rfl)
    refine tkW (rs := [0, 3]) (by kernel_rfl) (by simp) (AllK.cons (o := _) rfl (fun KC hKC => ?_) (AllK.cons (o := _) rfl (fun KC hKC => ?_) AllK.nil))
    ·
      refine wantIt rfl (wp_make_row (.some 10) rfl 32 (by decide) _ _ rfl rfl rfl ?_)
      intro g0 w0 hg0 hb0 hB0
      have h0 := hS.trans (hB0.mono hS.size)
      have hr0 := hb0.rowAt0
      try have hr1 := hr1.below hB0
      try have hr3 := hr3.below hB0
      try have hb3 := hb3.below hB0 hb3.lt
      refine hKC.out _ _ (h0) (fun hHeld => ?_)
      clear hKC KC
      try simp only [Act.put, List.setIfInBounds_toArray, List.set_cons_zero, List.set_cons_succ]
      refine tkB 2 (.some 12) _ _ rfl rfl (by kernel_rfl) (by kernel_rfl) (by kernel_rfl) (by kernel_rfl) hPF rfl (fun w' => by (go_simp; try with_reducible rfl)) hHeld (fun hHeld => ?_)
      simp only [Act.put, List.setIfInBounds_toArray, List.set_cons_zero, List.set_cons_succ]
      have hS := hHeld (by kernel_rfl)
      refine tkW (rs := [3]) (by kernel_rfl) (by simp) (AllK.cons (o := _) rfl (fun KC hKC => ?_) AllK.nil)
      refine wantIt rfl (wp_build_byte (.some 13) rfl 97 97 rfl rfl ?_)
      intro g3 w3 hg3 hb3 hB3
      have h3 := hS.trans (hB3.mono hS.size)
      have hgb3 := hid (Nat.le_trans hS.size hg3)
      have hr3 := hb3.rowAt0
      try have hr0 := hr0.below hB3
      try have hr1 := hr1.below hB3
      refine hKC.out _ _ (h3) (fun hHeld => ?_)
      clear hKC KC
      try simp only [Act.put, List.setIfInBounds_toArray, List.set_cons_zero, List.set_cons_succ]
      have hS := hHeld (by kernel_rfl)
      refine tkW (rs := [4]) (by kernel_rfl) (by simp) (AllK.cons (o := _) rfl (fun KC hKC => ?_) AllK.nil)
      refine wantIt rfl (wp_convert_lit (.some 14) rfl (.tmp 13) rfl g3 1 1 rfl _ hb3 ?_)
      intro w4 hC4 hE4 hs4
      have h4 := hS.trans (hC4.below hS.size (fun k hk => by simp at hk; have := hgb3.out; omega))
      have hr3 := hr3.cellEq (Nat.le_of_eq hs4.symm) hE4
      try have hr0 := hr0.cellEq (Nat.le_of_eq hs4.symm) hE4
      try have hr1 := hr1.cellEq (Nat.le_of_eq hs4.symm) hE4
      refine hKC.out _ _ (h4) (fun hHeld => ?_)
      clear hKC KC
      try simp only [Act.put, List.setIfInBounds_toArray, List.set_cons_zero, List.set_cons_succ]
      refine tkW (rs := [5]) (by kernel_rfl) (by simp) (AllK.close (o := _) rfl (by kernel_rfl) (fun KC hKC => ?_) AllK.nil)
      go_simp
      have hS5 := hHeld (by kernel_rfl)
      refine (do_awake _ (hW1.below hS5 hW1.1) g0 g1 g3 hr0 hr1 hr3).mono ?_
      rintro e w5 ⟨⟨p, c, rfl⟩, hB5⟩
      refine hKC.out _ _ (fun hHeld => ?_)
      clear hKC KC
      try simp only [Act.put, List.setIfInBounds_toArray, List.set_cons_zero, List.set_cons_succ]
      refine tkB 6 (.some 9) _ _ rfl rfl (by kernel_rfl) (by kernel_rfl) (by kernel_rfl) (by kernel_rfl) hPF rfl (fun w' => by (go_simp; try with_reducible rfl)) hHeld (fun hHeld => ?_)
      simp only [Act.put, List.setIfInBounds_toArray, List.set_cons_zero, List.set_cons_succ]
      refine tkB 7 (.some 16) _ _ rfl rfl (by kernel_rfl) (by kernel_rfl) (by kernel_rfl) (by kernel_rfl) hPF rfl (fun w' => by (go_simp; try with_reducible rfl)) hHeld (fun hHeld => ?_)
      simp only [Act.put, List.setIfInBounds_toArray, List.set_cons_zero, List.set_cons_succ]
      refine tkB 8 (.some 17) _ _ rfl rfl (by kernel_rfl) (by kernel_rfl) (by kernel_rfl) (by kernel_rfl) hPF rfl (fun w' => by (go_simp; try with_reducible rfl)) hHeld (fun hHeld => ?_)
      simp only [Act.put, List.setIfInBounds_toArray, List.set_cons_zero, List.set_cons_succ]
      refine tkB 9 (.some 3) _ _ rfl rfl (by kernel_rfl) (by kernel_rfl) (by kernel_rfl) (by kernel_rfl) hPF rfl (fun w' => by (go_simp; try with_reducible rfl)) hHeld (fun hHeld => ?_)
      simp only [Act.put, List.setIfInBounds_toArray, List.set_cons_zero, List.set_cons_succ]
      refine tkB 10 (.some 4) _ _ rfl rfl (by kernel_rfl) (by kernel_rfl) (by kernel_rfl) (by kernel_rfl) hPF rfl (fun w' => by (go_simp; try with_reducible rfl)) hHeld (fun hHeld => ?_)
      simp only [Act.put, List.setIfInBounds_toArray, List.set_cons_zero, List.set_cons_succ]
      refine tkD (by kernel_rfl) ?_ _
      have hB := hid (hB1.trans ((hS5.trans (hB5.mono hS5.size)).mono hs1))
      clear hPF hHeld hS5
      go_wp2_with fail
      go_ret
      exact ⟨rfl, hB.out⟩
    ·
      refine wantIt rfl (wp_build_byte (.some 13) rfl 97 97 rfl rfl ?_)
      intro g3 w3 hg3 hb3 hB3
      have h3 := hS.trans (hB3.mono hS.size)
      have hgb3 := hid (Nat.le_trans hS.size hg3)
      have hr3 := hb3.rowAt0
      try have hr0 := hr0.below hB3
      try have hr1 := hr1.below hB3
      refine hKC.out _ _ (h3) (fun hHeld => ?_)
      clear hKC KC
      try simp only [Act.put, List.setIfInBounds_toArray, List.set_cons_zero, List.set_cons_succ]
      have hS := hHeld (by kernel_rfl)
      refine tkW (rs := [0, 4]) (by kernel_rfl) (by simp) (AllK.cons (o := _) rfl (fun KC hKC => ?_) (AllK.cons (o := _) rfl (fun KC hKC => ?_) AllK.nil))
      ·
        refine wantIt rfl (wp_make_row (.some 10) rfl 32 (by decide) _ _ rfl rfl rfl ?_)
        intro g0 w0 hg0 hb0 hB0
        have h0 := hS.trans (hB0.mono hS.size)
        have hr0 := hb0.rowAt0
        try have hr1 := hr1.below hB0
        try have hr3 := hr3.below hB0
        try have hb3 := hb3.below hB0 hb3.lt
        refine hKC.out _ _ (h0) (fun hHeld => ?_)
        clear hKC KC
        try simp only [Act.put, List.setIfInBounds_toArray, List.set_cons_zero, List.set_cons_succ]
        refine tkB 2 (.some 12) _ _ rfl rfl (by kernel_rfl) (by kernel_rfl) (by kernel_rfl) (by kernel_rfl) hPF rfl (fun w' => by (go_simp; try with_reducible rfl)) hHeld (fun hHeld => ?_)
        simp only [Act.put, List.setIfInBounds_toArray, List.set_cons_zero, List.set_cons_succ]
        have hS := hHeld (by kernel_rfl)
        refine tkW (rs := [4]) (by kernel_rfl) (by simp) (AllK.cons (o := _) rfl (fun KC hKC => ?_) AllK.nil)
        refine wantIt rfl (wp_convert_lit (.some 14) rfl (.tmp 13) rfl g3 1 1 rfl _ hb3 ?_)
        intro w4 hC4 hE4 hs4
        have h4 := hS.trans (hC4.below hS.size (fun k hk => by simp at hk; have := hgb3.out; omega))
        have hr3 := hr3.cellEq (Nat.le_of_eq hs4.symm) hE4
        try have hr0 := hr0.cellEq (Nat.le_of_eq hs4.symm) hE4
        try have hr1 := hr1.cellEq (Nat.le_of_eq hs4.symm) hE4
        refine hKC.out _ _ (h4) (fun hHeld => ?_)
        clear hKC KC
        try simp only [Act.put, List.setIfInBounds_toArray, List.set_cons_zero, List.set_cons_succ]
        refine tkW (rs := [5]) (by kernel_rfl) (by simp) (AllK.close (o := _) rfl (by kernel_rfl) (fun KC hKC => ?_) AllK.nil)
        go_simp
        have hS5 := hHeld (by kernel_rfl)
        refine (do_awake _ (hW1.below hS5 hW1.1) g0 g1 g3 hr0 hr1 hr3).mono ?_
        rintro e w5 ⟨⟨p, c, rfl⟩, hB5⟩
        refine hKC.out _ _ (fun hHeld => ?_)
        clear hKC KC
        try simp only [Act.put, List.setIfInBounds_toArray, List.set_cons_zero, List.set_cons_succ]
        refine tkB 6 (.some 9) _ _ rfl rfl (by kernel_rfl) (by kernel_rfl) (by kernel_rfl) (by kernel_rfl) hPF rfl (fun w' => by (go_simp; try with_reducible rfl)) hHeld (fun hHeld => ?_)
        simp only [Act.put, List.setIfInBounds_toArray, List.set_cons_zero, List.set_cons_succ]
        refine tkB 7 (.some 16) _ _ rfl rfl (by kernel_rfl) (by kernel_rfl) (by kernel_rfl) (by kernel_rfl) hPF rfl (fun w' => by (go_simp; try with_reducible rfl)) hHeld (fun hHeld => ?_)
        simp only [Act.put, List.setIfInBounds_toArray, List.set_cons_zero, List.set_cons_succ]
        refine tkB 8 (.some 17) _ _ rfl rfl (by kernel_rfl) (by kernel_rfl) (by kernel_rfl) (by kernel_rfl) hPF rfl (fun w' => by (go_simp; try with_reducible rfl)) hHeld (fun hHeld => ?_)
        simp only [Act.put, List.setIfInBounds_toArray, List.set_cons_zero, List.set_cons_succ]
        refine tkB 9 (.some 3) _ _ rfl rfl (by kernel_rfl) (by kernel_rfl) (by kernel_rfl) (by kernel_rfl) hPF rfl (fun w' => by (go_simp; try with_reducible rfl)) hHeld (fun hHeld => ?_)
        simp only [Act.put, List.setIfInBounds_toArray, List.set_cons_zero, List.set_cons_succ]
        refine tkB 10 (.some 4) _ _ rfl rfl (by kernel_rfl) (by kernel_rfl) (by kernel_rfl) (by kernel_rfl) hPF rfl (fun w' => by (go_simp; try with_reducible rfl)) hHeld (fun hHeld => ?_)
        simp only [Act.put, List.setIfInBounds_toArray, List.set_cons_zero, List.set_cons_succ]
        refine tkD (by kernel_rfl) ?_ _
        have hB := hid (hB1.trans ((hS5.trans (hB5.mono hS5.size)).mono hs1))
        clear hPF hHeld hS5
        go_wp2_with fail
        go_ret
        exact ⟨rfl, hB.out⟩
      ·
        refine wantIt rfl (wp_convert_lit (.some 14) rfl (.tmp 13) rfl g3 1 1 rfl _ hb3 ?_)
        intro w4 hC4 hE4 hs4
        have h4 := hS.trans (hC4.below hS.size (fun k hk => by simp at hk; have := hgb3.out; omega))
        have hr3 := hr3.cellEq (Nat.le_of_eq hs4.symm) hE4
        try have hr0 := hr0.cellEq (Nat.le_of_eq hs4.symm) hE4
        try have hr1 := hr1.cellEq (Nat.le_of_eq hs4.symm) hE4
        refine hKC.out _ _ (h4) (fun hHeld => ?_)
        clear hKC KC
        try simp only [Act.put, List.setIfInBounds_toArray, List.set_cons_zero, List.set_cons_succ]
        have hS := hHeld (by kernel_rfl)
        refine tkW (rs := [0]) (by kernel_rfl) (by simp) (AllK.cons (o := _) rfl (fun KC hKC => ?_) AllK.nil)
        refine wantIt rfl (wp_make_row (.some 10) rfl 32 (by decide) _ _ rfl rfl rfl ?_)
        intro g0 w0 hg0 hb0 hB0
        have h0 := hS.trans (hB0.mono hS.size)
        have hr0 := hb0.rowAt0
        try have hr1 := hr1.below hB0
        try have hr3 := hr3.below hB0
        try have hb3 := hb3.below hB0 hb3.lt
        refine hKC.out _ _ (h0) (fun hHeld => ?_)
        clear hKC KC
        try simp only [Act.put, List.setIfInBounds_toArray, List.set_cons_zero, List.set_cons_succ]
        refine tkB 2 (.some 12) _ _ rfl rfl (by kernel_rfl) (by kernel_rfl) (by kernel_rfl) (by kernel_rfl) hPF rfl (fun w' => by (go_simp; try with_reducible rfl)) hHeld (fun hHeld => ?_)
        simp only [Act.put, List.setIfInBounds_toArray, List.set_cons_zero, List.set_cons_succ]
        refine tkW (rs := [5]) (by kernel_rfl) (by simp) (AllK.close (o := _) rfl (by kernel_rfl) (fun KC hKC => ?_) AllK.nil)
        go_simp
        have hS5 := hHeld (by kernel_rfl)
        refine (do_awake _ (hW1.below hS5 hW1.1) g0 g1 g3 hr0 hr1 hr3).mono ?_
        rintro e w5 ⟨⟨p, c, rfl⟩, hB5⟩
        refine hKC.out _ _ (fun hHeld => ?_)
        clear hKC KC
        try simp only [Act.put, List.setIfInBounds_toArray, List.set_cons_zero, List.set_cons_succ]
        refine tkB 6 (.some 9) _ _ rfl rfl (by kernel_rfl) (by kernel_rfl) (by kernel_rfl) (by kernel_rfl) hPF rfl (fun w' => by (go_simp; try with_reducible rfl)) hHeld (fun hHeld => ?_)
        simp only [Act.put, List.setIfInBounds_toArray, List.set_cons_zero, List.set_cons_succ]
        refine tkB 7 (.some 16) _ _ rfl rfl (by kernel_rfl) (by kernel_rfl) (by kernel_rfl) (by kernel_rfl) hPF rfl (fun w' => by (go_simp; try with_reducible rfl)) hHeld (fun hHeld => ?_)
        simp only [Act.put, List.setIfInBounds_toArray, List.set_cons_zero, List.set_cons_succ]
        refine tkB 8 (.some 17) _ _ rfl rfl (by kernel_rfl) (by kernel_rfl) (by kernel_rfl) (by kernel_rfl) hPF rfl (fun w' => by (go_simp; try with_reducible rfl)) hHeld (fun hHeld => ?_)
        simp only [Act.put, List.setIfInBounds_toArray, List.set_cons_zero, List.set_cons_succ]
        refine tkB 9 (.some 3) _ _ rfl rfl (by kernel_rfl) (by kernel_rfl) (by kernel_rfl) (by kernel_rfl) hPF rfl (fun w' => by (go_simp; try with_reducible rfl)) hHeld (fun hHeld => ?_)
        simp only [Act.put, List.setIfInBounds_toArray, List.set_cons_zero, List.set_cons_succ]
        refine tkB 10 (.some 4) _ _ rfl rfl (by kernel_rfl) (by kernel_rfl) (by kernel_rfl) (by kernel_rfl) hPF rfl (fun w' => by (go_simp; try with_reducible rfl)) hHeld (fun hHeld => ?_)
        simp only [Act.put, List.setIfInBounds_toArray, List.set_cons_zero, List.set_cons_succ]
        refine tkD (by kernel_rfl) ?_ _
        have hB := hid (hB1.trans ((hS5.trans (hB5.mono hS5.size)).mono hs1))
        clear hPF hHeld hS5
        go_wp2_with fail
        go_ret
        exact ⟨rfl, hB.out⟩
  ·
    refine wantIt rfl (wp_build_byte (.some 13) rfl 97 97 rfl rfl ?_)
    intro g3 w3 hg3 hb3 hB3
    have h3 := hS.trans (hB3.mono hS.size)
    have hgb3 := hid (Nat.le_trans hS.size hg3)
    have hr3 := hb3.rowAt0
    try have hr0 := hr0.below hB3
    try have hr1 := hr1.below hB3
    refine hKC.out _ _ (h3) (fun hHeld => ?_)
    clear hKC KC
    try simp only [Act.put, List.setIfInBounds_toArray, List.set_cons_zero, List.set_cons_succ]
    have hS := hHeld (by kernel_rfl)
    refine tkW (rs := [0, 1, 4]) (by kernel_rfl) (by simp) (AllK.cons (o := _) rfl (fun KC hKC => ?_) (AllK.cons (o := _) rfl (fun KC hKC => ?_) (AllK.cons (o := _) rfl (fun KC hKC => ?_) AllK.nil)))
    ·
      refine wantIt rfl (wp_make_row (.some 10) rfl 32 (by decide) _ _ rfl rfl rfl ?_)
      intro g0 w0 hg0 hb0 hB0
      have h0 := hS.trans (hB0.mono hS.size)
      have hr0 := hb0.rowAt0
      try have hr1 := hr1.below hB0
      try have hr3 := hr3.below hB0
      try have hb3 := hb3.below hB0 hb3.lt
      refine hKC.out _ _ (h0) (fun hHeld => ?_)
      clear hKC KC
      try simp only [Act.put, List.setIfInBounds_toArray, List.set_cons_zero, List.set_cons_succ]
      have hS := hHeld (by kernel_rfl)
      refine tkW (rs := [1, 4]) (by kernel_rfl) (by simp) (AllK.cons (o := _) rfl (fun KC hKC => ?_) (AllK.cons (o := _) rfl (fun KC hKC => ?_) AllK.nil))
      ·
        refine wantIt rfl (wp_make_row (.some 11) rfl 12 (by decide) _ _ rfl rfl rfl ?_)
        intro g1 w2 hg1 hb1 hB2
        have h1 := hS.trans (hB2.mono hS.size)
        have hr1 := hb1.rowAt0
        try have hr0 := hr0.below hB2
        try have hr3 := hr3.below hB2
        try have hb3 := hb3.below hB2 hb3.lt
        refine hKC.out _ _ (h1) (fun hHeld => ?_)
        clear hKC KC
        try simp only [Act.put, List.setIfInBounds_toArray, List.set_cons_zero, List.set_cons_succ]
        refine tkB 2 (.some 12) _ _ rfl rfl (by kernel_rfl) (by kernel_rfl) (by kernel_rfl) (by kernel_rfl) hPF rfl (fun w' => by (go_simp; try with_reducible rfl)) hHeld (fun hHeld => ?_)
        simp only [Act.put, List.setIfInBounds_toArray, List.set_cons_zero, List.set_cons_succ]
        have hS := hHeld (by kernel_rfl)
        refine tkW (rs := [4]) (by kernel_rfl) (by simp) (AllK.cons (o := _) rfl (fun KC hKC => ?_) AllK.nil)
        refine wantIt rfl (wp_convert_lit (.some 14) rfl (.tmp 13) rfl g3 1 1 rfl _ hb3 ?_)
        intro w4 hC4 hE4 hs4
        have h4 := hS.trans (hC4.below hS.size (fun k hk => by simp at hk; have := hgb3.out; omega))
        have hr3 := hr3.cellEq (Nat.le_of_eq hs4.symm) hE4
        try have hr0 := hr0.cellEq (Nat.le_of_eq hs4.symm) hE4
        try have hr1 := hr1.cellEq (Nat.le_of_eq hs4.symm) hE4
        refine hKC.out _ _ (h4) (fun hHeld => ?_)
        clear hKC KC
        try simp only [Act.put, List.setIfInBounds_toArray, List.set_cons_zero, List.set_cons_succ]
        refine tkW (rs := [5]) (by kernel_rfl) (by simp) (AllK.close (o := _) rfl (by kernel_rfl) (fun KC hKC => ?_) AllK.nil)
        go_simp
        have hS5 := hHeld (by kernel_rfl)
        refine (do_awake _ (hW1.below hS5 hW1.1) g0 g1 g3 hr0 hr1 hr3).mono ?_
        rintro e w5 ⟨⟨p, c, rfl⟩, hB5⟩
        refine hKC.out _ _ (fun hHeld => ?_)
        clear hKC KC
        try simp only [Act.put, List.setIfInBounds_toArray, List.set_cons_zero, List.set_cons_succ]
        refine tkB 6 (.some 9) _ _ rfl rfl (by kernel_rfl) (by kernel_rfl) (by kernel_rfl) (by kernel_rfl) hPF rfl (fun w' => by (go_simp; try with_reducible rfl)) hHeld (fun hHeld => ?_)
        simp only [Act.put, List.setIfInBounds_toArray, List.set_cons_zero, List.set_cons_succ]
        refine tkB 7 (.some 16) _ _ rfl rfl (by kernel_rfl) (by kernel_rfl) (by kernel_rfl) (by kernel_rfl) hPF rfl (fun w' => by (go_simp; try with_reducible rfl)) hHeld (fun hHeld => ?_)
        simp only [Act.put, List.setIfInBounds_toArray, List.set_cons_zero, List.set_cons_succ]
        refine tkB 8 (.some 17) _ _ rfl rfl (by kernel_rfl) (by kernel_rfl) (by kernel_rfl) (by kernel_rfl) hPF rfl (fun w' => by (go_simp; try with_reducible rfl)) hHeld (fun hHeld => ?_)
        simp only [Act.put, List.setIfInBounds_toArray, List.set_cons_zero, List.set_cons_succ]
        refine tkB 9 (.some 3) _ _ rfl rfl (by kernel_rfl) (by kernel_rfl) (by kernel_rfl) (by kernel_rfl) hPF rfl (fun w' => by (go_simp; try with_reducible rfl)) hHeld (fun hHeld => ?_)
        simp only [Act.put, List.setIfInBounds_toArray, List.set_cons_zero, List.set_cons_succ]
        refine tkB 10 (.some 4) _ _ rfl rfl (by kernel_rfl) (by kernel_rfl) (by kernel_rfl) (by kernel_rfl) hPF rfl (fun w' => by (go_simp; try with_reducible rfl)) hHeld (fun hHeld => ?_)
        simp only [Act.put, List.setIfInBounds_toArray, List.set_cons_zero, List.set_cons_succ]
        refine tkD (by kernel_rfl) ?_ _
        have hB := hid (hB1.trans ((hS5.trans (hB5.mono hS5.size)).mono hs1))
        clear hPF hHeld hS5
        go_wp2_with fail
        go_ret
        exact ⟨rfl, hB.out⟩
      ·
        refine wantIt rfl (wp_convert_lit (.some 14) rfl (.tmp 13) rfl g3 1 1 rfl _ hb3 ?_)
        intro w4 hC4 hE4 hs4
        have h4 := hS.trans (hC4.below hS.size (fun k hk => by simp at hk; have := hgb3.out; omega))
        have hr3 := hr3.cellEq (Nat.le_of_eq hs4.symm) hE4
        try have hr0 := hr0.cellEq (Nat.le_of_eq hs4.symm) hE4
        try have hr1 := hr1.cellEq (Nat.le_of_eq hs4.symm) hE4
        refine hKC.out _ _ (h4) (fun hHeld => ?_)
        clear hKC KC
        try simp only [Act.put, List.setIfInBounds_toArray, List.set_cons_zero, List.set_cons_succ]
        have hS := hHeld (by kernel_rfl)
        refine tkW (rs := [1]) (by kernel_rfl) (by simp) (AllK.cons (o := _) rfl (fun KC hKC => ?_) AllK.nil)
        refine wantIt rfl (wp_make_row (.some 11) rfl 12 (by decide) _ _ rfl rfl rfl ?_)
        intro g1 w2 hg1 hb1 hB2
        have h1 := hS.trans (hB2.mono hS.size)
        have hr1 := hb1.rowAt0
        try have hr0 := hr0.below hB2
        try have hr3 := hr3.below hB2
        try have hb3 := hb3.below hB2 hb3.lt
        refine hKC.out _ _ (h1) (fun hHeld => ?_)
        clear hKC KC
        try simp only [Act.put, List.setIfInBounds_toArray, List.set_cons_zero, List.set_cons_succ]
        refine tkB 2 (.some 12) _ _ rfl rfl (by kernel_rfl) (by kernel_rfl) (by kernel_rfl) (by kernel_rfl) hPF rfl (fun w' => by (go_simp; try with_reducible rfl)) hHeld (fun hHeld => ?_)
        simp only [Act.put, List.setIfInBounds_toArray, List.set_cons_zero, List.set_cons_succ]
        refine tkW (rs := [5]) (by kernel_rfl) (by simp) (AllK.close (o := _) rfl (by kernel_rfl) (fun KC hKC => ?_) AllK.nil)
        go_simp
        have hS5 := hHeld (by kernel_rfl)
        refine (do_awake _ (hW1.below hS5 hW1.1) g0 g1 g3 hr0 hr1 hr3).mono ?_
        rintro e w5 ⟨⟨p, c, rfl⟩, hB5⟩
        refine hKC.out _ _ (fun hHeld => ?_)
        clear hKC KC
        try simp only [Act.put, List.setIfInBounds_toArray, List.set_cons_zero, List.set_cons_succ]
        refine tkB 6 (.some 9) _ _ rfl rfl (by kernel_rfl) (by kernel_rfl) (by kernel_rfl) (by kernel_rfl) hPF rfl (fun w' => by (go_simp; try with_reducible rfl)) hHeld (fun hHeld => ?_)
        simp only [Act.put, List.setIfInBounds_toArray, List.set_cons_zero, List.set_cons_succ]
        refine tkB 7 (.some 16) _ _ rfl rfl (by kernel_rfl) (by kernel_rfl) (by kernel_rfl) (by kernel_rfl) hPF rfl (fun w' => by (go_simp; try with_reducible rfl)) hHeld (fun hHeld => ?_)
        simp only [Act.put, List.setIfInBounds_toArray, List.set_cons_zero, List.set_cons_succ]
        refine tkB 8 (.some 17) _ _ rfl rfl (by kernel_rfl) (by kernel_rfl) (by kernel_rfl) (by kernel_rfl) hPF rfl (fun w' => by (go_simp; try with_reducible rfl)) hHeld (fun hHeld => ?_)
        simp only [Act.put, List.setIfInBounds_toArray, List.set_cons_zero, List.set_cons_succ]
        refine tkB 9 (.some 3) _ _ rfl rfl (by kernel_rfl) (by kernel_rfl) (by kernel_rfl) (by kernel_rfl) hPF rfl (fun w' => by (go_simp; try with_reducible rfl)) hHeld (fun hHeld => ?_)
        simp only [Act.put, List.setIfInBounds_toArray, List.set_cons_zero, List.set_cons_succ]
        refine tkB 10 (.some 4) _ _ rfl rfl (by kernel_rfl) (by kernel_rfl) (by kernel_rfl) (by kernel_rfl) hPF rfl (fun w' => by (go_simp; try with_reducible rfl)) hHeld (fun hHeld => ?_)
        simp only [Act.put, List.setIfInBounds_toArray, List.set_cons_zero, List.set_cons_succ]
        refine tkD (by kernel_rfl) ?_ _
        have hB := hid (hB1.trans ((hS5.trans (hB5.mono hS5.size)).mono hs1))
        clear hPF hHeld hS5
        go_wp2_with fail
        go_ret
        exact ⟨rfl, hB.out⟩
    ·
      refine wantIt rfl (wp_make_row (.some 11) rfl 12 (by decide) _ _ rfl rfl rfl ?_)
      intro g1 w2 hg1 hb1 hB2
      have h1 := hS.trans (hB2.mono hS.size)
      have hr1 := hb1.rowAt0
      try have hr0 := hr0.below hB2
      try have hr3 := hr3.below hB2
      try have hb3 := hb3.below hB2 hb3.lt
      refine hKC.out _ _ (h1) (fun hHeld => ?_)
      clear hKC KC
      try simp only [Act.put, List.setIfInBounds_toArray, List.set_cons_zero, List.set_cons_succ]
      have hS := hHeld (by kernel_rfl)
      refine tkW (rs := [0, 4]) (by kernel_rfl) (by simp) (AllK.cons (o := _) rfl (fun KC hKC => ?_) (AllK.cons (o := _) rfl (fun KC hKC => ?_) AllK.nil))
      ·
        refine wantIt rfl (wp_make_row (.some 10) rfl 32 (by decide) _ _ rfl rfl rfl ?_)
        intro g0 w0 hg0 hb0 hB0
        have h0 := hS.trans (hB0.mono hS.size)
        have hr0 := hb0.rowAt0
        try have hr1 := hr1.below hB0
        try have hr3 := hr3.below hB0
        try have hb3 := hb3.below hB0 hb3.lt
        refine hKC.out _ _ (h0) (fun hHeld => ?_)
        clear hKC KC
        try simp only [Act.put, List.setIfInBounds_toArray, List.set_cons_zero, List.set_cons_succ]
        refine tkB 2 (.some 12) _ _ rfl rfl (by kernel_rfl) (by kernel_rfl) (by kernel_rfl) (by kernel_rfl) hPF rfl (fun w' => by (go_simp; try with_reducible rfl)) hHeld (fun hHeld => ?_)
        simp only [Act.put, List.setIfInBounds_toArray, List.set_cons_zero, List.set_cons_succ]
        have hS := hHeld (by kernel_rfl)
        refine tkW (rs := [4]) (by kernel_rfl) (by simp) (AllK.cons (o := _) rfl (fun KC hKC => ?_) AllK.nil)
        refine wantIt rfl (wp_convert_lit (.some 14) rfl (.tmp 13) rfl g3 1 1 rfl _ hb3 ?_)
        intro w4 hC4 hE4 hs4
        have h4 := hS.trans (hC4.below hS.size (fun k hk => by simp at hk; have := hgb3.out; omega))
        have hr3 := hr3.cellEq (Nat.le_of_eq hs4.symm) hE4
        try have hr0 := hr0.cellEq (Nat.le_of_eq hs4.symm) hE4
        try have hr1 := hr1.cellEq (Nat.le_of_eq hs4.symm) hE4
        refine hKC.out _ _ (h4) (fun hHeld => ?_)
        clear hKC KC
        try simp only [Act.put, List.setIfInBounds_toArray, List.set_cons_zero, List.set_cons_succ]
        refine tkW (rs := [5]) (by kernel_rfl) (by simp) (AllK.close (o := _) rfl (by kernel_rfl) (fun KC hKC => ?_) AllK.nil)
        go_simp
        have hS5 := hHeld (by kernel_rfl)
        refine (do_awake _ (hW1.below hS5 hW1.1) g0 g1 g3 hr0 hr1 hr3).mono ?_
        rintro e w5 ⟨⟨p, c, rfl⟩, hB5⟩
        refine hKC.out _ _ (fun hHeld => ?_)
        clear hKC KC
        try simp only [Act.put, List.setIfInBounds_toArray, List.set_cons_zero, List.set_cons_succ]
        refine tkB 6 (.some 9) _ _ rfl rfl (by kernel_rfl) (by kernel_rfl) (by kernel_rfl) (by kernel_rfl) hPF rfl (fun w' => by (go_simp; try with_reducible rfl)) hHeld (fun hHeld => ?_)
        simp only [Act.put, List.setIfInBounds_toArray, List.set_cons_zero, List.set_cons_succ]
        refine tkB 7 (.some 16) _ _ rfl rfl (by kernel_rfl) (by kernel_rfl) (by kernel_rfl) (by kernel_rfl) hPF rfl (fun w' => by (go_simp; try with_reducible rfl)) hHeld (fun hHeld => ?_)
        simp only [Act.put, List.setIfInBounds_toArray, List.set_cons_zero, List.set_cons_succ]
        refine tkB 8 (.some 17) _ _ rfl rfl (by kernel_rfl) (by kernel_rfl) (by kernel_rfl) (by kernel_rfl) hPF rfl (fun w' => by (go_simp; try with_reducible rfl)) hHeld (fun hHeld => ?_)
        simp only [Act.put, List.setIfInBounds_toArray, List.set_cons_zero, List.set_cons_succ]
        refine tkB 9 (.some 3) _ _ rfl rfl (by kernel_rfl) (by kernel_rfl) (by kernel_rfl) (by kernel_rfl) hPF rfl (fun w' => by (go_simp; try with_reducible rfl)) hHeld (fun hHeld => ?_)
        simp only [Act.put, List.setIfInBounds_toArray, List.set_cons_zero, List.set_cons_succ]
        refine tkB 10 (.some 4) _ _ rfl rfl (by kernel_rfl) (by kernel_rfl) (by kernel_rfl) (by kernel_rfl) hPF rfl (fun w' => by (go_simp; try with_reducible rfl)) hHeld (fun hHeld => ?_)
        simp only [Act.put, List.setIfInBounds_toArray, List.set_cons_zero, List.set_cons_succ]
        refine tkD (by kernel_rfl) ?_ _
        have hB := hid (hB1.trans ((hS5.trans (hB5.mono hS5.size)).mono hs1))
        clear hPF hHeld hS5
        go_wp2_with fail
        go_ret
        exact ⟨rfl, hB.out⟩
      ·
        refine wantIt rfl (wp_convert_lit (.some 14) rfl (.tmp 13) rfl g3 1 1 rfl _ hb3 ?_)
        intro w4 hC4 hE4 hs4
        have h4 := hS.trans (hC4.below hS.size (fun k hk => by simp at hk; have := hgb3.out; omega))
        have hr3 := hr3.cellEq (Nat.le_of_eq hs4.symm) hE4
        try have hr0 := hr0.cellEq (Nat.le_of_eq hs4.symm) hE4
        try have hr1 := hr1.cellEq (Nat.le_of_eq hs4.symm) hE4
        refine hKC.out _ _ (h4) (fun hHeld => ?_)
        clear hKC KC
        try simp only [Act.put, List.setIfInBounds_toArray, List.set_cons_zero, List.set_cons_succ]
        have hS := hHeld (by kernel_rfl)
        refine tkW (rs := [0]) (by kernel_rfl) (by simp) (AllK.cons (o := _) rfl (fun KC hKC => ?_) AllK.nil)
        refine wantIt rfl (wp_make_row (.some 10) rfl 32 (by decide) _ _ rfl rfl rfl ?_)
        intro g0 w0 hg0 hb0 hB0
        have h0 := hS.trans (hB0.mono hS.size)
        have hr0 := hb0.rowAt0
        try have hr1 := hr1.below hB0
        try have hr3 := hr3.below hB0
        try have hb3 := hb3.below hB0 hb3.lt
        refine hKC.out _ _ (h0) (fun hHeld => ?_)
        clear hKC KC
        try simp only [Act.put, List.setIfInBounds_toArray, List.set_cons_zero, List.set_cons_succ]
        refine tkB 2 (.some 12) _ _ rfl rfl (by kernel_rfl) (by kernel_rfl) (by kernel_rfl) (by kernel_rfl) hPF rfl (fun w' => by (go_simp; try with_reducible rfl)) hHeld (fun hHeld => ?_)
        simp only [Act.put, List.setIfInBounds_toArray, List.set_cons_zero, List.set_cons_succ]
        refine tkW (rs := [5]) (by kernel_rfl) (by simp) (AllK.close (o := _) rfl (by kernel_rfl) (fun KC hKC => ?_) AllK.nil)
        go_simp
        have hS5 := hHeld (by kernel_rfl)
        refine (do_awake _ (hW1.below hS5 hW1.1) g0 g1 g3 hr0 hr1 hr3).mono ?_
        rintro e w5 ⟨⟨p, c, rfl⟩, hB5⟩
        refine hKC.out _ _ (fun hHeld => ?_)
        clear hKC KC
        try simp only [Act.put, List.setIfInBounds_toArray, List.set_cons_zero, List.set_cons_succ]
        refine tkB 6 (.some 9) _ _ rfl rfl (by kernel_rfl) (by kernel_rfl) (by kernel_rfl) (by kernel_rfl) hPF rfl (fun w' => by (go_simp; try with_reducible rfl)) hHeld (fun hHeld => ?_)
        simp only [Act.put, List.setIfInBounds_toArray, List.set_cons_zero, List.set_cons_succ]
        refine tkB 7 (.some 16) _ _ rfl rfl (by kernel_rfl) (by kernel_rfl) (by kernel_rfl) (by kernel_rfl) hPF rfl (fun w' => by (go_simp; try with_reducible rfl)) hHeld (fun hHeld => ?_)
        simp only [Act.put, List.setIfInBounds_toArray, List.set_cons_zero, List.set_cons_succ]
        refine tkB 8 (.some 17) _ _ rfl rfl (by kernel_rfl) (by kernel_rfl) (by kernel_rfl) (by kernel_rfl) hPF rfl (fun w' => by (go_simp; try with_reducible rfl)) hHeld (fun hHeld => ?_)
        simp only [Act.put, List.setIfInBounds_toArray, List.set_cons_zero, List.set_cons_succ]
        refine tkB 9 (.some 3) _ _ rfl rfl (by kernel_rfl) (by kernel_rfl) (by kernel_rfl) (by kernel_rfl) hPF rfl (fun w' => by (go_simp; try with_reducible rfl)) hHeld (fun hHeld => ?_)
        simp only [Act.put, List.setIfInBounds_toArray, List.set_cons_zero, List.set_cons_succ]
        refine tkB 10 (.some 4) _ _ rfl rfl (by kernel_rfl) (by kernel_rfl) (by kernel_rfl) (by kernel_rfl) hPF rfl (fun w' => by (go_simp; try with_reducible rfl)) hHeld (fun hHeld => ?_)
        simp only [Act.put, List.setIfInBounds_toArray, List.set_cons_zero, List.set_cons_succ]
        refine tkD (by kernel_rfl) ?_ _
        have hB := hid (hB1.trans ((hS5.trans (hB5.mono hS5.size)).mono hs1))
        clear hPF hHeld hS5
        go_wp2_with fail
        go_ret
        exact ⟨rfl, hB.out⟩
    ·
      refine wantIt rfl (wp_convert_lit (.some 14) rfl (.tmp 13) rfl g3 1 1 rfl _ hb3 ?_)
      intro w4 hC4 hE4 hs4
      have h4 := hS.trans (hC4.below hS.size (fun k hk => by simp at hk; have := hgb3.out; omega))
      have hr3 := hr3.cellEq (Nat.le_of_eq hs4.symm) hE4
      try have hr0 := hr0.cellEq (Nat.le_of_eq hs4.symm) hE4
      try have hr1 := hr1.cellEq (Nat.le_of_eq hs4.symm) hE4
      refine hKC.out _ _ (h4) (fun hHeld => ?_)
      clear hKC KC
      try simp only [Act.put, List.setIfInBounds_toArray, List.set_cons_zero, List.set_cons_succ]
      have hS := hHeld (by kernel_rfl)
      refine tkW (rs := [0, 1]) (by kernel_rfl) (by simp) (AllK.cons (o := _) rfl (fun KC hKC => ?_) (AllK.cons (o := _) rfl (fun KC hKC => ?_) AllK.nil))
      ·
        refine wantIt rfl (wp_make_row (.some 10) rfl 32 (by decide) _ _ rfl rfl rfl ?_)
        intro g0 w0 hg0 hb0 hB0
        have h0 := hS.trans (hB0.mono hS.size)
        have hr0 := hb0.rowAt0
        try have hr1 := hr1.below hB0
        try have hr3 := hr3.below hB0
        try have hb3 := hb3.below hB0 hb3.lt
        refine hKC.out _ _ (h0) (fun hHeld => ?_)
        clear hKC KC
        try simp only [Act.put, List.setIfInBounds_toArray, List.set_cons_zero, List.set_cons_succ]
        have hS := hHeld (by kernel_rfl)
        refine tkW (rs := [1]) (by kernel_rfl) (by simp) (AllK.cons (o := _) rfl (fun KC hKC => ?_) AllK.nil)
        refine wantIt rfl (wp_make_row (.some 11) rfl 12 (by decide) _ _ rfl rfl rfl ?_)
        intro g1 w2 hg1 hb1 hB2
        have h1 := hS.trans (hB2.mono hS.size)
        have hr1 := hb1.rowAt0
        try have hr0 := hr0.below hB2
        try have hr3 := hr3.below hB2
        try have hb3 := hb3.below hB2 hb3.lt
        refine hKC.out _ _ (h1) (fun hHeld => ?_)
        clear hKC KC
        try simp only [Act.put, List.setIfInBounds_toArray, List.set_cons_zero, List.set_cons_succ]
        refine tkB 2 (.some 12) _ _ rfl rfl (by kernel_rfl) (by kernel_rfl) (by kernel_rfl) (by kernel_rfl) hPF rfl (fun w' => by (go_simp; try with_reducible rfl)) hHeld (fun hHeld => ?_)
        simp only [Act.put, List.setIfInBounds_toArray, List.set_cons_zero, List.set_cons_succ]
        refine tkW (rs := [5]) (by kernel_rfl) (by simp) (AllK.close (o := _) rfl (by kernel_rfl) (fun KC hKC => ?_) AllK.nil)
        go_simp
        have hS5 := hHeld (by kernel_rfl)
        refine (do_awake _ (hW1.below hS5 hW1.1) g0 g1 g3 hr0 hr1 hr3).mono ?_
        rintro e w5 ⟨⟨p, c, rfl⟩, hB5⟩
        refine hKC.out _ _ (fun hHeld => ?_)
        clear hKC KC
        try simp only [Act.put, List.setIfInBounds_toArray, List.set_cons_zero, List.set_cons_succ]
        refine tkB 6 (.some 9) _ _ rfl rfl (by kernel_rfl) (by kernel_rfl) (by kernel_rfl) (by kernel_rfl) hPF rfl (fun w' => by (go_simp; try with_reducible rfl)) hHeld (fun hHeld => ?_)
        simp only [Act.put, List.setIfInBounds_toArray, List.set_cons_zero, List.set_cons_succ]
        refine tkB 7 (.some 16) _ _ rfl rfl (by kernel_rfl) (by kernel_rfl) (by kernel_rfl) (by kernel_rfl) hPF rfl (fun w' => by (go_simp; try with_reducible rfl)) hHeld (fun hHeld => ?_)
        simp only [Act.put, List.setIfInBounds_toArray, List.set_cons_zero, List.set_cons_succ]
        refine tkB 8 (.some 17) _ _ rfl rfl (by kernel_rfl) (by kernel_rfl) (by kernel_rfl) (by kernel_rfl) hPF rfl (fun w' => by (go_simp; try with_reducible rfl)) hHeld (fun hHeld => ?_)
        simp only [Act.put, List.setIfInBounds_toArray, List.set_cons_zero, List.set_cons_succ]
        refine tkB 9 (.some 3) _ _ rfl rfl (by kernel_rfl) (by kernel_rfl) (by kernel_rfl) (by kernel_rfl) hPF rfl (fun w' => by (go_simp; try with_reducible rfl)) hHeld (fun hHeld => ?_)
        simp only [Act.put, List.setIfInBounds_toArray, List.set_cons_zero, List.set_cons_succ]
        refine tkB 10 (.some 4) _ _ rfl rfl (by kernel_rfl) (by kernel_rfl) (by kernel_rfl) (by kernel_rfl) hPF rfl (fun w' => by (go_simp; try with_reducible rfl)) hHeld (fun hHeld => ?_)
        simp only [Act.put, List.setIfInBounds_toArray, List.set_cons_zero, List.set_cons_succ]
        refine tkD (by kernel_rfl) ?_ _
        have hB := hid (hB1.trans ((hS5.trans (hB5.mono hS5.size)).mono hs1))
        clear hPF hHeld hS5
        go_wp2_with fail
        go_ret
        exact ⟨rfl, hB.out⟩
      ·
        refine wantIt rfl (wp_make_row (.some 11) rfl 12 (by decide) _ _ rfl rfl rfl ?_)
        intro g1 w2 hg1 hb1 hB2
        have h1 := hS.trans (hB2.mono hS.size)
        have hr1 := hb1.rowAt0
        try have hr0 := hr0.below hB2
        try have hr3 := hr3.below hB2
        try have hb3 := hb3.below hB2 hb3.lt
        refine hKC.out _ _ (h1) (fun hHeld => ?_)
        clear hKC KC
        try simp only [Act.put, List.setIfInBounds_toArray, List.set_cons_zero, List.set_cons_succ]
        have hS := hHeld (by kernel_rfl)
        refine tkW (rs := [0]) (by kernel_rfl) (by simp) (AllK.cons (o := _) rfl (fun KC hKC => ?_) AllK.nil)
        refine wantIt rfl (wp_make_row (.some 10) rfl 32 (by decide) _ _ rfl rfl rfl ?_)
        intro g0 w0 hg0 hb0 hB0
        have h0 := hS.trans (hB0.mono hS.size)
        have hr0 := hb0.rowAt0
        try have hr1 := hr1.below hB0
        try have hr3 := hr3.below hB0
        try have hb3 := hb3.below hB0 hb3.lt
        refine hKC.out _ _ (h0) (fun hHeld => ?_)
        clear hKC KC
        try simp only [Act.put, List.setIfInBounds_toArray, List.set_cons_zero, List.set_cons_succ]
        refine tkB 2 (.some 12) _ _ rfl rfl (by kernel_rfl) (by kernel_rfl) (by kernel_rfl) (by kernel_rfl) hPF rfl (fun w' => by (go_simp; try with_reducible rfl)) hHeld (fun hHeld => ?_)
        simp only [Act.put, List.setIfInBounds_toArray, List.set_cons_zero, List.set_cons_succ]
        refine tkW (rs := [5]) (by kernel_rfl) (by simp) (AllK.close (o := _) rfl (by kernel_rfl) (fun KC hKC => ?_) AllK.nil)
        go_simp
        have hS5 := hHeld (by kernel_rfl)
        refine (do_awake _ (hW1.below hS5 hW1.1) g0 g1 g3 hr0 hr1 hr3).mono ?_
        rintro e w5 ⟨⟨p, c, rfl⟩, hB5⟩
        refine hKC.out _ _ (fun hHeld => ?_)
        clear hKC KC
        try simp only [Act.put, List.setIfInBounds_toArray, List.set_cons_zero, List.set_cons_succ]
        refine tkB 6 (.some 9) _ _ rfl rfl (by kernel_rfl) (by kernel_rfl) (by kernel_rfl) (by kernel_rfl) hPF rfl (fun w' => by (go_simp; try with_reducible rfl)) hHeld (fun hHeld => ?_)
        simp only [Act.put, List.setIfInBounds_toArray, List.set_cons_zero, List.set_cons_succ]
        refine tkB 7 (.some 16) _ _ rfl rfl (by kernel_rfl) (by kernel_rfl) (by kernel_rfl) (by kernel_rfl) hPF rfl (fun w' => by (go_simp; try with_reducible rfl)) hHeld (fun hHeld => ?_)
        simp only [Act.put, List.setIfInBounds_toArray, List.set_cons_zero, List.set_cons_succ]
        refine tkB 8 (.some 17) _ _ rfl rfl (by kernel_rfl) (by kernel_rfl) (by kernel_rfl) (by kernel_rfl) hPF rfl (fun w' => by (go_simp; try with_reducible rfl)) hHeld (fun hHeld => ?_)
        simp only [Act.put, List.setIfInBounds_toArray, List.set_cons_zero, List.set_cons_succ]
        refine tkB 9 (.some 3) _ _ rfl rfl (by kernel_rfl) (by kernel_rfl) (by kernel_rfl) (by kernel_rfl) hPF rfl (fun w' => by (go_simp; try with_reducible rfl)) hHeld (fun hHeld => ?_)
        simp only [Act.put, List.setIfInBounds_toArray, List.set_cons_zero, List.set_cons_succ]
        refine tkB 10 (.some 4) _ _ rfl rfl (by kernel_rfl) (by kernel_rfl) (by kernel_rfl) (by kernel_rfl) hPF rfl (fun w' => by (go_simp; try with_reducible rfl)) hHeld (fun hHeld => ?_)
        simp only [Act.put, List.setIfInBounds_toArray, List.set_cons_zero, List.set_cons_succ]
        refine tkD (by kernel_rfl) ?_ _
        have hB := hid (hB1.trans ((hS5.trans (hB5.mono hS5.size)).mono hs1))
        clear hPF hHeld hS5
        go_wp2_with fail
        go_ret
        exact ⟨rfl, hB.out⟩
end Go.Proofs.YtnmmnlffobnbfaaGreatDoor
