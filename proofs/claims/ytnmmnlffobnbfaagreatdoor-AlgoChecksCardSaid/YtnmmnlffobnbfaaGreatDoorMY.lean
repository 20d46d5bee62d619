/- Hm (joined by merge4.py) -/
import Derived.Test.YtnmmnlffobnbfaaGreatDoorMX
import Derived.Test.YtnmmnlffobnbfaaGreatDoorMK
/- hmac, walked -/
namespace Go.Proofs.YtnmmnlffobnbfaaGreatDoor
open Go.RowKit

abbrev tHst : TypeId := 203
theorem sizeHst : (Tryz.prog.info? tHst).map (·.size) = some 65 := by kernel_rfl
def HC (key : List UInt8) (v : Value) : List Value := bys key ++ [v]
theorem HC_key (key : List UInt8) (v : Value) (hk : key.length = 64) : ((HC key v).drop 0).take 64 = bys key := by
  unfold HC; rw [List.drop_zero, List.take_append_of_le_length (by rw [bys_length, hk]; decide), List.take_of_length_le (by rw [bys_length, hk]; decide)]
theorem HC_at (key : List UInt8) (v : Value) (hk : key.length = 64) : (HC key v)[64]? = some v := by
  unfold HC; rw [List.getElem?_append_right (by rw [bys_length, hk]; decide), bys_length, hk]; rfl
theorem HC_set (key : List UInt8) (v u : Value) (hk : key.length = 64) : (HC key v).set 64 u = HC key u := by
  unfold HC; rw [List.set_append_right _ _ (by rw [bys_length, hk]; decide), bys_length, hk]; rfl
theorem HC_len (key : List UInt8) (v : Value) (hk : key.length = 64) : (HC key v).length = 65 := by simp [HC, bys_length, hk]
theorem HC_row {w : World} {p : Nat} {key : List UInt8} {v : Value} (h : Blk w p (HC key v) tHst) (_ : key.length = 64) : RowAt w (some ⟨p, 0, none⟩) key := fun k hk2 => ⟨p, 0, rfl, h.lt, by
  rw [h.cell, Nat.zero_add]
  unfold HC
  rw [List.getElem?_append_left (by rw [bys_length]; exact hk2), bys_get key k hk2]⟩
theorem HC_splice (key : List UInt8) (v : Value) (l : List UInt8) (hk : key.length = 64) (hl : l.length ≤ 64) : splice (HC key v) 0 (bys l) = HC (l ++ key.drop l.length) v := by
  unfold splice HC
  rw [List.take_zero, List.nil_append, Nat.zero_add, bys_length, List.drop_append_of_le_length (by rw [bys_length, hk]; exact hl)]
  simp [bys]
/-- A key turned by a byte. -/
def padB (key : List UInt8) (x : UInt8) : List UInt8 := key.map (· ^^^ x)
theorem padB_zip (key : List UInt8) (x : UInt8) : List.zipWith (· ^^^ ·) key (List.replicate key.length x) = padB key x := by
  unfold padB
  induction key with
  | nil => rfl
  | cons a l ih => simp [List.replicate_succ, ih]
theorem padB_len (key : List UInt8) (x : UInt8) : (padB key x).length = key.length := by simp [padB]

set_option maxRecDepth 100000 in
set_option maxHeartbeats 4000000 in
theorem hpad_any (w : World) (p : Nat) (key : List UInt8) (v : Value) (x : UInt8) (hp : Blk w p (HC key v) tHst) (hk : key.length = 64) :
    Calls Tryz.prog 166 #[.pointer (some ⟨p, 0, none⟩), .int .u8 (bv x)] w fun e w' => ∃ g, w.heap.size ≤ g ∧ e = .returned (.slice (some ⟨g, 0, none⟩) 64 64) ∧ Blk w' g (bys (padB key x)) tU8 ∧ Below w.heap.size w w' := by
  have HP := hid hp
  have Hk := hid hk
  have hz := padB_zip key x
  rw [hk] at hz
  have hYl : (List.replicate 64 x).length = 64 := by simp
  have HR := hid (fun W b T hb => repeat_any W b 1 x T hb 64 (by omega) (.inr rfl))
  obtain ⟨Y, hY⟩ : ∃ Y, List.replicate 64 x = Y := ⟨_, rfl⟩
  rw [hY] at hz hYl HR
  obtain ⟨n64, hn⟩ : ∃ n, n = 64 := ⟨_, rfl⟩
  have hni : (64 : Int) = (n64 : Int) := by omega
  have Hz := hid hz
  clear hp hk hz hY hn hni n64
  go_enter Tryz.func166, Tryz.ntmps166
  go_upto_region 1 with fail
  have S0 : Below w.heap.size w w.drew := (Below.refl _ _).drew
  try simp only [Act.put]
  refine tkR (fun w' => Below w.heap.size w w') [7] (by kernel_rfl) (fun c a d v w h => by cases d <;> exact h) (S0) (fun hPF hHeld => ?_)
  refine tkB 0 (.some 5) _ _ rfl rfl (by kernel_rfl) (by kernel_rfl) (by kernel_rfl) (by kernel_rfl) hPF rfl (fun w' => by (go_simp; try with_reducible rfl)) hHeld (fun hHeld => ?_)
  simp only [Act.put, List.setIfInBounds_toArray, List.set_cons_zero, List.set_cons_succ]
  refine tkB 1 (.some 6) _ _ rfl rfl (by kernel_rfl) (by kernel_rfl) (by kernel_rfl) (by kernel_rfl) hPF rfl (fun w' => by (go_simp; try with_reducible rfl)) hHeld (fun hHeld => ?_)
  simp only [Act.put, List.setIfInBounds_toArray, List.set_cons_zero, List.set_cons_succ]
  refine tkB 2 (.some 7) _ _ rfl rfl (by kernel_rfl) (by kernel_rfl) (by kernel_rfl) (by kernel_rfl) hPF rfl (fun w' => by (go_simp; try with_reducible rfl)) hHeld (fun hHeld => ?_)
  simp only [Act.put, List.setIfInBounds_toArray, List.set_cons_zero, List.set_cons_succ]
  refine tkA 3 (.some 8) _ (.slice (some ⟨p, 0, none⟩) 64 64) rfl rfl (by kernel_rfl) (by kernel_rfl) (by kernel_rfl) (by kernel_rfl) (by kernel_rfl) hPF rfl (fun w' hw' => by (go_simp)) hHeld (fun hHeld => ?_)
  simp only [Act.put, List.setIfInBounds_toArray, List.set_cons_zero, List.set_cons_succ]
  refine tkB 4 (.some 9) _ _ rfl rfl (by kernel_rfl) (by kernel_rfl) (by kernel_rfl) (by kernel_rfl) hPF rfl (fun w' => by (go_simp; try with_reducible rfl)) hHeld (fun hHeld => ?_)
  simp only [Act.put, List.setIfInBounds_toArray, List.set_cons_zero, List.set_cons_succ]
  have hS := hHeld (by kernel_rfl)
  refine tkW (rs := [5]) (by kernel_rfl) (by simp) (AllK.cons (o := _) rfl (fun KC hKC => ?_) AllK.nil)
  go_simp
  have h5 := hS.alloc hS.size (.cells #[.int .u8 (bv x)] tU8)
  have hb5 : Blk (w.alloc (.cells #[.int .u8 (bv x)] tU8)).drew w.heap.size [.int .u8 (bv x)] tU8 := (Blk.new w [.int .u8 (bv x)] tU8).drew
  refine hKC.out _ _ (h5) (fun hHeld => ?_)
  clear hKC KC
  try simp only [Act.put, List.setIfInBounds_toArray, List.set_cons_zero, List.set_cons_succ]
  have hS := hHeld (by kernel_rfl)
  refine tkW (rs := [6]) (by kernel_rfl) (by simp) (AllK.cons (o := _) rfl (fun KC hKC => ?_) AllK.nil)
  go_simp
  refine (HR.out _ _ tU8 hb5).mono ?_
  rintro e w6 ⟨rfl, ⟨rest, hb6⟩, hB6⟩
  have h6 := hS.trans (hB6.mono hS.size)
  refine hKC.out _ _ (h6) (fun hHeld => ?_)
  clear hKC KC
  try simp only [Act.put, List.setIfInBounds_toArray, List.set_cons_zero, List.set_cons_succ]
  refine tkW (rs := [7]) (by kernel_rfl) (by simp) (AllK.close (o := _) rfl (by kernel_rfl) (fun KC hKC => ?_) AllK.nil)
  go_simp
  have hr6 := hb6.headRow
  rw [show (w.alloc (.cells #[.int .u8 (bv x)] tU8)).drew.heap.size = w.heap.size + 1 from by simp] at hr6
  have hS7 := hHeld (by kernel_rfl)
  have hrk := HC_row (HP.out.below hS7 HP.out.lt) Hk.out
  with_reducible refine (xor_any _ _ _ 64 64 64 64 64 key Y hrk hr6 Hk.out hYl (by omega) (by omega)).mono ?_
  rintro e w7 ⟨rfl, hb7, hB7⟩
  refine hKC.out _ _ (fun hHeld => ?_)
  clear hKC KC
  try simp only [Act.put, List.setIfInBounds_toArray, List.set_cons_zero, List.set_cons_succ]
  refine tkB 8 (.some 4) _ _ rfl rfl (by kernel_rfl) (by kernel_rfl) (by kernel_rfl) (by kernel_rfl) hPF rfl (fun w' => by (go_simp; try with_reducible rfl)) hHeld (fun hHeld => ?_)
  simp only [Act.put, List.setIfInBounds_toArray, List.set_cons_zero, List.set_cons_succ]
  refine tkD (by kernel_rfl) ?_ _
  go_wp2_with fail
  go_ret
  refine ⟨_, by have := hS7.size; omega, rfl, ?_, hS7.trans (hB7.mono hS7.size)⟩
  rw [← Hz.out]; exact hb7

theorem wpList_copy_row {w : World} {ops : Array Oper} {rest : List Oper} {o : Oper} {a : Act} {Q : Exit → Act → World → Prop} (hgd : o.guard = none) (d s : Operand)
    (ho : o.op = .call { callee := .builtin .copy, args := #[d, s], argTypes := #[23, 23] })
    (g off dLen dCap : Nat) (ps : Option Addr) (sLen sCap : Nat) (hd : a.eval d = .slice (some ⟨g, off, none⟩) dLen dCap) (hs : a.eval s = .slice ps sLen sCap)
    (cur : List Value) (t : TypeId) (hg : Blk w g cur t) (Y : List UInt8) (hY : RowAt w ps Y) (hm : Y.length = sLen) (h0 : 0 < sLen) (hle : sLen ≤ dLen) (hfit : off + sLen ≤ cur.length)
    (h : ∀ w', Blk w' g (splice cur off (bys Y)) t → Chg w.heap.size [g] w w' → w'.heap.size = w.heap.size → wpList Tryz.prog ops Q rest (a.put o.dst (goInt sLen)) w') :
    wpList Tryz.prog ops Q (o :: rest) a w := by
  obtain ⟨q, qo, rfl, _, _⟩ := hY 0 (by omega)
  have hl : (bys Y).length = sLen := by rw [bys_length, hm]
  refine wpList_copy_own hgd d s 23 23 ho 5 under33b (by kernel_rfl) g off dLen dCap ⟨q, qo, none⟩ sLen sCap hd hs cur.toArray t hg (bys Y) (by rw [hl]; exact (Nat.min_eq_left hle).symm) (fun j v hv => ?_) (by rw [hl]; simpa using hfit) (bys_one _) ?_
  · have hj : j < Y.length := by
      rcases Nat.lt_or_ge j Y.length with hh | hh
      · exact hh
      · rw [List.getElem?_eq_none (by rw [bys_length]; exact hh)] at hv; cases hv
    obtain ⟨b, o, e, _, hc⟩ := hY j hj
    cases e
    rw [Addr.add_mid, hc, ← hv, bys_get Y j hj]
  · have := h (w.setRow g (splice cur off (bys Y)).toArray) (hg.setRow _) ((Chg.refl _ _ _).setRow (.inl (by simp)) _) (by simp)
    rw [hl]
    simpa [splice, hl] using this
/-- A state of sha in memory. -/
def ShaAt (base : Nat) (w : World) (q : Nat) (X : List UInt8) : Prop :=
  base ≤ q ∧ X.length < 1000000000 ∧ ∃ v, Blk w q (SC (swrF shaStart X).1 v X.length) tSst ∧ TailR base w v (swrF shaStart X).2
/-- A state of HMAC in memory. -/
def HmAt (base : Nat) (w : World) (p : Nat) (key X : List UInt8) : Prop :=
  base ≤ p ∧ key.length = 64 ∧ ∃ q, Blk w p (HC key (.pointer (some ⟨q, 0, none⟩))) tHst ∧ ShaAt base w q X
theorem ShaAt.below {base : Nat} {w w' : World} {q : Nat} {X : List UInt8} (h : ShaAt base w q X) (hB : Below w.heap.size w w') : ShaAt base w' q X := by
  obtain ⟨h0, h9, v, h1, h2⟩ := h
  exact ⟨h0, h9, v, h1.below hB h1.lt, h2.below hB⟩
theorem HmAt.below {base : Nat} {w w' : World} {p : Nat} {key X : List UInt8} (h : HmAt base w p key X) (hB : Below w.heap.size w w') : HmAt base w' p key X := by
  obtain ⟨h0, h9, q, h1, h2⟩ := h
  exact ⟨h0, h9, q, h1.below hB h1.lt, h2.below hB⟩
/-- Write, of a state of sha and of a block beside it. -/
theorem shwrite_any (base : Nat) (w : World) (hW : TabW w) (hb0 : 0 < base) (q : Nat) (X : List UInt8) (h : ShaAt base w q X) (pb : Option Addr) (n cap : Nat) (b : List UInt8) (hb : RowAt w pb b) (hn : b.length = n) (h9 : X.length + n < 1000000000) (hbase : base ≤ w.heap.size) :
    Calls Tryz.prog 15 #[.pointer (some ⟨q, 0, none⟩), .slice pb n cap] w fun e w' => e = .returned (.tuple #[]) ∧ ShaAt base w' q (X ++ b) ∧ Below base w w' ∧ KeepX q w w' := by
  obtain ⟨hq, hX, v, h1, h2⟩ := h
  refine (swrite_any base w hW hb0 q hq (swrF shaStart X).1 v (swrF shaStart X).2 X.length h1 h2 (swrF_len _ _ rfl) (swrF_left _ _) pb n cap b hb hn (by omega) hX hbase).mono ?_
  rintro e w' ⟨rfl, ⟨v', h3, h4⟩, hB, hK⟩
  refine ⟨rfl, ⟨hq, by rw [List.length_append, hn]; exact h9, v', ?_, ?_⟩, hB, hK⟩
  · rw [List.length_append, hn, swrF_append]; exact h3
  · rw [swrF_append]; exact h4
theorem shsum_any (base : Nat) (w : World) (hW : TabW w) (q : Nat) (X : List UInt8) (h : ShaAt base w q X) :
    Calls Tryz.prog 17 #[.pointer (some ⟨q, 0, none⟩)] w fun e w' => e = .returned (.agg (bys (sumS X)).toArray) ∧ Below w.heap.size w w' := by
  obtain ⟨hq, hX, v, h1, h2⟩ := h
  exact ssumS_any w hW base q _ v _ X.length h1 h2 (swrF_len _ _ rfl) (swrF_left _ _) hX
theorem shnew_any (w : World) : Calls Tryz.prog 14 #[] w fun e w' => ∃ p, e = .returned (.pointer (some ⟨p, 0, none⟩)) ∧ ShaAt w.heap.size w' p [] ∧ Below w.heap.size w w' := by
  refine (snew_any w).mono ?_
  rintro e w' ⟨p, hp, rfl, h1, hB⟩
  refine ⟨p, rfl, ⟨hp, by decide, .slice none 0 0, ?_, ?_⟩, hB⟩
  · rw [swrF_short _ _ (by decide)]; exact h1
  · rw [swrF_short _ _ (by decide)]; exact TailR.nil _ _
theorem HmAt.ne {base : Nat} {w : World} {p q : Nat} {key X : List UInt8} {v : Value} (h1 : Blk w p (HC key v) tHst) (h2 : ShaAt base w q X) : p ≠ q := by
  obtain ⟨_, _, v, h3, _⟩ := h2
  exact h1.ne h3 (by decide)
theorem ShaAt.chg {base : Nat} {w w' : World} {q p : Nat} {X : List UInt8} {cs : List Value} (h : ShaAt base w q X) (hc : Chg w.heap.size [p] w w') (hp : Blk w p cs tHst) : ShaAt base w' q X := by
  obtain ⟨h0, h9, v, h1, h2⟩ := h
  refine ⟨h0, h9, v, h1.chg hc h1.lt (by simpa using h1.ne hp (by decide)), h2.chg hc (Nat.le_refl _) (fun j e => ?_)⟩
  obtain ⟨cs2, h3⟩ := h2.typ j e
  simpa using h3.ne hp (by decide)
theorem ShaAt.mono {base base' : Nat} {w : World} {q : Nat} {X : List UInt8} (h : ShaAt base w q X) (hb : base' ≤ base) : ShaAt base' w q X := by
  obtain ⟨h0, h9, v, h1, h2⟩ := h
  exact ⟨by omega, h9, v, h1, h2.mono hb⟩
abbrev tMsg : TypeId := 201
theorem sizeMsg : (Tryz.prog.info? tMsg).map (·.size) = some 1 := by kernel_rfl

set_option maxRecDepth 100000 in
set_option maxHeartbeats 4000000 in
theorem hreset_any (w : World) (hW : TabW w) (base p : Nat) (key : List UInt8) (v : Value) (hp : Blk w p (HC key v) tHst) (hk : key.length = 64) (hbp : base ≤ p) (hb0 : 0 < base) :
    Calls Tryz.prog 165 #[.pointer (some ⟨p, 0, none⟩)] w fun e w' => e = .returned (.tuple #[]) ∧ HmAt base w' p key (padB key 54) ∧ Below base w w' := by
  have hbw : base ≤ w.heap.size := by have := hp.lt; omega
  have HW := hid hW
  clear hW
  go_enter Tryz.func165, Tryz.ntmps165
  go_wp2_with fail
  refine (shnew_any w).mono ?_
  rintro e w1 ⟨q, rfl, hq, hB1⟩
  have hp1 := hp.below hB1 hp.lt
  have hs1 := hB1.size
  have f64 := hp1.frozen 64
  have c64 : w1.cell? ⟨p, 64, none⟩ = some v := (hp1.cell 64).trans (HC_at _ _ hk)
  have hp2 := hp1.set 64 (.pointer (some ⟨q, 0, none⟩))
  have hC2 : Chg w1.heap.size [p] w1 (w1.setCell ⟨p, 64, none⟩ (.pointer (some ⟨q, 0, none⟩))) := (Chg.refl _ _ _).setCell (p := ⟨p, 64, none⟩) (.inl (by simp)) _
  rw [HC_set _ _ _ hk] at hp2
  have hH := hid (And.intro hp2 hC2)
  clear hp2 hC2
  go_upto_region 2 with fail
  obtain ⟨hp2, hC2⟩ := hH.out
  have hq2 := (hq.chg hC2 hp1).mono hbw
  have hB2 : Below base w (w1.setCell ⟨p, 64, none⟩ (.pointer (some ⟨q, 0, none⟩))) := (hB1.mono hbw).trans (hC2.below (M := base) (by omega) (fun k hk => by simp at hk; omega))
  have hpq : p ≠ q := HmAt.ne hp2 hq2
  have hs2 := hB2.size
  generalize w1.setCell ⟨p, 64, none⟩ (.pointer (some ⟨q, 0, none⟩)) = w2 at *
  have hW2 := HW.out.below hB2 hb0
  have Hc64 := hid (fun (w3 : World) (hx : Blk w3 p (HC key (.pointer (some ⟨q, 0, none⟩))) tHst) => (hx.cell 64).trans (HC_at _ _ hk))
  have S0 : Below w2.heap.size w2 w2.drew := (Below.refl _ _).drew
  have Hp2 := hid hp2
  have Hq2 := hid hq2
  have Hk := hid hk
  have hpl : (padB key 54).length = 64 := by rw [padB_len, hk]
  have hb2 : base ≤ w2.heap.size := by have := hp2.lt; omega
  clear hp hp1 hq hB1 hs1 f64 c64 hH hC2 hp2 hq2 hk
  have HP := hid (fun (W : World) (hx : Blk W p (HC key (.pointer (some ⟨q, 0, none⟩))) tHst) => hpad_any W p key _ 54 hx Hk.out)
  obtain ⟨L, hL⟩ : ∃ L, padB key 54 = L := ⟨_, rfl⟩
  rw [hL] at hpl HP
  have HL := hid hL
  clear hL
  try simp only [Act.put]
  refine tkR (fun w' => Below w2.heap.size w2 w') [7] (by kernel_rfl) (fun c a d v w h => by cases d <;> exact h) (S0) (fun hPF hHeld => ?_)
  refine tkB 0 (.some 9) _ _ rfl rfl (by kernel_rfl) (by kernel_rfl) (by kernel_rfl) (by kernel_rfl) hPF rfl (fun w' => by (go_simp; try with_reducible rfl)) hHeld (fun hHeld => ?_)
  simp only [Act.put, List.setIfInBounds_toArray, List.set_cons_zero, List.set_cons_succ]
  refine tkB 1 (.some 10) _ _ rfl rfl (by kernel_rfl) (by kernel_rfl) (by kernel_rfl) (by kernel_rfl) hPF rfl (fun w' => by (go_simp; try with_reducible rfl)) hHeld (fun hHeld => ?_)
  simp only [Act.put, List.setIfInBounds_toArray, List.set_cons_zero, List.set_cons_succ]
  refine tkB 2 (.some 11) _ _ rfl rfl (by kernel_rfl) (by kernel_rfl) (by kernel_rfl) (by kernel_rfl) hPF rfl (fun w' => by (go_simp; try with_reducible rfl)) hHeld (fun hHeld => ?_)
  simp only [Act.put, List.setIfInBounds_toArray, List.set_cons_zero, List.set_cons_succ]
  refine tkB 3 (.some 12) _ _ rfl rfl (by kernel_rfl) (by kernel_rfl) (by kernel_rfl) (by kernel_rfl) hPF rfl (fun w' => by (go_simp; try with_reducible rfl)) hHeld (fun hHeld => ?_)
  simp only [Act.put, List.setIfInBounds_toArray, List.set_cons_zero, List.set_cons_succ]
  refine tkA 4 (.some 13) _ _ rfl rfl (by kernel_rfl) (by kernel_rfl) (by kernel_rfl) (by kernel_rfl) (by kernel_rfl) hPF rfl (fun w' hw' => by (have h1 := Hc64.out _ (Hp2.out.below hw' Hp2.out.lt); go_simp; try with_reducible rfl)) hHeld (fun hHeld => ?_)
  simp only [Act.put, List.setIfInBounds_toArray, List.set_cons_zero, List.set_cons_succ]
  refine tkB 5 (.some 14) _ _ rfl rfl (by kernel_rfl) (by kernel_rfl) (by kernel_rfl) (by kernel_rfl) hPF rfl (fun w' => by (go_simp; try with_reducible rfl)) hHeld (fun hHeld => ?_)
  simp only [Act.put, List.setIfInBounds_toArray, List.set_cons_zero, List.set_cons_succ]
  have hS := hHeld (by kernel_rfl)
  refine tkW (rs := [6]) (by kernel_rfl) (by simp) (AllK.cons (o := _) rfl (fun KC hKC => ?_) AllK.nil)
  go_simp
  refine (HP.out _ (Hp2.out.below hS Hp2.out.lt)).mono ?_
  rintro e w6 ⟨g, hg, rfl, hb6, hB6⟩
  have h6 := hS.trans (hB6.mono hS.size)
  refine hKC.out _ _ (h6) (fun hHeld => ?_)
  clear hKC KC
  try simp only [Act.put, List.setIfInBounds_toArray, List.set_cons_zero, List.set_cons_succ]
  refine tkW (rs := [7]) (by kernel_rfl) (by simp) (AllK.close (o := _) rfl (by kernel_rfl) (fun KC hKC => ?_) AllK.nil)
  go_simp
  have hS7 := hHeld (by kernel_rfl)
  refine (shwrite_any base _ (hW2.below hS7 hW2.1) hb0 q [] (Hq2.out.below hS7) (some ⟨g, 0, none⟩) 64 64 L hb6.rowAt0 hpl (by simp) (by have := hS7.size; omega)).mono ?_
  rintro e w7 ⟨rfl, hq7, hB7, hK7⟩
  refine hKC.out _ _ (fun hHeld => ?_)
  clear hKC KC
  try simp only [Act.put, List.setIfInBounds_toArray, List.set_cons_zero, List.set_cons_succ]
  refine tkD (by kernel_rfl) ?_ _
  have hp7 : Blk w7 p (HC key (.pointer (some ⟨q, 0, none⟩))) tHst := hK7 p _ _ (Hp2.out.below hS7 Hp2.out.lt) hpq (by decide)
  have hfin := hid (And.intro hp7 (And.intro hq7 (hB2.trans ((hS7.mono hb2).trans hB7))))
  clear hp7 hq7 hB2 hS7 hB7 hK7 hb6 hB6 h6 hS hHeld hPF
  go_wp2_with fail
  refine bodyPost_end (v := .tuple #[]) (results_none rfl _ _ _) rfl ⟨rfl, ⟨hbp, Hk.out, q, hfin.out.1, ?_⟩, hfin.out.2.2⟩
  have := hfin.out.2.1
  rw [List.nil_append] at this
  rw [HL.out]
  exact this
theorem HmAt.parts {base : Nat} {w : World} {p : Nat} {key X : List UInt8} (h : HmAt base w p key X) : ∃ q, Blk w p (HC key (.pointer (some ⟨q, 0, none⟩))) tHst ∧ ShaAt base w q X ∧ p ≠ q ∧ base ≤ p ∧ key.length = 64 := by
  obtain ⟨h0, h1, q, h2, h3⟩ := h
  exact ⟨q, h2, h3, HmAt.ne h2 h3, h0, h1⟩
set_option maxRecDepth 100000 in
set_option maxHeartbeats 4000000 in
theorem hwrite_any (base : Nat) (w : World) (hW : TabW w) (hb0 : 0 < base) (p : Nat) (key X : List UInt8) (h : HmAt base w p key X) (pb : Option Addr) (n cap : Nat) (b : List UInt8) (hb : RowAt w pb b) (hn : b.length = n) (h9 : X.length + n < 1000000000) (hbase : base ≤ w.heap.size) :
    Calls Tryz.prog 122 #[.pointer (some ⟨p, 0, none⟩), .slice pb n cap] w fun e w' => e = .returned (.tuple #[]) ∧ HmAt base w' p key (X ++ b) ∧ Below base w w' := by
  obtain ⟨q, hp, hq, hpq, hbp, hk⟩ := h.parts
  have c64 : w.cell? ⟨p, 64, none⟩ = some (.pointer (some ⟨q, 0, none⟩)) := (hp.cell 64).trans (HC_at _ _ hk)
  have HH := hid (shwrite_any base w hW hb0 q X hq pb n cap b hb hn h9 hbase)
  have Hp := hid hp
  clear hW hp hq h hb
  go_enter Tryz.func122, Tryz.ntmps122
  go_wp2_with fail
  refine HH.out.mono ?_
  rintro e w2 ⟨rfl, hq2, hB2, hK2⟩
  have hfin := hid (show HmAt base w2 p key (X ++ b) from ⟨hbp, hk, q, hK2 p _ _ Hp.out hpq (by decide), hq2⟩)
  clear hK2 hq2
  go_wp2_with fail
  refine bodyPost_end (v := .tuple #[]) (results_none rfl _ _ _) rfl ⟨rfl, hfin.out, hB2⟩
set_option maxRecDepth 100000 in
set_option maxHeartbeats 4000000 in
theorem hsumS_any (base : Nat) (w : World) (hW : TabW w) (p : Nat) (key X : List UInt8) (h : HmAt base w p key X) :
    Calls Tryz.prog 123 #[.pointer (some ⟨p, 0, none⟩)] w fun e w' => e = .returned (.agg (bys (sumS (padB key 92 ++ sumS X))).toArray) ∧ Below w.heap.size w w' := by
  obtain ⟨q, hp, hq, hpq, hbp, hk⟩ := h.parts
  have hpos := hW.1
  have hO := Blk.new w (bys z32) tA32
  have hB1 : Below w.heap.size w (w.alloc (.cells (bys z32).toArray tA32)) := (Below.refl _ _).alloc (Nat.le_refl _) _
  have hs1 : (w.alloc (.cells (bys z32).toArray tA32)).heap.size = w.heap.size + 1 := by simp
  obtain ⟨w1, hw1⟩ : ∃ w1, w.alloc (.cells (bys z32).toArray tA32) = w1 := ⟨_, rfl⟩
  rw [hw1] at hO hB1 hs1
  have hp1 := hp.below hB1 hp.lt
  have c64 : w1.cell? ⟨p, 64, none⟩ = some (.pointer (some ⟨q, 0, none⟩)) := (hp1.cell 64).trans (HC_at _ _ hk)
  have HW1 := hid hw1
  have hW1 := hW.below hB1 hpos
  have HH := hid (shsum_any base w1 hW1 q X (hq.below hB1))
  clear hw1 hp hq h hW
  go_enter Tryz.func123, Tryz.ntmps123
  go_upto_region 1 with fail
  change Code.wp _ _ _ _ (w.alloc (.cells (bys z32).toArray tA32))
  rw [HW1.out]
  go_upto_region 3 with fail
  go_wp2_with fail
  refine HH.out.mono ?_
  rintro e w2 ⟨rfl, hB2⟩
  have hBl : (sumS X).length = 32 := sumS_len X
  obtain ⟨R, hR⟩ : ∃ R, sumS X = R := ⟨_, rfl⟩
  rw [hR] at hBl ⊢
  have hp2 := hp1.below hB2 hp1.lt
  have hO2 := hO.below hB2 hO.lt
  have hB12 := hB1.trans (hB2.mono hB1.size)
  have HR := hid hR
  have hN := Blk.new w2 (bys z32) tA32
  have hz : (bys z32).length = 32 := rfl
  have hsr : (Tryz.prog.info? tA32).map (·.size) = some (bys R).toArray.size := by rw [size32s, List.size_toArray, bys_length, hBl]
  have hth := hid (hN.there 0 (bys R).toArray.size (by rw [List.size_toArray, hz, bys_length, hBl]; decide))
  have hB3 : Below w2.heap.size w2 (w2.alloc (.cells (bys z32).toArray tA32)) := (Below.refl _ _).alloc (Nat.le_refl _) _
  have g1 := hN.setCells (bys R) 0 (by rw [hz, bys_length, hBl]; decide)
  rw [splice_whole _ _ (by rw [hz, bys_length, hBl])] at g1
  have hB4 : Below w2.heap.size w2 ((w2.alloc (.cells (bys z32).toArray tA32)).setCells w2.heap.size 0 (bys R)) := hB3.trans (((Chg.refl w2.heap.size [] _).setCells (b := w2.heap.size) (.inr (Nat.le_refl _)) (bys R) 0).below (Nat.le_refl _) (by simp))
  have hs2 : w2.heap.size < ((w2.alloc (.cells (bys z32).toArray tA32)).setCells w2.heap.size 0 (bys R)).heap.size := g1.lt
  obtain ⟨w3, hw3⟩ : ∃ w3, (w2.alloc (.cells (bys z32).toArray tA32)).setCells w2.heap.size 0 (bys R) = w3 := ⟨_, rfl⟩
  rw [hw3] at g1 hB4 hs2
  have HW3 := hid hw3
  have hB2' := hB2
  clear hR hN hw3 hB3 hB2 c64
  go_upto_region 4 with (refine wpList_store_mid rfl tA32 (.tmp 3) (.tmp 12) rfl w2.heap.size 0 (bys R).toArray rfl rfl hth.out hsr (all_oneCell_toArray (bys_one _)) ?_; change wpList _ _ _ _ _ ((w2.alloc (.cells (bys z32).toArray tA32)).setCells w2.heap.size 0 (bys R)); rw [HW3.out])
  have hp3 := hp2.below hB4 hp2.lt
  have hO3 := hO2.below hB4 hO2.lt
  have hB13 := hB12.trans (hB4.mono hB12.size)
  have hW2 := hW1.below hB2' (by omega)
  have hW3 := hW2.below hB4 hW2.1
  have hs3 := hB13.size
  have hrR := g1.rowAt0
  have hgt := hp2.lt
  have Hp3 := hid hp3
  have Hk := hid hk
  have hpl : (padB key 92).length = 64 := by rw [padB_len, hk]
  have HP := hid (fun (W : World) (hx : Blk W p (HC key (.pointer (some ⟨q, 0, none⟩))) tHst) => hpad_any W p key _ 92 hx Hk.out)
  have hPd := hid (show padB key 92 = padB key 92 from rfl)
  obtain ⟨L, hL⟩ : ∃ L, padB key 92 = L := ⟨_, rfl⟩
  rw [hL] at hpl HP
  have HL := hid hL
  have hl7 : (L ++ R).length = 96 := by rw [List.length_append, hpl, hBl]
  have HD := hid (show sumS (padB key 92 ++ sumS X) = sumS (L ++ R) by rw [HL.out, HR.out])
  have S0 : Below w3.heap.size w3 w3.drew := (Below.refl _ _).drew
  clear hL hPd hp1 hp2 hp3 hO hO2 hB12 hB4 hth hsr HW3 HW1 HH hk hB1
  try simp only [Act.put]
  refine tkR (fun w' => Below w3.heap.size w3 w') [5] (by kernel_rfl) (fun c a d v w h => by cases d <;> exact h) (S0) (fun hPF hHeld => ?_)
  refine tkB 0 (.some 13) _ _ rfl rfl (by kernel_rfl) (by kernel_rfl) (by kernel_rfl) (by kernel_rfl) hPF rfl (fun w' => by (go_simp; try with_reducible rfl)) hHeld (fun hHeld => ?_)
  simp only [Act.put, List.setIfInBounds_toArray, List.set_cons_zero, List.set_cons_succ]
  refine tkA 2 (.some 15) _ (.slice (some ⟨w2.heap.size, 0, none⟩) 32 32) rfl rfl (by kernel_rfl) (by kernel_rfl) (by kernel_rfl) (by kernel_rfl) (by kernel_rfl) hPF rfl (fun w' hw' => by (go_simp)) hHeld (fun hHeld => ?_)
  simp only [Act.put, List.setIfInBounds_toArray, List.set_cons_zero, List.set_cons_succ]
  have hS := hHeld (by kernel_rfl)
  refine tkW (rs := [1]) (by kernel_rfl) (by simp) (AllK.cons (o := _) rfl (fun KC hKC => ?_) AllK.nil)
  go_simp
  refine (HP.out _ (Hp3.out.below hS Hp3.out.lt)).mono ?_
  rintro e w6 ⟨g, hg, rfl, hb6, hB6⟩
  have h6 := hS.trans (hB6.mono hS.size)
  have hO6 := OwnR.ofBlk (base := w3.heap.size) hb6 (by have := hS.size; omega) hpl (by omega)
  refine hKC.out _ _ (h6) (fun hHeld => ?_)
  clear hKC KC
  try simp only [Act.put, List.setIfInBounds_toArray, List.set_cons_zero, List.set_cons_succ]
  have hS := hHeld (by kernel_rfl)
  refine tkW (rs := [3]) (by kernel_rfl) (by simp) (AllK.cons (o := _) rfl (fun KC hKC => ?_) AllK.nil)
  refine wantIt rfl (wp_add (.some 16) rfl (.tmp 14) (.tmp 15) rfl w3.heap.size _ L rfl hO6 (some ⟨w2.heap.size, 0, none⟩) 32 32 R rfl (hrR.below hS) hBl (by rw [hpl]; omega) hS.size ?_)
  intro v7 w7 hO7 hg7 _
  have h7 := hS.trans (below_grown hg7 hS.size (fun j e => (hO6.lt j e).1))
  obtain ⟨pv7, cv7, e7, _, hr7⟩ := hO7.row
  rw [hl7] at e7
  subst e7
  have Hl7 := hid hl7
  generalize L ++ R = LR at *
  clear hl7
  refine hKC.out _ _ (h7) (fun hHeld => ?_)
  clear hKC KC
  try simp only [Act.put, List.setIfInBounds_toArray, List.set_cons_zero, List.set_cons_succ]
  have hS := hHeld (by kernel_rfl)
  refine tkW (rs := [4]) (by kernel_rfl) (by simp) (AllK.cons (o := _) rfl (fun KC hKC => ?_) AllK.nil)
  go_simp
  have hW7 := hW3.below hS hW3.1
  with_reducible refine (ssum_any _ hW7 pv7 96 cv7 LR hr7 Hl7.out (by omega)).mono ?_
  rintro e w8 ⟨rfl, hB8⟩
  have h8 := hS.trans (hB8.mono hS.size)
  have hl8 : (sumS LR).length = 32 := sumS_len _
  generalize sumS LR = D at *
  have hO8 := hO3.below h8 hO3.lt
  refine hKC.out _ _ (h8) (fun hHeld => ?_)
  clear hKC KC
  try simp only [Act.put, List.setIfInBounds_toArray, List.set_cons_zero, List.set_cons_succ]
  refine tkW (rs := [5]) (by kernel_rfl) (by simp) (AllK.close (o := _) rfl (by kernel_rfl) (fun KC hKC => ?_) AllK.nil)
  refine wantIt rfl (wp_storeD .none rfl tA32 (.tmp 2) (.tmp 17) rfl w.heap.size 0 (bys D).toArray rfl rfl (hO8.there 0 _ (by rw [List.size_toArray, hz, bys_length, hl8]; decide)) (by rw [size32s, List.size_toArray, bys_length, hl8]) (all_oneCell_toArray (bys_one _)) ?_)
  refine hKC.out _ _ (fun hHeld => ?_)
  clear hKC KC
  try simp only [Act.put]
  refine tkD (by kernel_rfl) ?_ _
  have g9 := hO8.setCells (bys D) 0 (by rw [hz, bys_length, hl8]; decide)
  rw [splice_whole _ _ (by rw [hz, bys_length, hl8])] at g9
  have hsD : (Tryz.prog.info? tA32).map (·.size) = some (bys D).length := by rw [size32s, bys_length, hl8]
  have hBf := hid ((hB13.trans (h8.mono hs3)).trans (((Chg.refl w.heap.size [] w8).setCells (b := w.heap.size) (.inr (by omega)) (bys D) 0).below (Nat.le_refl _) (by simp)))
  clear hHeld hPF
  go_wp2_with fail
  refine bodyPost_ret (v := .agg (bys D).toArray) (results_cell_row (P := Tryz.prog) (p := 2) (ty := tA32) rfl _ _ w.heap.size tA32 _ (0, 0) _ rfl g9 Tryz.underlying35 rfl hsD) rfl ⟨by rw [HD.out], hBf.out⟩

theorem z64_drop (n : Nat) : z64.drop n = List.replicate (64 - n) 0 := by unfold z64; rw [List.drop_replicate]
theorem keyH_short (key : List UInt8) (h : ¬ 64 < key.length) : key ++ List.replicate (64 - key.length) 0 = keyH key := by unfold keyH; simp [h]
theorem keyH_long (key : List UInt8) (h : 64 < key.length) : sumS key ++ List.replicate (64 - 32) 0 = keyH key := by unfold keyH; simp [h, sumS_len]
theorem keyH_len (key : List UInt8) : (keyH key).length = 64 := by
  unfold keyH
  split
  · simp [sumS_len]
  · simp; omega
set_option maxRecDepth 100000 in
set_option maxHeartbeats 8000000 in
theorem hnew_any (w : World) (hW : TabW w) (pk : Option Addr) (n ck : Nat) (key : List UInt8) (hr : RowAt w pk key) (hn : key.length = n) (h0 : 0 < n) (h9 : n < 1000000000) :
    Calls Tryz.prog 121 #[.slice pk n ck] w fun e w' => ∃ p, e = .returned (.pointer (some ⟨p, 0, none⟩)) ∧ HmAt w.heap.size w' p (keyH key) (padB (keyH key) 54) ∧ Below w.heap.size w w' := by
  have hpos := hW.1
  have hkl := hid (keyH_len key)
  have hN := Blk.new w (HC z64 (.pointer none)) tHst
  have hB1 : Below w.heap.size w (w.alloc (.cells (HC z64 (.pointer none)).toArray tHst)) := (Below.refl _ _).alloc (Nat.le_refl _) _
  have hs1 : (w.alloc (.cells (HC z64 (.pointer none)).toArray tHst)).heap.size = w.heap.size + 1 := by simp
  obtain ⟨w1, hw1⟩ : ∃ w1, w.alloc (.cells (HC z64 (.pointer none)).toArray tHst) = w1 := ⟨_, rfl⟩
  rw [hw1] at hN hB1 hs1
  have hb1 := hr.below hB1
  have HW1 := hid hw1
  have HW := hid hW
  clear hw1 hr hW
  go_enter Tryz.func121, Tryz.ntmps121
  go_upto_region 2 with fail
  change Code.wp _ _ _ _ (w.alloc (.cells (HC z64 (.pointer none)).toArray tHst))
  rw [HW1.out]
  by_cases hlong : 64 < key.length
  · have hKey := hid (keyH_long key hlong)
    have q1 : (64 : Int) < (n : Int) := by omega
    have HS := hid (ssum_any w1 (HW.out.below hB1 hpos) pk n ck key hb1 hn h9)
    have hsl := sumS_len key
    obtain ⟨R, hR⟩ : ∃ R, sumS key = R := ⟨_, rfl⟩
    rw [hR] at HS hKey hsl
    clear hR
    go_wp2_with fail
    refine HS.out.mono ?_
    rintro e w2 ⟨rfl, hB2⟩
    have hN2 := hN.below hB2 hN.lt
    have hB12 := hB1.trans (hB2.mono hB1.size)
    have hNr := Blk.new w2 (bys z32) tA32
    have hz : (bys z32).length = 32 := rfl
    have hsr : (Tryz.prog.info? tA32).map (·.size) = some (bys R).toArray.size := by rw [size32s, List.size_toArray, bys_length, hsl]
    have hth := hid (hNr.there 0 (bys R).toArray.size (by rw [List.size_toArray, hz, bys_length, hsl]; decide))
    have hB3 : Below w2.heap.size w2 (w2.alloc (.cells (bys z32).toArray tA32)) := (Below.refl _ _).alloc (Nat.le_refl _) _
    have g1 := hNr.setCells (bys R) 0 (by rw [hz, bys_length, hsl]; decide)
    rw [splice_whole _ _ (by rw [hz, bys_length, hsl])] at g1
    have hB4 : Below w2.heap.size w2 ((w2.alloc (.cells (bys z32).toArray tA32)).setCells w2.heap.size 0 (bys R)) := hB3.trans (((Chg.refl w2.heap.size [] _).setCells (b := w2.heap.size) (.inr (Nat.le_refl _)) (bys R) 0).below (Nat.le_refl _) (by simp))
    obtain ⟨w3, hw3⟩ : ∃ w3, (w2.alloc (.cells (bys z32).toArray tA32)).setCells w2.heap.size 0 (bys R) = w3 := ⟨_, rfl⟩
    rw [hw3] at g1 hB4
    have HW3 := hid hw3
    have hN3 := hN2.below hB4 hN2.lt
    have hB13 := hB12.trans (hB4.mono hB12.size)
    have hb3 := g1.rowAt0
    have hs3 := hB13.size
    have hs13 : w1.heap.size ≤ w3.heap.size := Nat.le_trans hB2.size hB4.size
    clear hNr hw3 hB3 hB2 hB4 hN hN2 g1 hb1 hB12
    go_upto_region 4 with (refine wpList_store_mid rfl tA32 (.tmp 4) (.tmp 11) rfl w2.heap.size 0 (bys R).toArray rfl rfl hth.out hsr (all_oneCell_toArray (bys_one _)) ?_; change wpList _ _ _ _ _ ((w2.alloc (.cells (bys z32).toArray tA32)).setCells w2.heap.size 0 (bys R)); rw [HW3.out])
    go_upto_region 5 with fail
    have hc2 := hb3
    have hN3l := hN3.lt
    go_upto_region 6 with (refine wpList_copy_row rfl (.tmp 16) (.tmp 17) rfl w.heap.size 0 64 64 (some ⟨w2.heap.size, 0, none⟩) 32 32 rfl rfl (HC z64 (.pointer none)) tHst hN3 R hb3 hsl (by omega) (by omega) (by rw [HC_len _ _ (by rfl)]; omega) ?_; intro w5 hN5 hC5 hs5)
    rw [HC_splice _ _ _ (by rfl) (by omega), hsl, z64_drop, hKey.out] at hN5
    have hB5 : Below w.heap.size w w5 := hB13.trans (hC5.below (M := w.heap.size) (by omega) (fun k hk => by simp at hk; omega))
    have hW5 := HW.out.below hB5 hpos
    clear hN3 hC5
    go_wp2_with fail
    refine (hreset_any w5 hW5 w.heap.size w.heap.size (keyH key) _ hN5 hkl.out (Nat.le_refl _) hpos).mono ?_
    rintro e w6 ⟨rfl, hH6, hB6⟩
    have hfin := hid (And.intro hH6 (hB5.trans hB6))
    clear hH6 hB6 hN5 hB5
    go_wp2_with fail
    go_ret
    exact ⟨_, rfl, hfin.out.1, hfin.out.2⟩
  · have hKey := hid (keyH_short key hlong)
    have q1 : ¬ (64 : Int) < (n : Int) := by omega
    rw [hn] at hKey
    go_upto_region 5 with fail
    have hc2 := hb1
    have hNl := hN.lt
    go_upto_region 6 with (refine wpList_copy_row rfl (.tmp 16) (.tmp 17) rfl w.heap.size 0 64 64 pk n ck rfl rfl (HC z64 (.pointer none)) tHst hN key hb1 hn (by omega) (by omega) (by rw [HC_len _ _ (by rfl)]; omega) ?_; intro w5 hN5 hC5 hs5)
    rw [HC_splice _ _ _ (by rfl) (by omega), hn, z64_drop, hKey.out] at hN5
    have hB5 : Below w.heap.size w w5 := hB1.trans (hC5.below (M := w.heap.size) (by omega) (fun k hk => by simp at hk; omega))
    have hW5 := HW.out.below hB5 hpos
    clear hN hC5
    go_wp2_with fail
    refine (hreset_any w5 hW5 w.heap.size w.heap.size (keyH key) _ hN5 hkl.out (Nat.le_refl _) hpos).mono ?_
    rintro e w6 ⟨rfl, hH6, hB6⟩
    have hfin := hid (And.intro hH6 (hB5.trans hB6))
    clear hH6 hB6 hN5 hB5
    go_wp2_with fail
    go_ret
    exact ⟨_, rfl, hfin.out.1, hfin.out.2⟩
theorem hsum_eq (key b : List UInt8) : sumS (padB (keyH key) 92 ++ sumS (padB (keyH key) 54 ++ b)) = hmacF key b := rfl
set_option maxRecDepth 100000 in
set_option maxHeartbeats 8000000 in
theorem hmac_any (w : World) (hW : TabW w) (pk : Option Addr) (n ck : Nat) (key : List UInt8) (hr : RowAt w pk key) (hn : key.length = n) (h0 : 0 < n) (h9 : n < 1000000) (pb : Option Addr) (m cb : Nat) (b : List UInt8) (hb : RowAt w pb b) (hm : b.length = m) (hm9 : m < 1000000) :
    Calls Tryz.prog 78 #[.slice pk n ck, .slice pb m cb] w fun e w' => e = .returned (.agg (bys (hmacF key b)).toArray) ∧ Below w.heap.size w w' := by
  have hpos := hW.1
  have hO := Blk.new w (bys z32) tA32
  have hB1 : Below w.heap.size w (w.alloc (.cells (bys z32).toArray tA32)) := (Below.refl _ _).alloc (Nat.le_refl _) _
  have hs1 : (w.alloc (.cells (bys z32).toArray tA32)).heap.size = w.heap.size + 1 := by simp
  obtain ⟨w1, hw1⟩ : ∃ w1, w.alloc (.cells (bys z32).toArray tA32) = w1 := ⟨_, rfl⟩
  rw [hw1] at hO hB1 hs1
  have hr1 := hr.below hB1
  have hb1 := hb.below hB1
  have HW1 := hid hw1
  have hW1 := hW.below hB1 hpos
  clear hw1 hb hr hW
  go_enter Tryz.func78, Tryz.ntmps78
  go_upto_region 1 with fail
  change Code.wp _ _ _ _ (w.alloc (.cells (bys z32).toArray tA32))
  rw [HW1.out]
  go_wp2_with fail
  refine (hnew_any w1 hW1 pk n ck key hr1 hn h0 (by omega)).mono ?_
  rintro e w2 ⟨p, rfl, hH2, hB2⟩
  have hs2 := hB2.size
  have hW2 := hW1.below hB2 hW1.1
  have hb2 := hb1.below hB2
  have hO2 := hO.below hB2 hO.lt
  have hB12 := hB1.trans (hB2.mono hB1.size)
  have hpl : (padB (keyH key) 54).length = 64 := by rw [padB_len, keyH_len]
  clear hb1 hO hr1 hB1
  go_wp2_with fail
  refine (hwrite_any w1.heap.size w2 hW2 (by omega) p (keyH key) _ hH2 pb m cb b hb2 hm (by omega) hs2).mono ?_
  rintro e w3 ⟨rfl, hH3, hB3⟩
  have hW3 := hW2.below hB3 (by omega)
  have hO3 := hO2.below hB3 (by omega)
  have hB13 := hB12.trans (hB3.mono (by omega))
  clear hO2 hB12 hH2 hb2
  go_wp2_with fail
  refine (hsumS_any w1.heap.size w3 hW3 p (keyH key) _ hH3).mono ?_
  rintro e w4 ⟨rfl, hB4⟩
  rw [hsum_eq]
  have hO4 := hO3.below hB4 hO3.lt
  have hB4w := hid (hB13.trans (hB4.mono hB13.size))
  have hBl : (hmacF key b).length = 32 := sumS_len _
  have hz : (bys z32).length = 32 := rfl
  obtain ⟨R, hR⟩ : ∃ R, hmacF key b = R := ⟨_, rfl⟩
  rw [hR] at hBl ⊢
  have HSR := hid hR
  have Hil2 := hid hBl
  have hsr : (Tryz.prog.info? tA32).map (·.size) = some (bys R).length := by rw [size32s, bys_length, hBl]
  clear hR hBl hH3 hB4 hB13
  go_wp2_with (refine wpList_store_mid rfl tA32 (.tmp 4) (.tmp 12) rfl w.heap.size 0 (bys R).toArray rfl rfl (hO4.there 0 _ (by rw [List.size_toArray, hz, bys_length, Hil2.out]; decide)) (by rw [size32s, List.size_toArray, bys_length, Hil2.out]) (all_oneCell_toArray (bys_one _)) ?_)
  have g1 := hO4.setCells (bys R) 0 (by rw [hz, bys_length, Hil2.out]; decide)
  rw [splice_whole _ _ (by rw [hz, bys_length, Hil2.out])] at g1
  refine bodyPost_ret (v := .agg (bys R).toArray) (results_cell_row (P := Tryz.prog) (p := 4) (ty := tA32) rfl _ _ w.heap.size tA32 _ (0, 0) _ rfl g1 Tryz.underlying35 rfl hsr) rfl ⟨by rw [HSR.out], ?_⟩
  exact hB4w.out.trans (((Chg.refl w.heap.size [] w4).setCells (b := w.heap.size) (.inr (by omega)) (bys R) 0).below (Nat.le_refl _) (by simp))
end Go.Proofs.YtnmmnlffobnbfaaGreatDoor
