/- Bits1 · Exp1 · Eq (joined by merge4.py) -/
import Derived.Test.YtnmmnlffobnbfaaGreatDoorMA
import Derived.Test.YtnmmnlffobnbfaaGreatDoorMC
import Derived.Deep.RegionWith
import Derived.Deep.AppendLies
import Derived.Deep.DeepCutAuto
import Derived.Deep.CutBlock
/- bits: rows made byte by byte -/
namespace Go.Proofs.YtnmmnlffobnbfaaGreatDoor
open Go.RowKit

theorem info5 : (Tryz.prog.info? 5).map (fun i => (i.zero, i.size, i.bytes)) = some (some (.int .u8 0), 1, 1) := by kernel_rfl
theorem under33b : Tryz.prog.underlying 23 = some (.slice 5) := by kernel_rfl

/-- What puts asks of the function that it is handed: at each place, in each later world, it tells a byte and writes nothing. -/
def Tells (w : World) (fid : Nat) (caps : Array Value) (n : Nat) (F : Nat → UInt8) : Prop :=
  ∀ k, k < n → ∀ w1, Below w.heap.size w w1 → Calls Tryz.prog fid (#[.int .i64 k] ++ caps) w1 fun e w2 => e = .returned (.int .u8 (bv (F k))) ∧ ∃ m, w1.drewN m = w2

def firsts (F : Nat → UInt8) (k n : Nat) : List UInt8 := (List.range k).map F ++ (List.replicate n 0).drop k
theorem firsts_succ (F : Nat → UInt8) (k n : Nat) (h : k < n) : (firsts F k n).set k (F k) = firsts F (k + 1) n := by
  unfold firsts
  rw [app_set 0 _ _ _ k (by simp) (by simpa using h), List.range_succ, List.map_append]; rfl
theorem firsts_len (F : Nat → UInt8) (k n : Nat) (h : k ≤ n) : (firsts F k n).length = n := by simp [firsts]; omega
theorem firsts_zero (F : Nat → UInt8) (n : Nat) : firsts F 0 n = List.replicate n 0 := by simp [firsts]
theorem firsts_all (F : Nat → UInt8) (n : Nat) : firsts F n n = (List.range n).map F := by simp [firsts]

set_option maxRecDepth 100000 in
set_option maxHeartbeats 1000000 in
theorem puts_any (w : World) (fid : Nat) (caps : Array Value) (n : Nat) (F : Nat → UInt8) (hcf : ∀ args w, (callFunc fid args).run Tryz.prog w = .ok (.enter fid args) w) (hf : Tells w fid caps n F) (hn : n ≤ 140737488355328) :
    Calls Tryz.prog 162 #[.int .i64 n, .func (.func fid) #[] caps] w fun e w' => e = .returned (.slice (some ⟨w.heap.size, 0, none⟩) n n) ∧ Blk w' w.heap.size (bys ((List.range n).map F)) tU8 ∧ Below w.heap.size w w' := by
  have Hf := hid hf; clear hf
  have hmk := run_make_row' (P := Tryz.prog) 23 5 (.int .u8 0) 1 under33b info5 rfl .i64 .i64 n (by omega) (by omega)
  rw [madeCells_bys] at hmk
  go_enter Tryz.func162, Tryz.ntmps162
  go_wp2_with fail
  have hb0 := Blk.new w (bys (List.replicate n 0)) tU8
  have hB0 : Below w.heap.size w (w.alloc (.cells (bys (List.replicate n 0)).toArray 5)) := (Below.refl _ _).alloc (Nat.le_refl _) _
  clear hmk
  rw [← firsts_zero F n] at hb0 hB0 ⊢
  change Code.wp _ _ _ _ (w.alloc (.cells (bys (firsts F 0 n)).toArray tU8))
  generalize w.alloc (.cells (bys (firsts F 0 n)).toArray tU8) = w0 at *
  go_loopw [12] (fun i wr => ∃ k : Nat, k ≤ n ∧ i = .int .i64 k ∧ Blk wr w.heap.size (bys (firsts F k n)) tU8 ∧ Below w.heap.size w wr) (fun i _ => n - (intOf i).toNat)
  case atStart => exact ⟨0, by omega, rfl, hb0, hB0⟩
  case round =>
    obtain ⟨k, hkn, rfl, hb, hB⟩ := hrel
    clear hb0 hB0
    by_cases hlt : k < n
    · have hla := firsts_len F k n hkn
      have hc := hb.cellAt (bys_get _ k (by omega))
      have hff := hb.frozen k
      have hs := firsts_succ F k n hlt
      have Hs := hid hs; clear hs hla
      go_wp2_with (refine (Hf.out k hlt _ hB).mono ?_; rintro e w' ⟨rfl, m, rfl⟩)
      go_roundw
      case rel =>
        refine ⟨k + 1, by omega, by go_num, ?_, (below_drewN hB _).setCell (Nat.le_refl _) _⟩
        rw [← Hs.out, ← bys_set]; exact (hb.drewN _).set _ _
      case measure => simp [intOf]; omega
    · obtain rfl : k = n := by omega
      rw [firsts_all] at hb
      go_wp2_with fail
      go_ret
      exact ⟨rfl, hb, hB⟩

set_option maxRecDepth 100000 in
set_option maxHeartbeats 1000000 in
theorem xor1_any (w : World) (pa pb a b ao bo an ac bn bc k : Nat) (x y : UInt8) (ha : w.cell? ⟨pa, 0, none⟩ = some (.slice (some ⟨a, ao, none⟩) an ac)) (hb : w.cell? ⟨pb, 0, none⟩ = some (.slice (some ⟨b, bo, none⟩) bn bc))
    (hx : w.cell? ⟨a, ao + k, none⟩ = some (.int .u8 (bv x))) (hy : w.cell? ⟨b, bo + k, none⟩ = some (.int .u8 (bv y))) (hka : k < an) (hkb : k < bn) :
    Calls Tryz.prog 181 #[.int .i64 k, .pointer (some ⟨pa, 0, none⟩), .pointer (some ⟨pb, 0, none⟩)] w fun e w' => e = .returned (.int .u8 (bv (x ^^^ y))) ∧ ∃ m, w.drewN m = w' := by
  go_enter Tryz.func181, Tryz.ntmps181
  have q1 : (k : Int) < (an : Int) := by omega
  have q2 : (k : Int) < (bn : Int) := by omega
  have q3 : 0 ≤ (k : Int) := by omega
  go_wp2_with fail
  go_quiet (fail)
  go_wp2_with fail
  go_ret
  exact ⟨rfl, _, rfl⟩


theorem call64 (args : Array Value) (w : World) : (callFunc 181 args).run Tryz.prog w = .ok (.enter 181 args) w := by kernel_rfl

theorem range_map_zip (X Y : List UInt8) (n : Nat) (hn : n = min X.length Y.length) : (List.range n).map (fun k => X.getD k 0 ^^^ Y.getD k 0) = List.zipWith (· ^^^ ·) X Y := by
  subst hn
  apply List.ext_getElem
  · simp
  · intro i h1 h2
    simp at h1
    simp [List.getD, List.getElem?_eq_getElem (show i < X.length by omega), List.getElem?_eq_getElem (show i < Y.length by omega)]

/-- A slice's bytes, as they may be read: where there are any, at an address. -/
def RowAt (w : World) (pa : Option Addr) (X : List UInt8) : Prop :=
  ∀ k, k < X.length → ∃ b o, pa = some ⟨b, o, none⟩ ∧ b < w.heap.size ∧ w.cell? ⟨b, o + k, none⟩ = some (.int .u8 (bv (X.getD k 0)))
theorem RowAt.nil (w : World) (pa : Option Addr) : RowAt w pa [] := fun k hk => by simp at hk
theorem RowAt.below {w w' : World} {pa : Option Addr} {X : List UInt8} (h : RowAt w pa X) (hB : Below w.heap.size w w') : RowAt w' pa X := fun k hk => by
  obtain ⟨b, o, h1, h2, h3⟩ := h k hk
  exact ⟨b, o, h1, Nat.lt_of_lt_of_le h2 hB.size, by rw [hB.cell (p := ⟨b, o + k, none⟩) h2]; exact h3⟩
theorem Blk.rowAt {w : World} {a : Nat} {l : List UInt8} {T : TypeId} (ha : Blk w a (bys l) T) (ao an : Nat) : RowAt w (some ⟨a, ao, none⟩) ((l.drop ao).take an) := fun k hk => by
  have hk' := hk
  simp at hk'
  refine ⟨a, ao, rfl, ha.lt, ?_⟩
  rw [ha.cellAt (bys_get l (ao + k) (by omega))]
  simp [List.getD, show k < an by omega]
theorem Blk.rowAt0 {w : World} {a : Nat} {l : List UInt8} {T : TypeId} (ha : Blk w a (bys l) T) : RowAt w (some ⟨a, 0, none⟩) l := by
  have := ha.rowAt 0 l.length
  simpa using this

theorem xor_core (w : World) (pa pb : Option Addr) (an ac bn bc n : Nat) (X Y : List UInt8) (hX : RowAt w pa X) (hY : RowAt w pb Y)
    (hXl : X.length = an) (hYl : Y.length = bn) (hn : an ≤ 140737488355328) (hmn : n = min an bn) :
    Calls Tryz.prog 162 #[.int .i64 n, .func (.func 181) #[] #[.pointer (some ⟨w.heap.size, 0, none⟩), .pointer (some ⟨w.heap.size + 1, 0, none⟩)]]
      ((w.alloc (.cells #[.slice pa an ac] tBytes)).alloc (.cells #[.slice pb bn bc] tBytes))
      fun e w' => e = .returned (.slice (some ⟨w.heap.size + 2, 0, none⟩) n n) ∧ Blk w' (w.heap.size + 2) (bys (List.zipWith (· ^^^ ·) X Y)) tU8 ∧ Below w.heap.size w w' := by
  have g1 : ((w.alloc (.cells #[.slice pa an ac] tBytes)).alloc (.cells #[.slice pb bn bc] tBytes)).heap.size = w.heap.size + 2 := by simp
  have p1 : Blk ((w.alloc (.cells #[.slice pa an ac] tBytes)).alloc (.cells #[.slice pb bn bc] tBytes)) w.heap.size [.slice pa an ac] tBytes :=
    (Blk.new w [.slice pa an ac] tBytes).alloc _
  have p2 : Blk ((w.alloc (.cells #[.slice pa an ac] tBytes)).alloc (.cells #[.slice pb bn bc] tBytes)) (w.heap.size + 1) [.slice pb bn bc] tBytes := by
    have := Blk.new (w.alloc (.cells #[.slice pa an ac] tBytes)) [.slice pb bn bc] tBytes
    simpa using this
  have hB : Below w.heap.size w ((w.alloc (.cells #[.slice pa an ac] tBytes)).alloc (.cells #[.slice pb bn bc] tBytes)) :=
    ((Below.refl _ _).alloc (Nat.le_refl _) _).alloc (by simp) _
  generalize ((w.alloc (.cells #[.slice pa an ac] tBytes)).alloc (.cells #[.slice pb bn bc] tBytes)) = w2 at *
  have ha2 := hX.below hB
  have hb2 := hY.below hB
  have := puts_any w2 181 #[.pointer (some ⟨w.heap.size, 0, none⟩), .pointer (some ⟨w.heap.size + 1, 0, none⟩)] n (fun k => X.getD k 0 ^^^ Y.getD k 0) call64 (by
    intro k hk w1 hB1
    have c1 := (p1.below hB1 p1.lt).cell 0
    have c2 := (p2.below hB1 p2.lt).cell 0
    obtain ⟨a, ao, rfl, ha, hx⟩ := ha2.below hB1 k (by omega)
    obtain ⟨b, bo, rfl, hb, hy⟩ := hb2.below hB1 k (by omega)
    exact xor1_any w1 _ _ a b ao bo an ac bn bc k _ _ c1 c2 hx hy (by omega) (by omega)) (by omega)
  refine this.mono ?_
  rintro e w' ⟨rfl, h1, h2⟩
  rw [range_map_zip X Y n (by rw [hXl, hYl]; exact hmn), g1] at h1
  rw [g1]
  exact ⟨rfl, h1, hB.trans (h2.mono hB.size)⟩

set_option maxRecDepth 100000 in
set_option maxHeartbeats 1000000 in
/-- bits.Xor: the exclusive or of two rows, in a new row. -/
theorem xor_any (w : World) (pa pb : Option Addr) (an ac bn bc n : Nat) (X Y : List UInt8) (hX : RowAt w pa X) (hY : RowAt w pb Y)
    (hXl : X.length = an) (hYl : Y.length = bn) (hn : an ≤ 140737488355328) (hmn : n = min an bn) :
    Calls Tryz.prog 137 #[.slice pa an ac, .slice pb bn bc] w fun e w' => e = .returned (.slice (some ⟨w.heap.size + 2, 0, none⟩) n n) ∧ Blk w' (w.heap.size + 2) (bys (List.zipWith (· ^^^ ·) X Y)) tU8 ∧ Below w.heap.size w w' := by
  have Hc := hid (xor_core w pa pb an ac bn bc n X Y hX hY hXl hYl hn hmn)
  clear hX hY hXl hYl
  have Hmn := hid hmn
  clear hmn
  go_enter Tryz.func137, Tryz.ntmps137
  go_wp2_with fail
  · have e : bn = n := by have := Hmn.out; omega
    subst e
    refine Hc.out.mono ?_
    rintro e w' ⟨rfl, h1, h2⟩
    go_wp2_with fail
    go_ret
    exact ⟨rfl, h1, h2⟩
  · have e : an = n := by have := Hmn.out; omega
    subst e
    refine Hc.out.mono ?_
    rintro e w' ⟨rfl, h1, h2⟩
    go_wp2_with fail
    go_ret
    exact ⟨rfl, h1, h2⟩

end Go.Proofs.YtnmmnlffobnbfaaGreatDoor

/- aes: a key, expanded -/
namespace Go.Proofs.YtnmmnlffobnbfaaGreatDoor
open Go.RowKit

theorem under86 : Tryz.prog.underlying 189 = some (.slice 190) := by kernel_rfl
theorem info89 : (Tryz.prog.info? 190).map (fun i => (i.zero, i.size, i.bytes)) = some (some (.agg #[.int .u8 0, .int .u8 0, .int .u8 0, .int .u8 0]), 4, 4) := by kernel_rfl

set_option maxRecDepth 100000 in
set_option maxHeartbeats 1000000 in
theorem expand_bad (w : World) (pa : Option Addr) (n cap : Nat) (h1 : ((n : Int) != 16) = true) (h2 : ((n : Int) != 32) = true) :
    Calls Tryz.prog 124 #[.slice pa n cap] w fun e w' => e = .returned (.tuple #[.pointer none, .int .i64 5]) ∧ w = w' := by
  go_enter Tryz.func124, Tryz.ntmps124
  go_wp2
  go_ret2
  exact ⟨rfl, rfl⟩

theorem len4' {l : List UInt8} (h : l.length = 4) : ∃ a b c d, l = [a, b, c, d] := by
  match l, h with
  | [a, b, c, d], _ => exact ⟨a, b, c, d, rfl⟩
theorem four_at2 {l : List UInt8} {k : Nat} (h : k + 4 ≤ l.length) : ∃ x0 x1 x2 x3, (l.drop k).take 4 = [x0, x1, x2, x3] ∧ l.getD k 0 = x0 ∧ l.getD (k + 1) 0 = x1 ∧ l.getD (k + 2) 0 = x2 ∧ l.getD (k + 3) 0 = x3 := by
  have h4 : ((l.drop k).take 4).length = 4 := by simp; omega
  obtain ⟨a, b, c, d, e⟩ := len4' h4
  have g : ∀ j, j < 4 → l.getD (k + j) 0 = ((l.drop k).take 4).getD j 0 := fun j hj => by
    simp [List.getD, hj]
  refine ⟨a, b, c, d, e, ?_, ?_, ?_, ?_⟩
  · have := g 0 (by omega); rw [e] at this; exact this
  · have := g 1 (by omega); rw [e] at this; exact this
  · have := g 2 (by omega); rw [e] at this; exact this
  · have := g 3 (by omega); rw [e] at this; exact this

theorem Blk.grown {w w' : World} {b : Nat} {cs : List Value} {T : TypeId} {row : Option Nat} (h : Blk w b cs T) (hg : w.grownBy w' row) (hne : some b ≠ row) : Blk w' b cs T := by
  unfold Blk at *; rw [hg.block b (Blk.lt h) hne]; exact h
theorem own_ne {w : World} {base : Nat} {e : TypeId} {size : Nat} {v : Value} {n : Nat} {xs : List Value} {b : Nat} {cs : List Value} {T : TypeId} (ho : w.ownsRow base e size v n xs) (h : Blk w b cs T) (ht : T ≠ e) : some b ≠ v.ownBlock := by
  intro eq
  rcases ho.2 with ⟨rfl, _⟩ | ⟨g, cap, cur, rfl, _, hg, _⟩
  · simp [Value.ownBlock] at eq
  · simp [Value.ownBlock] at eq
    subst eq
    unfold Blk at h
    rw [hg] at h
    simp at h
    exact ht h.2.symm
theorem own_setCell {w : World} {base : Nat} {e : TypeId} {size : Nat} {v : Value} {n : Nat} {xs : List Value} (h : w.ownsRow base e size v n xs) {a : Addr} (hne : some a.block ≠ v.ownBlock) (u : Value) : (w.setCell a u).ownsRow base e size v n xs := by
  obtain ⟨h1, h2⟩ := h
  refine ⟨h1, ?_⟩
  rcases h2 with h2 | ⟨g, cap, cur, hv, hg, hh, r⟩
  · exact Or.inl h2
  · refine Or.inr ⟨g, cap, cur, hv, hg, ?_, r⟩
    rw [Below.heap_setCell _ _ _ _ (fun e => hne (by rw [hv]; simp [Value.ownBlock, e]))]; exact hh

theorem bys_get_pre2 (l : List UInt8) (rest : List Value) (i : Nat) (h : i < l.length) : (bys l ++ rest)[i]? = some (.int .u8 (bv (l.getD i 0))) := by
  rw [List.getElem?_append_left (by rw [bys_length]; exact h), bys_get l i h]
/-- While a key is expanded: the struct at kb, its words so far, the tables. -/
def ExpSt (w wr : World) (kb tb m : Nat) (W : List UInt8) : Prop := ∃ v, Blk wr kb [.pointer (some ⟨tb, 0, none⟩), v] tKeys ∧ wr.ownsRow w.heap.size tA4 4 v m (bys W) ∧ Blk wr tb (bys TAB) tTables ∧ Below w.heap.size w wr

def exZ (m i : Nat) (st : UInt8) (x : List UInt8) : List UInt8 × UInt8 :=
  if i % m = 0 then ((match x with | [a, b, c, d] => [sbox b ^^^ st, sbox c, sbox d, sbox a] | l => l), dbl st)
  else if 6 < m ∧ i % m = 4 then (x.map sbox, st) else (x, st)
def exStep (m i : Nat) (s : List UInt8 × UInt8) : List UInt8 × UInt8 :=
  (s.1 ++ List.zipWith (· ^^^ ·) (exZ m i s.2 ((s.1.drop (4 * (i - 1))).take 4)).1 ((s.1.drop (4 * (i - m))).take 4), (exZ m i s.2 ((s.1.drop (4 * (i - 1))).take 4)).2)
def exTo (m : Nat) (key : List UInt8) : Nat → List UInt8 × UInt8
  | 0 => (key, 1)
  | k + 1 => exStep m (m + k) (exTo m key k)
theorem exZ_len (m i : Nat) (st : UInt8) {x : List UInt8} (h : x.length = 4) : (exZ m i st x).1.length = 4 := by
  obtain ⟨a, b, c, d, rfl⟩ := len4' h
  unfold exZ
  split
  · rfl
  · split <;> rfl
theorem exTo_len (m : Nat) (key : List UInt8) (hk : key.length = 4 * m) (hm : 1 ≤ m) (k : Nat) : (exTo m key k).1.length = 4 * (m + k) := by
  induction k with
  | zero => simpa [exTo] using hk
  | succ k ih =>
    have h1 : (((exTo m key k).1.drop (4 * (m + k - 1))).take 4).length = 4 := by simp; omega
    have h2 : (((exTo m key k).1.drop (4 * (m + k - m))).take 4).length = 4 := by simp; omega
    simp only [exTo, exStep, List.length_append, List.length_zipWith, exZ_len _ _ _ h1, h2]
    omega

/-- Inside a round: the words lie in a row, the struct holds it. -/
def ExpIn (w wr : World) (kb tb g cap m : Nat) (W : List UInt8) : Prop := Blk wr kb [.pointer (some ⟨tb, 0, none⟩), .slice (some ⟨g, 0, none⟩) m cap] tKeys ∧ (∃ rest, Blk wr g (bys W ++ rest) tA4) ∧ wr.ownsRow w.heap.size tA4 4 (.slice (some ⟨g, 0, none⟩) m cap) m (bys W) ∧
  Blk wr tb (bys TAB) tTables ∧ Below w.heap.size w wr ∧ m ≤ cap
theorem ExpSt.isIn {w wr : World} {kb tb m : Nat} {W : List UInt8} (h : ExpSt w wr kb tb m W) (hm : 0 < m) : ∃ g cap, ExpIn w wr kb tb g cap m W := by
  obtain ⟨v, h1, h2, h3, h4⟩ := h
  have h2' := h2
  rcases h2.2 with ⟨_, h0⟩ | ⟨g, cap, cur, rfl, hb, hg, hc, hm', hs, ht⟩
  · omega
  · refine ⟨g, cap, h1, ⟨cur.toList.drop (m * 4), ?_⟩, h2', h3, h4, hc⟩
    unfold Blk
    rw [← ht, List.take_append_drop]; exact hg

theorem ExpIn.alloc {w wr : World} {kb tb g cap m : Nat} {W : List UInt8} (h : ExpIn w wr kb tb g cap m W) (o : Obj) : ExpIn w (wr.alloc o) kb tb g cap m W := by
  obtain ⟨h1, ⟨rest, h2⟩, h3, h4, h5, h6⟩ := h
  exact ⟨h1.alloc o, ⟨rest, h2.alloc o⟩, h3.alloc o, h4.alloc o, h5.alloc h5.size o, h6⟩
theorem ExpIn.chg {w wr w' : World} {kb tb g cap m : Nat} {W : List UInt8} {F : List Nat} (h : ExpIn w wr kb tb g cap m W) (hc : Chg wr.heap.size F wr w') (h1 : kb ∉ F) (h2 : tb ∉ F) (h3 : g ∉ F) (hN : ∀ k, k ∈ F → w.heap.size ≤ k) : ExpIn w w' kb tb g cap m W := by
  obtain ⟨a1, ⟨rest, a2⟩, a3, a4, a5, a6⟩ := h
  refine ⟨a1.chg hc a1.lt h1, ⟨rest, a2.chg hc a2.lt h3⟩, ?_, a4.chg hc a4.lt h2, a5.trans (hc.below a5.size hN), a6⟩
  obtain ⟨b1, b2⟩ := a3
  refine ⟨b1, ?_⟩
  rcases b2 with b2 | ⟨g', cap', cur, hv, hg, hh, r⟩
  · exact Or.inl b2
  · refine Or.inr ⟨g', cap', cur, hv, hg, ?_, r⟩
    cases hv
    rw [hc.block g a2.lt h3]; exact hh
theorem ExpIn.setCell {w wr : World} {kb tb g cap m : Nat} {W : List UInt8} (h : ExpIn w wr kb tb g cap m W) {a : Addr} (h1 : kb ≠ a.block) (h2 : tb ≠ a.block) (h3 : g ≠ a.block) (hN : w.heap.size ≤ a.block) (v : Value) : ExpIn w (wr.setCell a v) kb tb g cap m W :=
  h.chg (F := [a.block]) ((Chg.refl _ _ _).setCell (.inl (by simp)) _) (by simpa using h1) (by simpa using h2) (by simpa using h3) (by simpa using hN)

theorem ExpIn.drew {w wr : World} {kb tb g cap m : Nat} {W : List UInt8} (h : ExpIn w wr kb tb g cap m W) : ExpIn w wr.drew kb tb g cap m W := by
  obtain ⟨h1, ⟨rest, h2⟩, h3, h4, h5, h6⟩ := h
  exact ⟨h1.drew, ⟨rest, h2.drew⟩, h3, h4.drew, h5.drew, h6⟩
theorem ExpIn.below {w wr w' : World} {kb tb g cap m : Nat} {W : List UInt8} (h : ExpIn w wr kb tb g cap m W) (hB : Below wr.heap.size wr w') : ExpIn w w' kb tb g cap m W :=
  h.chg (F := []) (Chg.ofBelow hB) (by simp) (by simp) (by simp) (by simp)
theorem rowAt_pre {w : World} {a : Nat} {l : List UInt8} {rest : List Value} {T : TypeId} (ha : Blk w a (bys l ++ rest) T) (ao an : Nat) : RowAt w (some ⟨a, ao, none⟩) ((l.drop ao).take an) := fun k hk => by
  have hk' := hk
  simp at hk'
  refine ⟨a, ao, rfl, ha.lt, ?_⟩
  rw [ha.cellAt (bys_get_pre2 l rest (ao + k) (by omega))]
  simp [List.getD, show k < an by omega]

theorem under89b : Tryz.prog.underlying 190 = some (.array 4 5) := by kernel_rfl
@[go_sem] theorem arrayAt4b (a : Option Addr) (len cap : Nat) (w : World) (h : 4 ≤ len) : (Instr.arrayAt 190 (.slice a len cap)).run Tryz.prog w = .ok (.pointer a) w :=
  run_arrayAt w 190 5 4 a len cap under89b h

/-- A key's round keys, one behind the other. -/
def rkOf (m : Nat) (key : List UInt8) : List UInt8 := (exTo m key (28 + 3 * m)).1

set_option maxRecDepth 100000 in
set_option maxHeartbeats 40000000 in
theorem expand_any (w : World) (b o n cap m : Nat) (key : List UInt8) (hk : RowAt w (some ⟨b, o, none⟩) key) (hkl : key.length = n) (hm : m = 4 ∨ m = 8) (hn : n = 4 * m) (hc : n ≤ cap) :
    Calls Tryz.prog 124 #[.slice (some ⟨b, o, none⟩) n cap] w fun e w' => ∃ kb, e = .returned (.tuple #[.pointer (some ⟨kb, 0, none⟩), .int .i64 0]) ∧ KeysAt w' kb (rkOf m key) ∧ Below w.heap.size w w' ∧ w.heap.size ≤ kb := by
  have hq : (n : Int) / 4 = (m : Int) := by omega
  have hbr : (((n : Int) != 16) = false) ∨ ((((n : Int) != 16) = true) ∧ (((n : Int) != 32) = false)) := by
    rcases hm with rfl | rfl
    · left; subst hn; rfl
    · right; subst hn; exact ⟨rfl, rfl⟩
  have Hkl := hid hkl
  have Hn := hid hn
  have Hm := hid hm
  clear hkl hn hm
  have hm8 : m ≤ 8 := by have := Hm.out; omega
  go_enter Tryz.func124, Tryz.ntmps124
  go_upto_region 1 with fail
  go_cut [17] (fun s17 wx => s17 = .bool false ∧ w = wx)
  case first =>
    rcases hbr with h1 | ⟨h1, h2⟩
    all_goals (go_wp2_with fail; go_meet; exact ⟨rfl, rfl⟩)
  case rest =>
    obtain ⟨rfl, rfl⟩ := hcut
    clear hbr
    go_wp2_with (go_at_call 167; refine (made_any _).mono ?_; rintro e w1 ⟨tb, rfl, ht, hB1, htb⟩)
    have hkb := Blk.new w1 [.pointer (some ⟨w.heap.size, 0, none⟩), .slice none 0 0] tKeys
    have hkt := ht.alloc (.cells [.pointer (some ⟨w.heap.size, 0, none⟩), .slice none 0 0].toArray tKeys)
    have hB2 := hB1.alloc hB1.size (.cells [.pointer (some ⟨w.heap.size, 0, none⟩), .slice none 0 0].toArray tKeys)
    have hkbl := hB1.size
    have htl := ht.lt
    rw [htb] at htl
    have hsz : (w1.alloc (.cells [.pointer (some ⟨w.heap.size, 0, none⟩), .slice none 0 0].toArray tKeys)).heap.size = w1.heap.size + 1 := by simp
    have hne : w.heap.size ≠ w1.heap.size := by omega
    change Code.wp _ _ _ _ (w1.alloc (.cells [.pointer (some ⟨w.heap.size, 0, none⟩), .slice none 0 0].toArray tKeys))
    generalize w1.alloc (.cells [.pointer (some ⟨w.heap.size, 0, none⟩), .slice none 0 0].toArray tKeys) = w2 at *
    rw [htb] at hkt
    generalize w1.heap.size = kb at *
    generalize htbb : w.heap.size = tb0 at *
    clear ht hB1 htb
    subst htbb
    go_loopw [25] (fun i wr => ∃ j : Nat, j ≤ m ∧ i = .int .i64 j ∧ ExpSt w wr kb w.heap.size j (key.take (4 * j))) (fun i _ => m - (intOf i).toNat)
    case atStart => exact ⟨0, by omega, rfl, .slice none 0 0, hkb, World.ownsRow_nil _ _ _ _, hkt, hB2⟩
    case round =>
      obtain ⟨j, hj, rfl, v, hk1, hown, ht1, hB⟩ := hrel
      clear hkb hkt hB2 hsz
      by_cases hlt : j < m
      · have q1 : 4 * j + 4 ≤ key.length := by have := Hkl.out; have := Hn.out; omega
        obtain ⟨x0, x1, x2, x3, hx, e0, e1, e2, e3⟩ := four_at2 (l := key) (k := 4 * j) q1
        have hkr := hk.below hB
        obtain ⟨b', o', eb, hbl, c0⟩ := hkr (4 * j) (by omega)
        cases eb
        obtain ⟨_, _, eb, _, c1⟩ := hkr (4 * j + 1) (by omega)
        cases eb
        obtain ⟨_, _, eb, _, c2⟩ := hkr (4 * j + 2) (by omega)
        cases eb
        obtain ⟨_, _, eb, _, c3⟩ := hkr (4 * j + 3) (by omega)
        cases eb
        rw [e0] at c0; rw [e1] at c1; rw [e2] at c2; rw [e3] at c3
        rw [← Nat.add_assoc] at c1 c2 c3
        clear e0 e1 e2 e3
        have Hx := hid hx
        clear hx
        have k1 := hk1.cell 1
        simp only [List.getElem?_cons_zero, List.getElem?_cons_succ] at k1
        have q0 : 0 ≤ 4 * (j : Int) := by omega
        have q2 : 4 * (j : Int) ≤ (n : Int) := by have := Hn.out; omega
        have q3 : (4 * (j : Int)).toNat = 4 * j := by omega
        have q4 : ¬ (cap = 4 * j) := by have := Hn.out; omega
        have q5 : 4 ≤ n - 4 * j := by have := Hn.out; omega
        go_upto_region 8 with fail
        obtain ⟨i, hi, hz, hs4, hb4⟩ := info_parts info89
        have hdr : wr.drew.ownsRow w.heap.size tA4 4 v j (bys (key.take (4 * j))) := hown
        have hnew := Blk.new wr.drew (bys [x0, x1, x2, x3]) tA4
        have Hi := hid hi
        have Hz := hid hz
        have Hs4 := hid hs4
        have Hb4 := hid hb4
        have Hown := hid hdr
        have Hnew := hid hnew
        clear hi hz hs4 hb4 hdr hnew hown
        have kbl := hk1.lt
        have hwr1 : IntKind.i64.wrap (4 * (j : Int)) = 4 * (j : Int) := IntWalk.i64_in _ (by omega)
        go_region_law ((refine step_append_lies _ rfl (.tmp 32) (.tmp 39) 189 rfl w.heap.size 190 i (.agg #[.int .u8 0, .int .u8 0, .int .u8 0, .int .u8 0]) 4 4 under86 Hi.out Hz.out Hs4.out Hb4.out rfl (by decide) v j (bys (key.take (4 * j))) rfl (Hown.out.alloc _) ⟨wr.heap.size, 0, none⟩ 1 1 (bys [x0, x1, x2, x3]) rfl rfl (fun a u hu => by rw [Addr.add_mid]; exact Hnew.out.whole a u hu) (bys_one _) (by decide) (by unfold maxLen; omega) (by omega) (by simp; have := hB.size; omega) (wr.heap.size + 1) (by simp) ?_; intro g cap' w' hown' hgrow hgH hlt'; have hkA := (hk1.drew.alloc (.cells (bys [x0, x1, x2, x3]).toArray tA4)).grown hgrow (own_ne (Hown.out.alloc _) (hk1.drew.alloc (.cells (bys [x0, x1, x2, x3]).toArray tA4)) (by decide)); have htA := (ht1.drew.alloc (.cells (bys [x0, x1, x2, x3]).toArray tA4)).grown hgrow (own_ne (Hown.out.alloc _) (ht1.drew.alloc (.cells (bys [x0, x1, x2, x3]).toArray tA4)) (by decide)); have hBA := (hB.drew.alloc hB.size (.cells (bys [x0, x1, x2, x3]).toArray tA4)).grown hgrow (by simp; have := hB.size; omega) (fun k e => (Hown.out.lt k e).1); have kc := hkA.cell 1; have kf := hkA.frozen 1; simp only [List.getElem?_cons_zero, List.getElem?_cons_succ] at kc))
        all_goals
          go_wp2_with fail
          go_roundw
          case rel =>
            refine ⟨j + 1, by omega, by go_num, .slice (some ⟨g, 0, none⟩) (j + 1) cap', hkA.set 1 _, own_setCell ?_ (own_ne hown' hkA (by decide)) _, htA.setNe hne _, hBA.setCell hkbl _⟩
            have e : key.take (4 * (j + 1)) = key.take (4 * j) ++ [x0, x1, x2, x3] := by
              rw [← Hx.out, show 4 * (j + 1) = 4 * j + 4 by omega, List.take_add]
            rw [e]
            simpa [bys] using hown'
          case measure => simp [intOf]; omega
      · obtain rfl : j = m := by omega
        have hkm : key.take (4 * j) = key := by rw [List.take_of_length_le (by have := Hkl.out; have := Hn.out; omega)]
        rw [hkm] at hown
        have hE0 : ExpSt w wr kb w.heap.size j key := ⟨v, hk1, hown, ht1, hB⟩
        clear hkm hown hk1 ht1 hB
        go_wp2_with fail
        go_loopw [7, 8] (fun st i wr => ∃ k : Nat, k ≤ 28 + 3 * j ∧ i = .int .i64 ((j + k : Nat) : Int) ∧ st = B (exTo j key k).2 ∧ ExpSt w wr kb w.heap.size (j + k) (exTo j key k).1) (fun _ i _ => 200 - (intOf i).toNat)
        case atStart => exact ⟨0, by omega, rfl, rfl, hE0⟩
        case round =>
          obtain ⟨k, hk28, rfl, rfl, hE⟩ := hrel
          clear hE0
          have hXl := exTo_len j key (by have := Hkl.out; have := Hn.out; omega) (by have := Hm.out; omega) k
          by_cases hlt2 : k < 28 + 3 * j
          · have hnx : exTo j key (k + 1) = exStep j (j + k) (exTo j key k) := rfl
            have Hnx := hid hnx
            clear hnx
            obtain ⟨i, hi⟩ : ∃ i, i = j + k := ⟨_, rfl⟩
            rw [← hi] at hE hXl Hnx ⊢
            obtain ⟨g, cap2, hk1, ⟨rest, hW⟩, hown, ht1, hB, hcap⟩ := hE.isIn (by have := Hm.out; omega)
            clear hE
            generalize exTo j key k = S at *
            obtain ⟨W, st⟩ := S
            dsimp only at hXl hW hown Hnx ⊢
            have j1 : 4 ≤ j := by have := Hm.out; omega
            have i1 : j ≤ i := by omega
            have i2 : i < 4 * (j + 7) := by omega
            have Hi := hid hi
            clear hi
            have k0 := hk1.cell 0
            have k1 := hk1.cell 1
            simp only [List.getElem?_cons_zero, List.getElem?_cons_succ] at k0 k1
            have q0 : 4 * ((j : Int) + 7) ≤ 100 := by omega
            have q1 : (i : Int) < 4 * ((j : Int) + 7) := by omega
            have q2 : 0 ≤ (i : Int) - 1 := by omega
            have q3 : (i : Int) - 1 < (i : Int) := by omega
            have q4 : ((i : Int) - 1).toNat = i - 1 := by omega
            obtain ⟨x0, x1, x2, x3, hx, e0, e1, e2, e3⟩ := four_at2 (l := W) (k := 4 * (i - 1)) (by omega)
            have c0 := hW.cellAt (bys_get_pre2 W rest ((i - 1) * 4) (by omega))
            have c1 := hW.cellAt (bys_get_pre2 W rest ((i - 1) * 4 + 1) (by omega))
            have c2 := hW.cellAt (bys_get_pre2 W rest ((i - 1) * 4 + 2) (by omega))
            have c3 := hW.cellAt (bys_get_pre2 W rest ((i - 1) * 4 + 3) (by omega))
            rw [Nat.mul_comm (i - 1) 4] at c0 c1 c2 c3
            rw [e0] at c0; rw [e1] at c1; rw [e2] at c2; rw [e3] at c3
            rw [Nat.mul_comm 4 (i - 1)] at c0 c1 c2 c3
            clear e0 e1 e2 e3
            have Hx := hid hx
            have HXl := hid hXl
            have Hown := hid hown
            clear hx hXl hown
            go_upto_block 4 with fail
            have z0 : ¬ ((j : Int) = 0) := by omega
            have z1 : 0 ≤ (i : Int) := by omega
            have hX := (⟨hk1, ⟨rest, hW⟩, Hown.out, ht1, hB, hcap⟩ : ExpIn w wr kb w.heap.size g cap2 i W)
            have HIn := hid hX
            have hsz := hB.size
            have kbl := hk1.lt
            have gl := hW.lt
            have tl := ht1.lt
            clear hX
            go_cut [7] (fun s7 wx => ∃ z st', z.length = 4 ∧ s7 = B st' ∧ exZ j i st [x0, x1, x2, x3] = (z, st') ∧ Blk wx wr.heap.size (bys z) tA4 ∧ ExpIn w wx kb w.heap.size g cap2 i W)
            case first =>
              by_cases hA : i % j = 0
              · have b1 : ((i : Int) % (j : Int) == 0) = true := by rw [beq_iff_eq]; omega
                have HA := hid hA
                clear hA
                go_wp2_with fail
                have hcb := Blk.new wr (bys [x1, x2, x3, x0]) tA4
                have hc1 := ExpIn.alloc HIn.out (.cells (bys [x1, x2, x3, x0]).toArray tA4)
                have hsz2 : (wr.alloc (.cells (bys [x1, x2, x3, x0]).toArray tA4)).heap.size = wr.heap.size + 1 := by simp
                change Calls _ _ _ (wr.alloc (.cells (bys [x1, x2, x3, x0]).toArray tA4)) _
                generalize wr.alloc (.cells (bys [x1, x2, x3, x0]).toArray tA4) = w3 at *
                refine (subs_any w3 kb w.heap.size wr.heap.size 4 4 _ [x1, x2, x3, x0] tA4 hc1.1 hc1.2.2.2.1 hcb rfl (by omega) (by omega) (by omega)).mono ?_
                rintro e w4 ⟨rfl, hcb4, hch4⟩
                have hc4 := hc1.chg hch4 (by simp; omega) (by simp; omega) (by simp; omega) (by simp; omega)
                have d0 := hcb4.cell 0
                have f0 := hcb4.frozen 0
                simp only [bys, List.map_cons, List.map_nil, List.getElem?_cons_zero] at d0
                go_wp2_with (go_at_call 169; refine (double_any _ _).mono ?_; rintro e w' ⟨rfl, rfl⟩)
                go_meet
                refine ⟨[sbox x1 ^^^ st, sbox x2, sbox x3, sbox x0], dbl st, rfl, rfl, by unfold exZ; rw [if_pos HA.out], ?_, ?_⟩
                · simpa [bys] using hcb4.set 0 (.int .u8 (bv (sbox x1 ^^^ st)))
                · exact hc4.setCell (by dsimp only; omega) (by dsimp only; omega) (by dsimp only; omega) (by dsimp only; omega) _
              · have b1 : ((i : Int) % (j : Int) == 0) = false := by rw [beq_eq_false_iff_ne]; omega
                have HA := hid hA
                clear hA
                by_cases hC : 6 < j ∧ i % j = 4
                · have b2 : decide (6 < (j : Int)) = true := by simp; omega
                  have b3 : ((i : Int) % (j : Int) == 4) = true := by rw [beq_iff_eq]; omega
                  have HC := hid hC
                  clear hC
                  go_wp2_with fail
                  have hcb := Blk.new wr (bys [x0, x1, x2, x3]) tA4
                  have hc1 := ExpIn.alloc HIn.out (.cells (bys [x0, x1, x2, x3]).toArray tA4)
                  have hsz2 : (wr.alloc (.cells (bys [x0, x1, x2, x3]).toArray tA4)).heap.size = wr.heap.size + 1 := by simp
                  change Calls _ _ _ (wr.alloc (.cells (bys [x0, x1, x2, x3]).toArray tA4)) _
                  generalize wr.alloc (.cells (bys [x0, x1, x2, x3]).toArray tA4) = w3 at *
                  refine (subs_any w3 kb w.heap.size wr.heap.size 4 4 _ [x0, x1, x2, x3] tA4 hc1.1 hc1.2.2.2.1 hcb rfl (by omega) (by omega) (by omega)).mono ?_
                  rintro e w4 ⟨rfl, hcb4, hch4⟩
                  have hc4 := hc1.chg hch4 (by simp; omega) (by simp; omega) (by simp; omega) (by simp; omega)
                  go_wp2_with fail
                  go_meet
                  exact ⟨[x0, x1, x2, x3].map sbox, st, rfl, rfl, by unfold exZ; rw [if_neg HA.out, if_pos HC.out], hcb4, hc4⟩
                · have hcb := Blk.new wr (bys [x0, x1, x2, x3]) tA4
                  have hc1 := ExpIn.alloc HIn.out (.cells (bys [x0, x1, x2, x3]).toArray tA4)
                  have HC := hid hC
                  have Hcb := hid hcb
                  have Hc1 := hid hc1
                  clear hcb hc1
                  by_cases h6 : 6 < j
                  · have b2 : decide (6 < (j : Int)) = true := by simp; omega
                    have b3 : ((i : Int) % (j : Int) == 4) = false := by rw [beq_eq_false_iff_ne]; omega
                    clear hC
                    go_wp2_with fail
                    go_meet
                    exact ⟨[x0, x1, x2, x3], st, rfl, rfl, by unfold exZ; rw [if_neg HA.out, if_neg HC.out], Hcb.out, Hc1.out⟩
                  · have b2 : decide (6 < (j : Int)) = false := by simp; omega
                    clear hC
                    go_wp2_with fail
                    go_meet
                    exact ⟨[x0, x1, x2, x3], st, rfl, rfl, by unfold exZ; rw [if_neg HA.out, if_neg HC.out], Hcb.out, Hc1.out⟩
            case rest =>
              obtain ⟨z, st', hz4, rfl, hz, hcbz, hIn⟩ := hcut
              clear c0 c1 c2 c3 k0 k1 hk1 hW ht1 hB HIn Hown
              obtain ⟨z0, z1, z2, z3, hzz⟩ := len4' hz4
              obtain ⟨rest2, hW2⟩ := hIn.2.1
              have hY4 : ((W.drop (4 * (i - j))).take 4).length = 4 := by have := HXl.out; simp; omega
              have hRY : RowAt wc.drew (some ⟨g, (i - j) * 4, none⟩) ((W.drop (4 * (i - j))).take 4) := by rw [Nat.mul_comm (i - j) 4]; exact rowAt_pre hW2 (4 * (i - j)) 4
              have hRZ : RowAt wc.drew (some ⟨wr.heap.size, 0, none⟩) z := hcbz.rowAt0
              have hv4 : (List.zipWith (· ^^^ ·) z ((W.drop (4 * (i - j))).take 4)).length = 4 := by simp only [List.length_zipWith, hY4, hz4]; decide
              obtain ⟨v0, v1, v2, v3, hv⟩ := len4' hv4
              have hnx2 : exTo j key (k + 1) = (W ++ [v0, v1, v2, v3], st') := by
                rw [Hnx.out]; unfold exStep; dsimp only; rw [Hx.out, hz, hv]
              have Hnx2 := hid hnx2
              have HIn := hid hIn
              have HRY := hid hRY
              have HRZ := hid hRZ
              have Hz4 := hid hz4
              have HY4 := hid hY4
              have Hv := hid hv
              have k1 := hIn.1.cell 1
              simp only [List.getElem?_cons_zero, List.getElem?_cons_succ] at k1
              have hq5 : (i : Int) - (j : Int) < (i : Int) := by omega
              have hq6 : 0 ≤ (i : Int) - (j : Int) := by omega
              have hq7 : ((i : Int) - (j : Int)).toNat = i - j := by omega
              clear hnx2 hIn hRY hRZ hz4 hY4 hv hv4 hW2 hcbz hzz hz Hnx
              have hwr9 : IntKind.i64.wrap ((i : Int) - (j : Int)) = (i : Int) - (j : Int) := IntWalk.i64_in _ (by omega)
              go_wp2_with fail
              obtain ⟨i0, hi0, hz0, hs0, hb0⟩ := info_parts info89
              have Hi0 := hid hi0
              have Hz0 := hid hz0
              have Hs0 := hid hs0
              have Hb0 := hid hb0
              clear hi0 hz0 hs0 hb0
              have kbl3 := HIn.out.1.lt
              have i100 : i < 100 := by omega
              go_region_law (first | (go_simp; go_at_call 137; refine (xor_any _ _ _ 4 4 4 4 4 z _ HRZ.out HRY.out Hz4.out HY4.out (by omega) rfl).mono ?_; rintro e w5 ⟨rfl, hb5, hB5⟩; rw [Hv.out] at hb5; have d0 := hb5.cell 0; have d1 := hb5.cell 1; have d2 := hb5.cell 2; have d3 := hb5.cell 3; simp only [bys, List.map_cons, List.map_nil, List.getElem?_cons_zero, List.getElem?_cons_succ, World.size_drew] at d0 d1 d2 d3; have hIn5 := ExpIn.below (ExpIn.drew HIn.out) hB5; have HI5 := hid hIn5; have k15 := hIn5.1.cell 1; simp only [List.getElem?_cons_zero, List.getElem?_cons_succ] at k15; have kbl5 := hIn5.1.lt; clear hIn5 hb5) | (refine step_append_lies _ rfl (.tmp 100) (.tmp 114) 189 rfl w.heap.size 190 i0 (.agg #[.int .u8 0, .int .u8 0, .int .u8 0, .int .u8 0]) 4 4 under86 Hi0.out Hz0.out Hs0.out Hb0.out rfl (by decide) (.slice (some ⟨g, 0, none⟩) i cap2) i (bys W) rfl (HI5.out.2.2.1.alloc _) ⟨w5.heap.size, 0, none⟩ 1 1 (bys [v0, v1, v2, v3]) rfl rfl (fun a u hu => by rw [Addr.add_mid]; exact (Blk.new w5 (bys [v0, v1, v2, v3]) tA4).whole a u hu) (bys_one _) (by decide) (by unfold maxLen; omega) (by omega) (by simp; have := HI5.out.2.2.2.2.1.size; omega) (w5.heap.size + 1) (by simp) ?_; intro g' cap' w' hown' hgrow hgH hlt'; have hI6 := ExpIn.alloc HI5.out (.cells (bys [v0, v1, v2, v3]).toArray tA4); have hkA := hI6.1.grown hgrow (own_ne hI6.2.2.1 hI6.1 (by decide)); have htA := hI6.2.2.2.1.grown hgrow (own_ne hI6.2.2.1 hI6.2.2.2.1 (by decide)); have hBA := hI6.2.2.2.2.1.grown hgrow hI6.2.2.2.2.1.size (fun k e => (hI6.2.2.1.lt k e).1); have kc := hkA.cell 1; have kf := hkA.frozen 1; simp only [List.getElem?_cons_zero, List.getElem?_cons_succ] at kc; clear hI6))
              all_goals
                go_wp2_with fail
                go_roundw
                case rel =>
                  have := Hi.out
                  refine ⟨k + 1, by omega, by rw [Hi.out]; go_num, by rw [Hnx2.out], .slice (some ⟨g', 0, none⟩) (i + 1) cap', hkA.set 1 _, own_setCell ?_ (own_ne hown' hkA (by decide)) _, htA.setNe hne _, hBA.setCell hkbl _⟩
                  rw [Hnx2.out, show j + (k + 1) = i + 1 by have := Hi.out; omega]
                  simpa [bys] using hown'
                case measure => have := Hi.out; simp [intOf]; omega
          · obtain rfl : k = 28 + 3 * j := by omega
            obtain ⟨g, cap2, hk1, ⟨rest, hW⟩, hown, ht1, hB, hcap⟩ := hE.isIn (by have := Hm.out; omega)
            have hK : KeysAt wr kb (rkOf j key) := ⟨w.heap.size, g, _, cap2, rest, hk1, ht1, hW, hXl.trans (by omega), by have := Hm.out; omega⟩
            obtain ⟨M, hM⟩ : ∃ M, M = j + (28 + 3 * j) := ⟨_, rfl⟩
            have q9 : (4 : Int) * ((j : Int) + 7) ≤ 100 := by omega
            have q10 : (4 : Int) * ((j : Int) + 7) ≤ (M : Int) := by omega
            rw [← hM]
            have HK := hid hK
            generalize (exTo j key (28 + 3 * j)).2 = stf
            clear hE hk1 hW hown ht1 hXl hK hM
            go_wp2_with fail
            go_ret2
            exact ⟨kb, rfl, HK.out, hB, hkbl⟩

#print axioms expand_any
end Go.Proofs.YtnmmnlffobnbfaaGreatDoor

/- arrays of bytes, compared -/
namespace Go.Proofs.YtnmmnlffobnbfaaGreatDoor
open Go.RowKit
section
variable {P : Program}
theorem run_eq_loop (d : Nat) (e : TypeId) (k : IntKind) (X Y : List UInt8) (he : P.underlying e = some (.int k)) (hl : X.length = Y.length) (w : World) : ∀ (m s : Nat), s + m ≤ X.length →
    ((forIn (List.range' s m) ((none : Option Bool), ()) fun i __s => do
              let __do_lift ← part e (bys X).toArray (i * 1)
              let __do_lift_1 ← part e (bys Y).toArray (i * 1)
              let __do_lift ← Op.equalIn (d + 1) e __do_lift __do_lift_1
              if __do_lift = false then pure (ForInStep.done (some false, ())) else pure (ForInStep.yield (none, ())) : Sem (Option Bool × Unit))).run P w =
      .ok (if (List.range' s m).all (fun i => X.getD i 0 == Y.getD i 0) then (none, ()) else (some false, ())) w := by
  intro m
  induction m with
  | zero => intro s _; simp
  | succ m ih =>
    intro s hs
    have hx := bys_get X s (by omega)
    have hy := bys_get Y s (by omega)
    have hg : (isAgg e).run P w = .ok false w := by simp [isAgg, run_underlying he, go_sem]
    have px : (part e (bys X).toArray s).run P w = .ok (.int .u8 (bv (X.getD s 0))) w := by
      simp only [part, Sem.run_bind, hg, Result.andThen_ok]
      simp [hx]
    have py : (part e (bys Y).toArray s).run P w = .ok (.int .u8 (bv (Y.getD s 0))) w := by
      simp only [part, Sem.run_bind, hg, Result.andThen_ok]
      simp [hy]
    have pe : (Op.equalIn (d + 1) e (.int .u8 (bv (X.getD s 0))) (.int .u8 (bv (Y.getD s 0)))).run P w = .ok (X.getD s 0 == Y.getD s 0) w := by
      rw [run_equalIn_int w d e .u8 k _ _ he]
      congr 1
      rw [Bool.eq_iff_iff, beq_iff_eq, beq_iff_eq]
      exact ⟨bv_inj, fun h => by rw [h]⟩
    rw [List.range'_succ]
    cases hb : (X.getD s 0 == Y.getD s 0)
    · rw [hb] at pe
      simp only [List.forIn_cons, Sem.run_bind, Nat.mul_one, px, py, pe, Result.andThen_ok, List.all_cons, hb]
      simp
    · rw [hb] at pe
      have := ih (s + 1) (by omega)
      simp only [Nat.mul_one] at this
      simp only [List.forIn_cons, Sem.run_bind, Nat.mul_one, px, py, pe, Result.andThen_ok, List.all_cons, hb, Bool.true_and]
      simp only [Bool.true_eq_false, if_false, Sem.run_pure, Result.andThen_ok]
      exact this
theorem all_eq (X Y : List UInt8) (hl : X.length = Y.length) : (List.range' 0 X.length).all (fun i => X.getD i 0 == Y.getD i 0) = decide (X = Y) := by
  rw [Bool.eq_iff_iff, List.all_eq_true, decide_eq_true_iff]
  constructor
  · intro h
    apply List.ext_getElem hl
    intro i h1 h2
    have := h i (by simp [List.mem_range', h1])
    simpa [List.getD, List.getElem?_eq_getElem h1, List.getElem?_eq_getElem h2] using this
  · rintro rfl i _; simp
theorem run_equalIn_bytes (d : Nat) (t e : TypeId) (k : IntKind) (X Y : List UInt8) (ht : P.underlying t = some (.array X.length e)) (he : P.underlying e = some (.int k)) (hs : (P.info? e).map (·.size) = some 1) (hl : X.length = Y.length) (w : World) :
    (Op.equalIn (d + 2) t (.agg (bys X).toArray) (.agg (bys Y).toArray)).run P w = .ok (decide (X = Y)) w := by
  have h1 : (sizeOf e).run P w = .ok 1 w := by
    obtain ⟨i, hi, hz⟩ := Option.map_eq_some_iff.1 hs
    simp [sizeOf, typeInfo, hi, hz]
  have hloop := run_eq_loop (P := P) d e k X Y he hl w X.length 0 (by omega)
  rw [all_eq X Y hl] at hloop
  unfold Op.equalIn
  simp only [Sem.run_bind, run_underlying ht, Result.andThen_ok]
  simp
  rw [h1]
  simp only [Result.andThen_ok]
  rw [hloop]
  simp only [Result.andThen_ok]
  by_cases h : X = Y
  · simp [h]
  · simp [h]
end
end Go.Proofs.YtnmmnlffobnbfaaGreatDoor
