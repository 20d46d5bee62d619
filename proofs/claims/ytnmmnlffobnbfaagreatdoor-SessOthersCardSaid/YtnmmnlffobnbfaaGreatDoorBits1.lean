/- bits: rows made byte by byte -/
import Derived.Test.YtnmmnlffobnbfaaGreatDoorBase
namespace Go.Proofs.YtnmmnlffobnbfaaGreatDoor
open Go.RowKit

theorem info5 : (Tryz.prog.info? 5).map (fun i => (i.zero, i.size, i.bytes)) = some (some (.int .u8 0), 1, 1) := by kernel_rfl
theorem under33b : Tryz.prog.underlying 23 = some (.slice 5) := by kernel_rfl

/-- What puts asks of the function that it is handed: at each place, in each later world, it tells a byte and writes nothing. -/
def Tells (w : World) (fid : Nat) (caps : Array Value) (n : Nat) (F : Nat → UInt8) : Prop :=
  ∀ k, k < n → ∀ w1, Below w.heap.size w w1 → Calls Tryz.prog fid (#[.int .i64 k] ++ caps) w1 fun e w2 => e = .returned (.int .u8 (bv (F k))) ∧ ∃ m, w1.drewN m = w2

def firsts (F : Nat → UInt8) (k n : Nat) : List UInt8 := (List.range k).map F ++ (List.replicate n 0).drop k
theorem firsts_succ (F : Nat → UInt8) (k n : Nat) (h : k < n) : (firsts F k n).set k (F k) = firsts F (k + 1) n := by
  unfold firsts
  rw [app_set 0 _ _ _ k (by simp) (by simpa using h), List.range_succ, List.map_append]; rfl
theorem firsts_len (F : Nat → UInt8) (k n : Nat) (h : k ≤ n) : (firsts F k n).length = n := by simp [firsts]; omega
theorem firsts_zero (F : Nat → UInt8) (n : Nat) : firsts F 0 n = List.replicate n 0 := by simp [firsts]
theorem firsts_all (F : Nat → UInt8) (n : Nat) : firsts F n n = (List.range n).map F := by simp [firsts]

set_option maxRecDepth 100000 in
set_option maxHeartbeats 1000000 in
theorem puts_any (w : World) (fid : Nat) (caps : Array Value) (n : Nat) (F : Nat → UInt8) (hcf : ∀ args w, (callFunc fid args).run Tryz.prog w = .ok (.enter fid args) w) (hf : Tells w fid caps n F) (hn : n ≤ 140737488355328) :
    Calls Tryz.prog 162 #[.int .i64 n, .func (.func fid) #[] caps] w fun e w' => e = .returned (.slice (some ⟨w.heap.size, 0, none⟩) n n) ∧ Blk w' w.heap.size (bys ((List.range n).map F)) tU8 ∧ Below w.heap.size w w' := by
  have Hf := hid hf; clear hf
  have hmk := run_make_row' (P := Tryz.prog) 23 5 (.int .u8 0) 1 under33b info5 rfl .i64 .i64 n (by omega) (by omega)
  rw [madeCells_bys] at hmk
  go_enter Tryz.func162, Tryz.ntmps162
  go_wp2_with fail
  have hb0 := Blk.new w (bys (List.replicate n 0)) tU8
  have hB0 : Below w.heap.size w (w.alloc (.cells (bys (List.replicate n 0)).toArray 5)) := (Below.refl _ _).alloc (Nat.le_refl _) _
  clear hmk
  rw [← firsts_zero F n] at hb0 hB0 ⊢
  change Code.wp _ _ _ _ (w.alloc (.cells (bys (firsts F 0 n)).toArray tU8))
  generalize w.alloc (.cells (bys (firsts F 0 n)).toArray tU8) = w0 at *
  go_loopw [12] (fun i wr => ∃ k : Nat, k ≤ n ∧ i = .int .i64 k ∧ Blk wr w.heap.size (bys (firsts F k n)) tU8 ∧ Below w.heap.size w wr) (fun i _ => n - (intOf i).toNat)
  case atStart => exact ⟨0, by omega, rfl, hb0, hB0⟩
  case round =>
    obtain ⟨k, hkn, rfl, hb, hB⟩ := hrel
    clear hb0 hB0
    by_cases hlt : k < n
    · have hla := firsts_len F k n hkn
      have hc := hb.cellAt (bys_get _ k (by omega))
      have hff := hb.frozen k
      have hs := firsts_succ F k n hlt
      have Hs := hid hs; clear hs hla
      go_wp2_with (refine (Hf.out k hlt _ hB).mono ?_; rintro e w' ⟨rfl, m, rfl⟩)
      go_roundw
      case rel =>
        refine ⟨k + 1, by omega, by go_num, ?_, (below_drewN hB _).setCell (Nat.le_refl _) _⟩
        rw [← Hs.out, ← bys_set]; exact (hb.drewN _).set _ _
      case measure => simp [intOf]; omega
    · obtain rfl : k = n := by omega
      rw [firsts_all] at hb
      go_wp2_with fail
      go_ret
      exact ⟨rfl, hb, hB⟩

set_option maxRecDepth 100000 in
set_option maxHeartbeats 1000000 in
theorem xor1_any (w : World) (pa pb a b ao bo an ac bn bc k : Nat) (x y : UInt8) (ha : w.cell? ⟨pa, 0, none⟩ = some (.slice (some ⟨a, ao, none⟩) an ac)) (hb : w.cell? ⟨pb, 0, none⟩ = some (.slice (some ⟨b, bo, none⟩) bn bc))
    (hx : w.cell? ⟨a, ao + k, none⟩ = some (.int .u8 (bv x))) (hy : w.cell? ⟨b, bo + k, none⟩ = some (.int .u8 (bv y))) (hka : k < an) (hkb : k < bn) :
    Calls Tryz.prog 181 #[.int .i64 k, .pointer (some ⟨pa, 0, none⟩), .pointer (some ⟨pb, 0, none⟩)] w fun e w' => e = .returned (.int .u8 (bv (x ^^^ y))) ∧ ∃ m, w.drewN m = w' := by
  go_enter Tryz.func181, Tryz.ntmps181
  have q1 : (k : Int) < (an : Int) := by omega
  have q2 : (k : Int) < (bn : Int) := by omega
  have q3 : 0 ≤ (k : Int) := by omega
  go_wp2_with fail
  go_quiet (fail)
  go_wp2_with fail
  go_ret
  exact ⟨rfl, _, rfl⟩


theorem call64 (args : Array Value) (w : World) : (callFunc 181 args).run Tryz.prog w = .ok (.enter 181 args) w := by kernel_rfl

theorem range_map_zip (X Y : List UInt8) (n : Nat) (hn : n = min X.length Y.length) : (List.range n).map (fun k => X.getD k 0 ^^^ Y.getD k 0) = List.zipWith (· ^^^ ·) X Y := by
  subst hn
  apply List.ext_getElem
  · simp
  · intro i h1 h2
    simp at h1
    simp [List.getD, List.getElem?_eq_getElem (show i < X.length by omega), List.getElem?_eq_getElem (show i < Y.length by omega)]

/-- A slice's bytes, as they may be read: where there are any, at an address. -/
def RowAt (w : World) (pa : Option Addr) (X : List UInt8) : Prop :=
  ∀ k, k < X.length → ∃ b o, pa = some ⟨b, o, none⟩ ∧ b < w.heap.size ∧ w.cell? ⟨b, o + k, none⟩ = some (.int .u8 (bv (X.getD k 0)))
theorem RowAt.nil (w : World) (pa : Option Addr) : RowAt w pa [] := fun k hk => by simp at hk
theorem RowAt.below {w w' : World} {pa : Option Addr} {X : List UInt8} (h : RowAt w pa X) (hB : Below w.heap.size w w') : RowAt w' pa X := fun k hk => by
  obtain ⟨b, o, h1, h2, h3⟩ := h k hk
  exact ⟨b, o, h1, Nat.lt_of_lt_of_le h2 hB.size, by rw [hB.cell (p := ⟨b, o + k, none⟩) h2]; exact h3⟩
theorem Blk.rowAt {w : World} {a : Nat} {l : List UInt8} {T : TypeId} (ha : Blk w a (bys l) T) (ao an : Nat) : RowAt w (some ⟨a, ao, none⟩) ((l.drop ao).take an) := fun k hk => by
  have hk' := hk
  simp at hk'
  refine ⟨a, ao, rfl, ha.lt, ?_⟩
  rw [ha.cellAt (bys_get l (ao + k) (by omega))]
  simp [List.getD, show k < an by omega]
theorem Blk.rowAt0 {w : World} {a : Nat} {l : List UInt8} {T : TypeId} (ha : Blk w a (bys l) T) : RowAt w (some ⟨a, 0, none⟩) l := by
  have := ha.rowAt 0 l.length
  simpa using this

theorem xor_core (w : World) (pa pb : Option Addr) (an ac bn bc n : Nat) (X Y : List UInt8) (hX : RowAt w pa X) (hY : RowAt w pb Y)
    (hXl : X.length = an) (hYl : Y.length = bn) (hn : an ≤ 140737488355328) (hmn : n = min an bn) :
    Calls Tryz.prog 162 #[.int .i64 n, .func (.func 181) #[] #[.pointer (some ⟨w.heap.size, 0, none⟩), .pointer (some ⟨w.heap.size + 1, 0, none⟩)]]
      ((w.alloc (.cells #[.slice pa an ac] tBytes)).alloc (.cells #[.slice pb bn bc] tBytes))
      fun e w' => e = .returned (.slice (some ⟨w.heap.size + 2, 0, none⟩) n n) ∧ Blk w' (w.heap.size + 2) (bys (List.zipWith (· ^^^ ·) X Y)) tU8 ∧ Below w.heap.size w w' := by
  have g1 : ((w.alloc (.cells #[.slice pa an ac] tBytes)).alloc (.cells #[.slice pb bn bc] tBytes)).heap.size = w.heap.size + 2 := by simp
  have p1 : Blk ((w.alloc (.cells #[.slice pa an ac] tBytes)).alloc (.cells #[.slice pb bn bc] tBytes)) w.heap.size [.slice pa an ac] tBytes :=
    (Blk.new w [.slice pa an ac] tBytes).alloc _
  have p2 : Blk ((w.alloc (.cells #[.slice pa an ac] tBytes)).alloc (.cells #[.slice pb bn bc] tBytes)) (w.heap.size + 1) [.slice pb bn bc] tBytes := by
    have := Blk.new (w.alloc (.cells #[.slice pa an ac] tBytes)) [.slice pb bn bc] tBytes
    simpa using this
  have hB : Below w.heap.size w ((w.alloc (.cells #[.slice pa an ac] tBytes)).alloc (.cells #[.slice pb bn bc] tBytes)) :=
    ((Below.refl _ _).alloc (Nat.le_refl _) _).alloc (by simp) _
  generalize ((w.alloc (.cells #[.slice pa an ac] tBytes)).alloc (.cells #[.slice pb bn bc] tBytes)) = w2 at *
  have ha2 := hX.below hB
  have hb2 := hY.below hB
  have := puts_any w2 181 #[.pointer (some ⟨w.heap.size, 0, none⟩), .pointer (some ⟨w.heap.size + 1, 0, none⟩)] n (fun k => X.getD k 0 ^^^ Y.getD k 0) call64 (by
    intro k hk w1 hB1
    have c1 := (p1.below hB1 p1.lt).cell 0
    have c2 := (p2.below hB1 p2.lt).cell 0
    obtain ⟨a, ao, rfl, ha, hx⟩ := ha2.below hB1 k (by omega)
    obtain ⟨b, bo, rfl, hb, hy⟩ := hb2.below hB1 k (by omega)
    exact xor1_any w1 _ _ a b ao bo an ac bn bc k _ _ c1 c2 hx hy (by omega) (by omega)) (by omega)
  refine this.mono ?_
  rintro e w' ⟨rfl, h1, h2⟩
  rw [range_map_zip X Y n (by rw [hXl, hYl]; exact hmn), g1] at h1
  rw [g1]
  exact ⟨rfl, h1, hB.trans (h2.mono hB.size)⟩

set_option maxRecDepth 100000 in
set_option maxHeartbeats 1000000 in
/-- bits.Xor: the exclusive or of two rows, in a new row. -/
theorem xor_any (w : World) (pa pb : Option Addr) (an ac bn bc n : Nat) (X Y : List UInt8) (hX : RowAt w pa X) (hY : RowAt w pb Y)
    (hXl : X.length = an) (hYl : Y.length = bn) (hn : an ≤ 140737488355328) (hmn : n = min an bn) :
    Calls Tryz.prog 137 #[.slice pa an ac, .slice pb bn bc] w fun e w' => e = .returned (.slice (some ⟨w.heap.size + 2, 0, none⟩) n n) ∧ Blk w' (w.heap.size + 2) (bys (List.zipWith (· ^^^ ·) X Y)) tU8 ∧ Below w.heap.size w w' := by
  have Hc := hid (xor_core w pa pb an ac bn bc n X Y hX hY hXl hYl hn hmn)
  clear hX hY hXl hYl
  have Hmn := hid hmn
  clear hmn
  go_enter Tryz.func137, Tryz.ntmps137
  go_wp2_with fail
  · have e : bn = n := by have := Hmn.out; omega
    subst e
    refine Hc.out.mono ?_
    rintro e w' ⟨rfl, h1, h2⟩
    go_wp2_with fail
    go_ret
    exact ⟨rfl, h1, h2⟩
  · have e : an = n := by have := Hmn.out; omega
    subst e
    refine Hc.out.mono ?_
    rintro e w' ⟨rfl, h1, h2⟩
    go_wp2_with fail
    go_ret
    exact ⟨rfl, h1, h2⟩

end Go.Proofs.YtnmmnlffobnbfaaGreatDoor
