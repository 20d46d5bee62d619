/- cbc: mixed; what Seal and Open come to -/
import Derived.Test.YtlgeebnmonmdaaaPs
import Derived.Test.YtlgeebnmonmdaaaAes6
import Derived.Test.YtlgeebnmonmdaaaCt
namespace Go.Proofs.Ytlgeebnmonmdaaa
open Go.RowKit

set_option maxRecDepth 100000 in
set_option maxHeartbeats 1000000 in
theorem arrayAt16 (w : World) (a : Option Addr) (len cap : Nat) (h : 16 ≤ len) : (Instr.arrayAt 23 (.slice a len cap)).run Try.prog w = .ok (.pointer a) w :=
  run_arrayAt w 23 5 16 a len cap under54 h
set_option maxRecDepth 100000 in
set_option maxHeartbeats 1000000 in
theorem cmixed_any (w : World) (a b : List UInt8) (pb : Option Addr) (cb : Nat) (ha : a.length = 16) (hb : RowAt w pb b) (hbl : b.length = 16) :
    Calls Try.prog 42 #[.agg (bys a).toArray, .slice pb 16 cb] w fun e w' => e = .returned (.agg (bys (List.zipWith (· ^^^ ·) a b)).toArray) ∧ Below w.heap.size w w' := by
  have h0 : Blk ((w.alloc (.cells (bys a).toArray tA16)).alloc (.cells (bys z16).toArray tA16)) w.heap.size (bys a) tA16 := (Blk.new w (bys a) tA16).alloc _
  have h1 : Blk ((w.alloc (.cells (bys a).toArray tA16)).alloc (.cells (bys z16).toArray tA16)) (w.heap.size + 1) (bys z16) tA16 := by
    have := Blk.new (w.alloc (.cells (bys a).toArray tA16)) (bys z16) tA16
    simpa using this
  have hB : Below w.heap.size w ((w.alloc (.cells (bys a).toArray tA16)).alloc (.cells (bys z16).toArray tA16)) := ((Below.refl _ _).alloc (Nat.le_refl _) _).alloc (by simp) _
  have hb1 := hb.below hB
  obtain ⟨q, hq⟩ : ∃ q, List.zipWith (· ^^^ ·) a b = q := ⟨_, rfl⟩
  have hql : q.length = 16 := by rw [← hq, List.length_zipWith, ha, hbl]; rfl
  have Hq := hid hq
  have Hql := hid hql
  clear hb
  go_enter Try.func42, Try.ntmps42
  go_wp2_with fail
  change Calls _ _ _ ((w.alloc (.cells (bys a).toArray tA16)).alloc (.cells (bys z16).toArray tA16)) _
  generalize ((w.alloc (.cells (bys a).toArray tA16)).alloc (.cells (bys z16).toArray tA16)) = w1 at *
  refine (xor_any w1 (some ⟨w.heap.size, 0, none⟩) pb 16 16 16 cb 16 a b h0.rowAt0 hb1 ha hbl (by omega) rfl).mono ?_
  rintro e w2 ⟨rfl, hx, hB2⟩
  rw [Hq.out] at hx
  have h1 := h1.below hB2 h1.lt
  have hBB := hB.trans (hB2.mono hB.size)
  have hszq : (Try.prog.info? 23).map (·.size) = some (bys q).length := by rw [size54, bys_length, Hql.out]
  have harr := arrayAt16 w2 (some ⟨w1.heap.size + 2, 0, none⟩) 16 16 (Nat.le_refl _)
  clear hq hql hB hB2 h0 hb1
  go_wp2_with (first | (refine wpList_load_mid rfl 23 (.tmp 8) rfl (w1.heap.size + 2) 0 rfl (bys q) _ hx.whole under54 rfl hszq ?_) | (refine wpList_store_mid rfl 23 (.tmp 4) (.tmp 9) rfl (w.heap.size + 1) 0 (bys q).toArray rfl rfl (h1.there 0 _ (by rw [List.size_toArray, bys_length, bys_length, Hql.out]; decide)) (by rw [size54, List.size_toArray, bys_length, Hql.out]) (all_oneCell_toArray (bys_one _)) ?_))
  have h1d := h1.setCells (bys q) 0 (by rw [bys_length, bys_length, Hql.out]; decide)
  rw [splice_whole _ _ (by rw [bys_length, bys_length, Hql.out]; rfl)] at h1d
  refine bodyPost_ret (v := .agg (bys q).toArray) (results_cell_row (P := Try.prog) (p := 4) (ty := 23) rfl _ _ (w.heap.size + 1) tA16 _ (0, 0) _ rfl h1d under54 rfl (by rw [size54, List.size_toArray, bys_length, Hql.out])) rfl ⟨by rw [Hq.out], ?_⟩
  exact hBB.trans (((Chg.refl (w.heap.size) [] w2).setCells (.inr (by omega)) _ _).below (Nat.le_refl _) (by simp))

/-- The block in hand behind j blocks. -/
def lastF (E : List UInt8 → List UInt8) (iv p : List UInt8) : Nat → List UInt8
  | 0 => iv
  | j + 1 => E (List.zipWith (· ^^^ ·) (lastF E iv p j) ((p.drop (16 * j)).take 16))
/-- j blocks, enciphered. -/
def sealF (E : List UInt8 → List UInt8) (iv p : List UInt8) : Nat → List UInt8
  | 0 => []
  | j + 1 => sealF E iv p j ++ lastF E iv p (j + 1)
theorem lastF_len (E : List UInt8 → List UInt8) (iv p : List UInt8) (k : Nat) (hE : ∀ s : List UInt8, s.length = 16 → (E s).length = 16) (hiv : iv.length = 16) (hp : 16 * k ≤ p.length) : ∀ j, j ≤ k → (lastF E iv p j).length = 16
  | 0, _ => hiv
  | j + 1, h => by
    have := lastF_len E iv p k hE hiv hp j (by omega)
    refine hE _ ?_
    rw [List.length_zipWith, this, List.length_take, List.length_drop]; omega
theorem sealF_len (E : List UInt8 → List UInt8) (iv p : List UInt8) (k : Nat) (hE : ∀ s : List UInt8, s.length = 16 → (E s).length = 16) (hiv : iv.length = 16) (hp : 16 * k ≤ p.length) : ∀ j, j ≤ k → (sealF E iv p j).length = 16 * j
  | 0, _ => rfl
  | j + 1, h => by
    rw [sealF, List.length_append, sealF_len E iv p k hE hiv hp j (by omega), lastF_len E iv p k hE hiv hp (j + 1) h]; omega
end Go.Proofs.Ytlgeebnmonmdaaa
