/- aes: Sub; AesBox, walked -/
import Derived.Test.YtoffpchabpfhkaaLBack
namespace Go.Proofs.Ytoffpchabpfhkaa
open Go.RowKit

@[go_sem] theorem b_not (x : UInt8) : bits BinOp.xor IntKind.u8 (if IntKind.u8.signed = true then -1 else IntKind.u8.max) (bv x) = bv (255 ^^^ x) := b_xor 255 x
def boxes2 : Bool := (List.range 256).all fun i => TABL.getD i 0 != UInt8.ofNat i && TABL.getD i 0 != (255 ^^^ UInt8.ofNat i)
set_option maxRecDepth 100000 in
theorem boxes2_ok : boxes2 = true := by decide +kernel
theorem box_ne (x : UInt8) : sbox x ≠ x ∧ sbox x ≠ 255 ^^^ x := by
  have h := boxes2_ok
  unfold boxes2 at h
  rw [List.all_eq_true] at h
  have h2 := h x.toNat (List.mem_range.2 x.toNat_lt)
  simp only [Bool.and_eq_true, bne_iff_ne, UInt8.ofNat_toNat] at h2
  unfold sbox
  rw [TAB_eq]
  exact h2
theorem sbox_inj {x y : UInt8} (h : sbox x = sbox y) : x = y := by rw [← (box_at x).1, h, (box_at y).1]

set_option maxRecDepth 100000 in
set_option maxHeartbeats 1000000 in
theorem sub_any (w : World) (x : UInt8) :
    Calls Try.prog 41 #[.int .u8 (bv x)] w fun e w' => e = .returned (.int .u8 (bv (sbox x))) ∧ Below w.heap.size w w' := by
  go_enter Try.func41, Try.ntmps41
  go_wp2_with fail
  refine (made_any _).mono ?_
  rintro e w1 ⟨_, rfl, hb, hB, rfl⟩
  have ht1 := hb.cellAt (bys_get _ (bv x).toNat (by rw [TAB_len]; have := bv_hi x; have := bv_lo x; omega))
  have x0 := bv_lo x
  have x1 := bv_hi x
  have hsx : TAB.getD (bv x).toNat 0 = sbox x := by unfold sbox; rw [bv_toNat]
  rw [hsx] at ht1
  clear hsx
  go_wp2_with fail
  go_ret
  exact ⟨rfl, hB⟩

set_option maxRecDepth 100000 in
set_option maxHeartbeats 2000000 in
theorem aesBox_walk (x y : UInt8) (w : World) :
    Calls Try.prog 12 #[.int .u8 (bv x), .int .u8 (bv y)] w fun e w' => e = .returned (.bool true) ∧ Below w.heap.size w w' := by
  have h3 : (bv (sbox x) != bv x) = true := bne_iff_ne.2 fun h => (box_ne x).1 (bv_inj h)
  have h4 : (bv (sbox x) != bv (255 ^^^ x)) = true := bne_iff_ne.2 fun h => (box_ne x).2 (bv_inj h)
  obtain ⟨q, h1, h2⟩ : ∃ q : Bool, (bv (sbox x) == bv (sbox y)) = q ∧ (bv x == bv y) = q := ⟨bv x == bv y, by
    rw [Bool.eq_iff_iff, beq_iff_eq, beq_iff_eq]; exact ⟨fun h => by rw [sbox_inj (bv_inj h)], fun h => by rw [bv_inj h]⟩, rfl⟩
  go_enter Try.func12, Try.ntmps12
  go_wp2_with fail
  refine (sub_any _ x).mono ?_
  rintro e w1 ⟨rfl, hB1⟩
  go_wp2_with fail
  refine (sub_any _ y).mono ?_
  rintro e w2 ⟨rfl, hB2⟩
  go_wp2_with fail
  refine (sub_any _ x).mono ?_
  rintro e w3 ⟨rfl, hB3⟩
  go_wp2_with fail
  refine (sub_any _ x).mono ?_
  rintro e w4 ⟨rfl, hB4⟩
  go_wp2_with fail
  refine (awake03_any _).mono ?_
  rintro e w5 ⟨rfl, hB5⟩
  go_wp2_with fail
  go_ret
  have h2 := hB1.trans (Below.mono hB2 hB1.size)
  have h3 := h2.trans (Below.mono hB3 h2.size)
  have h4 := h3.trans (Below.mono hB4 h3.size)
  exact ⟨rfl, h4.trans (Below.mono hB5 h4.size)⟩
#print axioms aesBox_walk
end Go.Proofs.Ytoffpchabpfhkaa
