/- law 8: a key's bytes, its round keys, the example -/
import Derived.Test.YtlgeebnmonmdaaaRt
import Derived.Test.YtlgeebnmonmdaaaPd1
namespace Go.Proofs.Ytlgeebnmonmdaaa
open Go.RowKit

abbrev tKy8 : TypeId := 25
def kcells (K : List UInt8) (long : Bool) (IV : List UInt8) : List Value := bys K ++ (.bool long :: bys IV)
theorem kcells_len (K : List UInt8) (long : Bool) (IV : List UInt8) (hK : K.length = 32) (hI : IV.length = 16) : (kcells K long IV).length = 49 := by simp [kcells, bys, hK, hI]
theorem kcells_long (K : List UInt8) (long : Bool) (IV : List UInt8) (hK : K.length = 32) : (kcells K long IV)[32]? = some (.bool long) := by
  unfold kcells; rw [List.getElem?_append_right (by rw [bys_length, hK]; decide), bys_length, hK]; rfl
theorem rangeAt_sub {w : World} {b : Nat} {A B C : List Value} (h : w.rangeAt b 0 (A ++ (B ++ C))) (n : Nat) (hn : A.length = n) : w.rangeAt b n B := by
  subst hn
  intro j v hv
  have hj : j < B.length := by
    rcases Nat.lt_or_ge j B.length with h | h
    · exact h
    · rw [List.getElem?_eq_none h] at hv; cases hv
  have := h (A.length + j) v (by rw [List.getElem?_append_right (by omega), Nat.add_sub_cancel_left, List.getElem?_append_left hj, hv])
  rwa [Nat.zero_add] at this
theorem kcells_iv {w : World} {b : Nat} {K : List UInt8} {long : Bool} {IV : List UInt8} {T : TypeId} (h : Blk w b (kcells K long IV) T) (hK : K.length = 32) : w.rangeAt b 33 (bys IV) := by
  have h1 := h.whole
  unfold kcells at h1
  rw [show bys K ++ (.bool long :: bys IV) = (bys K ++ [.bool long]) ++ (bys IV ++ []) by simp] at h1
  exact rangeAt_sub h1 33 (by simp [bys_length, hK])
theorem kcells_row {w : World} {b : Nat} {K : List UInt8} {long : Bool} {IV : List UInt8} {T : TypeId} (h : Blk w b (kcells K long IV) T) (n : Nat) (_ : n ≤ K.length) : RowAt w (some ⟨b, 0, none⟩) (K.take n) := fun k hk => by
  rw [List.length_take] at hk
  refine ⟨b, 0, rfl, h.lt, ?_⟩
  rw [Nat.zero_add, h.cell]
  unfold kcells
  rw [List.getElem?_append_left (by rw [bys_length]; omega), bys_get _ _ (by omega)]
  simp [List.getD, show k < n by omega]
/-- How many bytes a key has. -/
def kn (long : Bool) : Nat := if long then 32 else 16
def km (long : Bool) : Nat := if long then 8 else 4
theorem kn_km (long : Bool) : kn long = 4 * km long ∧ (km long = 4 ∨ km long = 8) ∧ kn long ≤ 32 := by cases long <;> simp [kn, km]
def rkK (K : List UInt8) (long : Bool) : List UInt8 := rkOf (km long) (K.take (kn long))
theorem kcells_one (K : List UInt8) (long : Bool) (IV : List UInt8) : ∀ v ∈ kcells K long IV, v.oneCell' = true := by
  intro v hv
  unfold kcells at hv
  rcases List.mem_append.1 hv with h | h
  · exact bys_one _ v h
  · rcases List.mem_cons.1 h with rfl | h
    · rfl
    · exact bys_one _ v h

set_option maxRecDepth 100000 in
set_option maxHeartbeats 1000000 in
theorem bytes8_any (w : World) (K : List UInt8) (long : Bool) (IV : List UInt8) (hK : K.length = 32) :
    Calls Try.prog 16 #[.agg (kcells K long IV).toArray] w fun e w' => e = .returned (.slice (some ⟨w.heap.size, 0, none⟩) (kn long) 32) ∧ Blk w' w.heap.size (kcells K long IV) tKy8 ∧ Below w.heap.size w w' := by
  have h0 := Blk.new w (kcells K long IV) tKy8
  have hB0 : Below w.heap.size w (w.alloc (.cells (kcells K long IV).toArray tKy8)) := (Below.refl _ _).alloc (Nat.le_refl _) _
  have c := h0.cell 32
  rw [kcells_long _ _ _ hK] at c
  cases long
  all_goals
    go_enter Try.func16, Try.ntmps16
    go_wp2_with fail
    go_ret
    exact ⟨rfl, h0, hB0⟩

theorem sizeK8 : (Try.prog.info? 25).map (·.size) = some 49 := by kernel_rfl
set_option maxRecDepth 100000 in
set_option maxHeartbeats 1000000 in
theorem keys8_any (w : World) (K : List UInt8) (long : Bool) (IV : List UInt8) (hK : K.length = 32) (hI : IV.length = 16) :
    Calls Try.prog 13 #[.agg (kcells K long IV).toArray] w fun e w' => ∃ kb, e = .returned (.tuple #[.pointer (some ⟨kb, 0, none⟩), .bool true]) ∧ KeysAt w' kb (rkK K long) ∧ Below w.heap.size w w' := by
  have h0 := Blk.new w (kcells K long IV) tKy8
  have hB0 : Below w.heap.size w (w.alloc (.cells (kcells K long IV).toArray tKy8)) := (Below.refl _ _).alloc (Nat.le_refl _) _
  have hsz : (Try.prog.info? 25).map (·.size) = some (kcells K long IV).length := by rw [sizeK8, kcells_len _ _ _ hK hI]
  have hk := kn_km long
  have hl : (K.take (kn long)).length = kn long := by rw [List.length_take]; omega
  have Hk := hid hk
  have Hl := hid hl
  clear hk hl
  go_enter Try.func13, Try.ntmps13
  go_wp2_with (refine wpList_load_mid rfl 25 (.tmp 1) rfl w.heap.size 0 rfl (kcells K long IV) _ h0.whole Try.underlying25 rfl hsz ?_)
  change Calls _ _ _ (w.alloc (.cells (kcells K long IV).toArray tKy8)) _
  generalize w.alloc (.cells (kcells K long IV).toArray tKy8) = w1 at *
  refine (bytes8_any w1 K long IV hK).mono ?_
  rintro e w2 ⟨rfl, hb2, hB2⟩
  have hr := kcells_row hb2 (kn long) (by rw [hK]; exact Hk.out.2.2)
  have hBB := hB0.trans (hB2.mono hB0.size)
  go_wp2_with fail
  refine (expand_any w2 w1.heap.size 0 (kn long) 32 (km long) (K.take (kn long)) hr Hl.out Hk.out.2.1 Hk.out.1 Hk.out.2.2).mono ?_
  rintro e w3 ⟨kb, rfl, hK3, hB3, _⟩
  have hB3' := hBB.trans (hB3.mono hBB.size)
  go_wp2_with fail
  go_ret2
  exact ⟨kb, rfl, hK3, hB3'⟩

theorem xk_noughts (E : List UInt8 → List UInt8) (iv : List UInt8) (hiv : iv.length = 16) (hE : (E iv).length = 16) : xk E iv 0 (List.replicate 16 0) = E iv := by
  apply ext_getD
  · rw [xk_len, hE]; rfl
  · intro j hj
    rw [xk_len, List.length_replicate] at hj
    rw [xk_get _ _ _ _ _ (by simpa using hj)]
    have e : (List.replicate 16 (0 : UInt8)).getD j 0 = 0 := by
      rw [List.getD, List.getElem?_replicate]
      split <;> rfl
    rw [e, UInt8.zero_xor]
    unfold ksb
    rw [Nat.zero_add, show j / 16 = 0 by omega, show j % 16 = j by omega, cnt_zero iv hiv]
theorem make16 (W : World) : (Instr.makeSlice 26 (.int .i64 16) (.int .i64 16)).run Try.prog W = .ok (.slice (some ⟨W.heap.size, 0, none⟩) 16 16) (W.alloc (.cells (bys (List.replicate 16 0)).toArray 5)) := by
  have hmk := run_make_row' (P := Try.prog) (w := W) 26 5 (.int .u8 0) 1 under33b info5 rfl .i64 .i64 16 (by omega) (by omega)
  rw [madeCells_bys] at hmk
  exact hmk
def iv9 : List UInt8 := [0, 0, 0, 0, 0, 0, 0, 0, 0, 0, 0, 0, 0, 0, 0, 9]
def rk0 : List UInt8 := rkOf 4 (List.replicate 16 0)

set_option maxRecDepth 100000 in
set_option maxHeartbeats 2000000 in
theorem awake8_any (w : World) : Calls Try.prog 17 #[] w fun e w' => e = .returned (.bool true) ∧ Below w.heap.size w w' := by
  have h0 := Blk.new w (bys (List.replicate 16 0)) tU8
  have hB0 : Below w.heap.size w (w.alloc (.cells (bys (List.replicate 16 0)).toArray tU8)) := (Below.refl _ _).alloc (Nat.le_refl _) _
  have hel : (enc rk0 iv9).length = 16 := enc_l16 4 (List.replicate 16 0) iv9 rfl (.inl rfl) rfl
  have hx := xk_noughts (enc rk0) iv9 rfl hel
  have hrl : 16 * roundsOf rk0 + 16 ≤ rk0.length := (rkOf_len 4 (List.replicate 16 0) rfl (.inl rfl)).2
  have HRL := hid hrl
  have HX := hid hx
  have HEL := hid hel
  clear hx hel hrl
  have hmk := make16
  go_enter Try.func17, Try.ntmps17
  go_wp2_with fail
  change Calls _ _ _ (w.alloc (.cells (bys (List.replicate 16 0)).toArray tU8)) _
  generalize w.alloc (.cells (bys (List.replicate 16 0)).toArray tU8) = w1 at *
  refine (expand_any w1 w.heap.size 0 16 16 4 (List.replicate 16 0) h0.rowAt0 rfl (.inl rfl) rfl (Nat.le_refl _)).mono ?_
  rintro e w2 ⟨kb, rfl, hK2, hB2, _⟩
  change KeysAt w2 kb rk0 at hK2
  have hB2 := hB0.trans (hB2.mono hB0.size)
  clear h0
  go_wp2_with fail
  change Calls _ _ #[_, .agg (bys iv9).toArray] _ _
  refine (enc_any w2 kb rk0 iv9 hK2 rfl).mono ?_
  rintro e w3 ⟨rfl, hB3⟩
  have hK3 := hK2.below hB3
  have hB3 := hB2.trans (hB3.mono hB2.size)
  obtain ⟨q, hq⟩ : ∃ q, enc rk0 iv9 = q := ⟨_, rfl⟩
  rw [hq]
  have hql := HEL.out
  rw [hq] at hql
  have hX2 := HX.out
  rw [hq] at hX2
  have HX2 := hid hX2
  have h4 := Blk.new w3 (bys z16) tA16
  have hB4 : Below w3.heap.size w3 (w3.alloc (.cells (bys z16).toArray tA16)) := (Below.refl _ _).alloc (Nat.le_refl _) _
  obtain ⟨h5, hC5⟩ := store16 (new := q) h4 (by rw [hql]; rfl)
  have hB5 := hB4.trans (hC5.below (M := w3.heap.size) hB4.size (fun k hk => by simp at hk; omega))
  have hK5 := hK3.below hB5
  have hB5 := hB3.trans (hB5.mono hB3.size)
  have Hql := hid hql
  clear hq hql hX2 hC5 hB4 hB3 hK3 HX hB2
  go_wp2_with (refine wpList_store_mid rfl 23 (.tmp 3) (.tmp 11) rfl w3.heap.size 0 (bys q).toArray rfl rfl (h4.there 0 _ (by rw [List.size_toArray, bys_length, bys_length, Hql.out]; decide)) (by rw [size54, List.size_toArray, bys_length, Hql.out]) (all_oneCell_toArray (bys_one _)) ?_)
  change Code.wp _ _ _ _ ((w3.alloc (.cells (bys z16).toArray tA16)).setCells w3.heap.size 0 (bys q))
  generalize (w3.alloc (.cells (bys z16).toArray tA16)).setCells w3.heap.size 0 (bys q) = w5 at *
  have h5 := h5.drew
  have hK5 := hK5.drew
  have hB5 := hB5.drew
  have hkv : KeyV w5.drew (some ⟨kb, 0, none⟩) (enc rk0) := .inr ⟨kb, rk0, rfl, hK5, rfl, HRL.out⟩
  obtain ⟨s, hs⟩ : ∃ s, str q = s := ⟨_, rfl⟩
  have h90 : bys iv9 = [.int .u8 0, .int .u8 0, .int .u8 0, .int .u8 0, .int .u8 0, .int .u8 0, .int .u8 0, .int .u8 0, .int .u8 0, .int .u8 0, .int .u8 0, .int .u8 0, .int .u8 0, .int .u8 0, .int .u8 0, .int .u8 9] := rfl
  clear hB3 hB2 hK2 hB0 h4 h90
  try simp only [Act.put]
  refine tkR (fun w' => Below w5.drew.heap.size w5.drew w') [] (by kernel_rfl) (fun c a d v w h => by cases d <;> exact h) (Below.refl _ _) (fun hPF hHeld => ?_)
  refine tkB 0 (.some 12) _ _ rfl rfl (by kernel_rfl) (by kernel_rfl) (by kernel_rfl) (by kernel_rfl) hPF rfl (fun w' => by (go_simp; try with_reducible rfl)) hHeld (fun hHeld => ?_)
  simp only [Act.put, List.setIfInBounds_toArray, List.set_cons_zero, List.set_cons_succ]
  refine tkB 1 (.some 13) _ _ rfl rfl (by kernel_rfl) (by kernel_rfl) (by kernel_rfl) (by kernel_rfl) hPF rfl (fun w' => by (go_simp; try with_reducible rfl)) hHeld (fun hHeld => ?_)
  simp only [Act.put, List.setIfInBounds_toArray, List.set_cons_zero, List.set_cons_succ]
  refine tkB 2 (.some 14) _ _ rfl rfl (by kernel_rfl) (by kernel_rfl) (by kernel_rfl) (by kernel_rfl) hPF rfl (fun w' => by (go_simp; try with_reducible rfl)) hHeld (fun hHeld => ?_)
  simp only [Act.put, List.setIfInBounds_toArray, List.set_cons_zero, List.set_cons_succ]
  refine tkB 3 (.some 15) _ _ rfl rfl (by kernel_rfl) (by kernel_rfl) (by kernel_rfl) (by kernel_rfl) hPF rfl (fun w' => by (go_simp; try with_reducible rfl)) hHeld (fun hHeld => ?_)
  simp only [Act.put, List.setIfInBounds_toArray, List.set_cons_zero, List.set_cons_succ]
  refine tkB 4 (.some 16) _ _ rfl rfl (by kernel_rfl) (by kernel_rfl) (by kernel_rfl) (by kernel_rfl) hPF rfl (fun w' => by (go_simp; try with_reducible rfl)) hHeld (fun hHeld => ?_)
  simp only [Act.put, List.setIfInBounds_toArray, List.set_cons_zero, List.set_cons_succ]
  refine tkB 8 (.some 20) _ _ rfl rfl (by kernel_rfl) (by kernel_rfl) (by kernel_rfl) (by kernel_rfl) hPF rfl (fun w' => by (go_simp; try with_reducible rfl)) hHeld (fun hHeld => ?_)
  simp only [Act.put, List.setIfInBounds_toArray, List.set_cons_zero, List.set_cons_succ]
  refine tkA 9 (.some 21) _ _ rfl rfl (by kernel_rfl) (by kernel_rfl) (by kernel_rfl) (by kernel_rfl) (by kernel_rfl) hPF rfl (fun w' hw' => by (have h1 := str_row (n := 16) (c := 16) ((h5.below hw' h5.lt).rowAt0) Hql.out; rw [hs] at h1; go_simp; try with_reducible rfl)) hHeld (fun hHeld => ?_)
  simp only [Act.put, List.setIfInBounds_toArray, List.set_cons_zero, List.set_cons_succ]
  have hS := hHeld (by kernel_rfl)
  refine tkW (rs := [5]) (by kernel_rfl) (by simp) (AllK.cons (o := _) rfl (fun KC hKC => ?_) AllK.nil)
  go_simp
  have hS2 := hS.alloc hS.size (.cells (bys (List.replicate 16 0)).toArray 5)
  have h8 := Blk.new w5.drew (bys (List.replicate 16 0)) 5
  refine hKC.out _ _ (hS2) (fun hHeld => ?_)
  clear hKC KC
  try simp only [Act.put, List.setIfInBounds_toArray, List.set_cons_zero, List.set_cons_succ]
  have hS := hHeld (by kernel_rfl)
  refine tkW (rs := [6]) (by kernel_rfl) (by simp) (AllK.cons (o := _) rfl (fun KC hKC => ?_) AllK.nil)
  go_simp
  change Calls _ _ #[_, .agg (bys iv9).toArray, _] _ _
  refine (crypt_any _ _ (enc rk0) iv9 (hkv.below hS2) rfl _ 16 16 _ h8.rowAt0 rfl (Nat.le_refl _) (by omega)).mono ?_
  rintro e w8 ⟨v, rfl, hown, hB8⟩
  have hS3 := hS2.trans (hB8.mono hS2.size)
  rw [HX2.out] at hown
  obtain ⟨pv, cv, rfl, _, hrv⟩ := hown.row
  have h1 := str_row (n := q.length) (c := cv) hrv rfl
  rw [hs] at h1
  refine hKC.out _ _ (hS3) (fun hHeld => ?_)
  clear hKC KC
  try simp only [Act.put, List.setIfInBounds_toArray, List.set_cons_zero, List.set_cons_succ]
  have hS := hHeld (by kernel_rfl)
  refine tkW (rs := [7]) (by kernel_rfl) (by simp) (AllK.cons (o := _) rfl (fun KC hKC => ?_) AllK.nil)
  go_simp
  refine hKC.out _ _ (hS3) (fun hHeld => ?_)
  clear hKC KC
  try simp only [Act.put, List.setIfInBounds_toArray, List.set_cons_zero, List.set_cons_succ]
  refine tkB 10 (.some 22) _ _ rfl rfl (by kernel_rfl) (by kernel_rfl) (by kernel_rfl) (by kernel_rfl) hPF rfl (fun w' => by (go_simp; try with_reducible rfl)) hHeld (fun hHeld => ?_)
  simp only [Act.put, List.setIfInBounds_toArray, List.set_cons_zero, List.set_cons_succ]
  refine tkB 11 (.some 23) _ _ rfl rfl (by kernel_rfl) (by kernel_rfl) (by kernel_rfl) (by kernel_rfl) hPF rfl (fun w' => by (go_simp; try with_reducible rfl)) hHeld (fun hHeld => ?_)
  simp only [Act.put, List.setIfInBounds_toArray, List.set_cons_zero, List.set_cons_succ]
  refine tkB 12 (.some 0) _ _ rfl rfl (by kernel_rfl) (by kernel_rfl) (by kernel_rfl) (by kernel_rfl) hPF rfl (fun w' => by (go_simp; try with_reducible rfl)) hHeld (fun hHeld => ?_)
  simp only [Act.put, List.setIfInBounds_toArray, List.set_cons_zero]
  refine tkD (by kernel_rfl) ?_ _
  go_wp2_with fail
  go_ret
  exact ⟨rfl, hB5.trans (hS3.mono hB5.size)⟩
end Go.Proofs.Ytlgeebnmonmdaaa
