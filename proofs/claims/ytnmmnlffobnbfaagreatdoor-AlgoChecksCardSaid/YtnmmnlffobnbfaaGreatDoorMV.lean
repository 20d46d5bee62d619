/- Hy · Sh (joined by merge4.py) -/
import Derived.Test.YtnmmnlffobnbfaaGreatDoorMO
import Derived.Test.YtnmmnlffobnbfaaGreatDoorMF
import Derived.Test.YtnmmnlffobnbfaaGreatDoorMP
import Derived.Deep.DeepCutAuto
/- SHA-256 and HMAC as plain functions -/
namespace Go.Proofs.YtnmmnlffobnbfaaGreatDoor
open Go.RowKit

def wordAt (b : List UInt8) (i : Nat) : UInt32 := UInt32.ofNat (be ((b.drop (4 * i)).take 4))
def turnF (x : UInt32) (a b c : Nat) : UInt32 := rotl x (32 - a) ^^^ rotl x (32 - b) ^^^ rotl x (32 - c)
def nextW (w : List UInt32) (i : Nat) : UInt32 :=
  w.getD (i - 16) 0 + (rotl (w.getD (i - 15) 0) 25 ^^^ rotl (w.getD (i - 15) 0) 14 ^^^ w.getD (i - 15) 0 / 8) + w.getD (i - 7) 0 + (rotl (w.getD (i - 2) 0) 15 ^^^ rotl (w.getD (i - 2) 0) 13 ^^^ w.getD (i - 2) 0 / 1024)
/-- A block's first numbers. -/
def sprTo (b : List UInt8) : Nat → List UInt32
  | 0 => []
  | i + 1 => sprTo b i ++ [if i < 16 then wordAt b i else nextW (sprTo b i) i]
theorem sprTo_len (b : List UInt8) : ∀ i, (sprTo b i).length = i
  | 0 => rfl
  | i + 1 => by simp [sprTo, sprTo_len b i]
def shaK : List UInt32 := [0x428a2f98, 0x71374491, 0xb5c0fbcf, 0xe9b5dba5, 0x3956c25b, 0x59f111f1, 0x923f82a4, 0xab1c5ed5, 0xd807aa98, 0x12835b01, 0x243185be, 0x550c7dc3, 0x72be5d74, 0x80deb1fe, 0x9bdc06a7, 0xc19bf174, 0xe49b69c1, 0xefbe4786, 0x0fc19dc6, 0x240ca1cc, 0x2de92c6f, 0x4a7484aa, 0x5cb0a9dc, 0x76f988da, 0x983e5152, 0xa831c66d, 0xb00327c8, 0xbf597fc7, 0xc6e00bf3, 0xd5a79147, 0x06ca6351, 0x14292967, 0x27b70a85, 0x2e1b2138, 0x4d2c6dfc, 0x53380d13, 0x650a7354, 0x766a0abb, 0x81c2c92e, 0x92722c85, 0xa2bfe8a1, 0xa81a664b, 0xc24b8b70, 0xc76c51a3, 0xd192e819, 0xd6990624, 0xf40e3585, 0x106aa070, 0x19a4c116, 0x1e376c08, 0x2748774c, 0x34b0bcb5, 0x391c0cb3, 0x4ed8aa4a, 0x5b9cca4f, 0x682e6ff3, 0x748f82ee, 0x78a5636f, 0x84c87814, 0x8cc70208, 0x90befffa, 0xa4506ceb, 0xbef9a3f7, 0xc67178f2]
def shaStart : List UInt32 := [0x6a09e667, 0xbb67ae85, 0x3c6ef372, 0xa54ff53a, 0x510e527f, 0x9b05688c, 0x1f83d9ab, 0x5be0cd19]
/-- One round. -/
def rndF (v : List UInt32) (k w : UInt32) : List UInt32 :=
  let t := v.getD 7 0 + turnF (v.getD 4 0) 6 11 25 + (v.getD 4 0 &&& v.getD 5 0 ^^^ ~~~(v.getD 4 0) &&& v.getD 6 0) + k + w
  let u := turnF (v.getD 0 0) 2 13 22 + (v.getD 0 0 &&& v.getD 1 0 ^^^ v.getD 0 0 &&& v.getD 2 0 ^^^ v.getD 1 0 &&& v.getD 2 0)
  [t + u, v.getD 0 0, v.getD 1 0, v.getD 2 0, v.getD 3 0 + t, v.getD 4 0, v.getD 5 0, v.getD 6 0]
theorem rndF_len (v : List UInt32) (k w : UInt32) : (rndF v k w).length = 8 := rfl
/-- The first rounds. -/
def hrndTo (h : List UInt32) (b : List UInt8) : Nat → List UInt32
  | 0 => h
  | i + 1 => rndF (hrndTo h b i) (shaK.getD i 0) ((sprTo b 64).getD i 0)
theorem hrndTo_len (h : List UInt32) (b : List UInt8) (hh : h.length = 8) : ∀ i, (hrndTo h b i).length = 8
  | 0 => hh
  | _ + 1 => rndF_len _ _ _
/-- The first numbers of a sum of states. -/
def sumTo (h v : List UInt32) (k : Nat) : List UInt32 := (List.range 8).map fun i => if i < k then h.getD i 0 + v.getD i 0 else h.getD i 0
def shaBlk (h : List UInt32) (b : List UInt8) : List UInt32 := sumTo h (hrndTo h b 64) 8
theorem sumTo_len (h v : List UInt32) (k : Nat) : (sumTo h v k).length = 8 := by simp [sumTo]
theorem shaBlk_len (h : List UInt32) (b : List UInt8) : (shaBlk h b).length = 8 := sumTo_len _ _ _
/-- Bytes go in, 64 at a time; what is left over. -/
def swrF (h : List UInt32) (l : List UInt8) : List UInt32 × List UInt8 :=
  if _hl : l.length < 64 then (h, l) else swrF (shaBlk h (l.take 64)) (l.drop 64)
termination_by l.length
decreasing_by rw [List.length_drop]; omega
theorem swrF_short (h : List UInt32) (l : List UInt8) (hl : l.length < 64) : swrF h l = (h, l) := by
  rw [swrF]; simp [hl]
theorem swrF_long (h : List UInt32) (l : List UInt8) (hl : ¬ l.length < 64) : swrF h l = swrF (shaBlk h (l.take 64)) (l.drop 64) := by
  rw [swrF]; simp [hl]
theorem swrF_left (h : List UInt32) (l : List UInt8) : (swrF h l).2.length < 64 := by
  rw [swrF]
  split
  · assumption
  · exact swrF_left _ _
termination_by l.length
decreasing_by rw [List.length_drop]; omega
theorem swrF_len (h : List UInt32) (l : List UInt8) (ho : h.length = 8) : (swrF h l).1.length = 8 := by
  rw [swrF]
  split
  · exact ho
  · exact swrF_len _ _ (shaBlk_len _ _)
termination_by l.length
decreasing_by rw [List.length_drop]; omega
/-- Part by part is as the whole. -/
theorem swrF_append (h : List UInt32) (l m : List UInt8) : swrF h (l ++ m) = swrF (swrF h l).1 ((swrF h l).2 ++ m) := by
  by_cases hl : l.length < 64
  · rw [swrF_short h l hl]
  · have e := swrF_long h l hl
    rw [swrF_long h (l ++ m) (by rw [List.length_append]; omega), e, List.take_append_of_le_length (by omega), List.drop_append_of_le_length (by omega)]
    exact swrF_append _ (l.drop 64) m
termination_by l.length
decreasing_by rw [List.length_drop]; omega
/-- What is put behind a message of n bytes. -/
def padS (n : Nat) : List UInt8 := [128] ++ List.replicate ((119 - n % 64) % 64) 0 ++ toBe 8 (8 * n % 18446744073709551616)
def outS (h : List UInt32) : List UInt8 := h.flatMap fun x => toBe 4 x.toNat
def sumS (b : List UInt8) : List UInt8 := outS (swrF (swrF shaStart b).1 ((swrF shaStart b).2 ++ padS b.length)).1
def keyH (key : List UInt8) : List UInt8 := let k := if key.length > 64 then sumS key else key; k ++ List.replicate (64 - k.length) 0
def hmacF (key b : List UInt8) : List UInt8 := sumS ((keyH key).map (· ^^^ 92) ++ sumS ((keyH key).map (· ^^^ 54) ++ b))
theorem outS_len (h : List UInt32) : (outS h).length = 4 * h.length := by
  unfold outS
  induction h with
  | nil => rfl
  | cons x l ih => rw [List.flatMap_cons, List.length_append, ih, toBe_len, List.length_cons]; omega
theorem sumS_len (b : List UInt8) : (sumS b).length = 32 := by
  unfold sumS
  rw [outS_len, swrF_len _ _ (swrF_len _ _ rfl)]
end Go.Proofs.YtnmmnlffobnbfaaGreatDoor

/- sha: turned, spread, walked (printed by gen_sh.py) -/
namespace Go.Proofs.YtnmmnlffobnbfaaGreatDoor
open Go.RowKit

abbrev tW64 : TypeId := 128
abbrev tH8 : TypeId := 77
theorem sizeW64 : (Tryz.prog.info? tW64).map (·.size) = some 64 := by kernel_rfl
theorem sizeH8 : (Tryz.prog.info? tH8).map (·.size) = some 8 := by kernel_rfl
theorem ln6 : bits .and .u64 (IntKind.u64.wrap (-6)) 31 = ((26 : Nat) : Int) := by decide +kernel
theorem ln11 : bits .and .u64 (IntKind.u64.wrap (-11)) 31 = ((21 : Nat) : Int) := by decide +kernel
theorem ln25 : bits .and .u64 (IntKind.u64.wrap (-25)) 31 = ((7 : Nat) : Int) := by decide +kernel
theorem ln2 : bits .and .u64 (IntKind.u64.wrap (-2)) 31 = ((30 : Nat) : Int) := by decide +kernel
theorem ln13 : bits .and .u64 (IntKind.u64.wrap (-13)) 31 = ((19 : Nat) : Int) := by decide +kernel
theorem ln22 : bits .and .u64 (IntKind.u64.wrap (-22)) 31 = ((10 : Nat) : Int) := by decide +kernel
theorem ln7 : bits .and .u64 (IntKind.u64.wrap (-7)) 31 = ((25 : Nat) : Int) := by decide +kernel
theorem ln18 : bits .and .u64 (IntKind.u64.wrap (-18)) 31 = ((14 : Nat) : Int) := by decide +kernel
theorem ln17 : bits .and .u64 (IntKind.u64.wrap (-17)) 31 = ((15 : Nat) : Int) := by decide +kernel
theorem ln19 : bits .and .u64 (IntKind.u64.wrap (-19)) 31 = ((13 : Nat) : Int) := by decide +kernel
set_option maxRecDepth 100000 in
set_option maxHeartbeats 1000000 in
theorem turned_a (w : World) (x : UInt32) : Calls Tryz.prog 73 #[W32 x, .int .i64 6, .int .i64 11, .int .i64 25] w fun e w' => e = .returned (W32 (turnF x 6 11 25)) ∧ w = w' := by
  have hd := hid (show turnF x 6 11 25 = rotl x 26 ^^^ rotl x 21 ^^^ rotl x 7 from rfl)
  have h1 := left_any w x (-6) 26 ln6 (by decide)
  have h2 := left_any w x (-11) 21 ln11 (by decide)
  have h3 := left_any w x (-25) 7 ln25 (by decide)
  generalize rotl x 26 = y1 at *
  generalize rotl x 21 = y2 at *
  generalize rotl x 7 = y3 at *
  go_enter Tryz.func73, Tryz.ntmps73
  go_wp2_with fail
  refine h1.mono ?_
  rintro e w' ⟨rfl, rfl⟩
  go_wp2_with fail
  refine h2.mono ?_
  rintro e w' ⟨rfl, rfl⟩
  go_wp2_with fail
  refine h3.mono ?_
  rintro e w' ⟨rfl, rfl⟩
  go_wp2_with fail
  go_ret
  exact ⟨by rw [hd.out]; rfl, rfl⟩
set_option maxRecDepth 100000 in
set_option maxHeartbeats 1000000 in
theorem turned_b (w : World) (x : UInt32) : Calls Tryz.prog 73 #[W32 x, .int .i64 2, .int .i64 13, .int .i64 22] w fun e w' => e = .returned (W32 (turnF x 2 13 22)) ∧ w = w' := by
  have hd := hid (show turnF x 2 13 22 = rotl x 30 ^^^ rotl x 19 ^^^ rotl x 10 from rfl)
  have h1 := left_any w x (-2) 30 ln2 (by decide)
  have h2 := left_any w x (-13) 19 ln13 (by decide)
  have h3 := left_any w x (-22) 10 ln22 (by decide)
  generalize rotl x 30 = y1 at *
  generalize rotl x 19 = y2 at *
  generalize rotl x 10 = y3 at *
  go_enter Tryz.func73, Tryz.ntmps73
  go_wp2_with fail
  refine h1.mono ?_
  rintro e w' ⟨rfl, rfl⟩
  go_wp2_with fail
  refine h2.mono ?_
  rintro e w' ⟨rfl, rfl⟩
  go_wp2_with fail
  refine h3.mono ?_
  rintro e w' ⟨rfl, rfl⟩
  go_wp2_with fail
  go_ret
  exact ⟨by rw [hd.out]; rfl, rfl⟩

theorem w_addw (a b : UInt32) : IntKind.u32.wrap (wv a + wv b) = wv (a + b) := by rw [← w_add]; rfl
def spA (b : List UInt8) (k : Nat) : List UInt32 := sprTo b k ++ List.replicate (64 - k) 0
theorem spA_len (b : List UInt8) (k : Nat) (h : k ≤ 64) : (spA b k).length = 64 := by simp [spA, sprTo_len]; omega
theorem spA_set (b : List UInt8) (k : Nat) (h : k < 64) (x : UInt32) (hx : x = if k < 16 then wordAt b k else nextW (sprTo b k) k) : (spA b k).set k x = spA b (k + 1) := by
  unfold spA
  rw [set_at _ _ _ _ _ (sprTo_len b k) (by omega), sprTo, hx, show 64 - k - 1 = 64 - (k + 1) by omega]
theorem spA_get (b : List UInt8) (k j : Nat) (h : j < k) : (spA b k).getD j 0 = (sprTo b k).getD j 0 := by
  unfold spA
  rw [List.getD_eq_getElem?_getD, List.getD_eq_getElem?_getD, List.getElem?_append_left (by rw [sprTo_len]; exact h)]
theorem be4_lt (l : List UInt8) (k : Nat) : be ((l.drop k).take 4) < 4294967296 := by
  have h : 256 ^ ((l.drop k).take 4).length ≤ 256 ^ 4 := Nat.pow_le_pow_right (by decide) (by rw [List.length_take]; omega)
  exact Nat.lt_of_lt_of_le (be_lt _) h
theorem slice64b (b q : Nat) (hq : q + 4 ≤ 64) (W : World) : (Instr.sliceAt 81 (.pointer (some ⟨b, 0, none⟩)) (some (.int .i64 (q : Int))) (some (.int .i64 ((q : Int) + 4))) none).run Tryz.prog W = .ok (.slice (some ⟨b, q, none⟩) 4 (64 - q)) W := by
  have h1 : (q : Int) + 4 ≤ 64 := by omega
  have h2 : 0 ≤ (q : Int) := by omega
  have h3 : (q : Int) ≤ (q : Int) + 4 := by omega
  have h4 : 0 ≤ (q : Int) + 4 := by omega
  go_simp
  exact ⟨by omega, by omega⟩
theorem w_shr3 (a : UInt32) : wv a / (8 : Int) = wv (a / 8) := by unfold wv; rw [UInt32.toNat_div]; simp
theorem w_shr10 (a : UInt32) : wv a / (1024 : Int) = wv (a / 1024) := by unfold wv; rw [UInt32.toNat_div]; simp
set_option maxRecDepth 100000 in
set_option maxHeartbeats 8000000 in
theorem spread_any (w : World) (b : List UInt8) (hb : b.length = 64) :
    Calls Tryz.prog 72 #[.agg (bys b).toArray] w fun e w' => e = .returned (.agg (ws (sprTo b 64)).toArray) ∧ Below w.heap.size w w' := by
  obtain ⟨wb, hwb⟩ : ∃ wb, ((w.alloc (.cells (bys b).toArray tB64)).alloc (.cells (ws (spA b 0)).toArray tW64)).alloc (.cells (ws (spA b 0)).toArray tW64) = wb := ⟨_, rfl⟩
  have h0 : Blk wb w.heap.size (bys b) tB64 := by rw [← hwb]; exact ((Blk.new w (bys b) tB64).alloc _).alloc _
  have h1 : Blk wb (w.heap.size + 1) (ws (spA b 0)) tW64 := by
    rw [← hwb]
    have := (Blk.new (w.alloc (.cells (bys b).toArray tB64)) (ws (spA b 0)) tW64).alloc (.cells (ws (spA b 0)).toArray tW64)
    simp only [World.size_alloc] at this; exact this
  have h2 : Blk wb (w.heap.size + 1 + 1) (ws (spA b 0)) tW64 := by
    rw [← hwb]
    have := Blk.new ((w.alloc (.cells (bys b).toArray tB64)).alloc (.cells (ws (spA b 0)).toArray tW64)) (ws (spA b 0)) tW64
    simp only [World.size_alloc] at this; exact this
  have hB0 : Below w.heap.size w wb := by rw [← hwb]; exact (((Below.refl _ _).alloc (Nat.le_refl _) _).alloc (by simp) _).alloc (by simp; omega) _
  have hsz : wb.heap.size = w.heap.size + 3 := by rw [← hwb]; simp
  obtain ⟨b7, hb7⟩ : ∃ b, w.heap.size + 1 + 1 = b := ⟨_, rfl⟩
  rw [hb7] at h2
  have Hb := hid hb
  have Hwb := hid hwb
  have Hb7 := hid hb7
  have Hsz := hid hsz
  have hkr := h0.rowAt0
  clear hb hwb hb7 hsz h0
  go_enter Tryz.func72, Tryz.ntmps72
  go_wp2_with fail
  rw [Hb7.out]
  change Code.wp _ _ _ _ (((w.alloc (.cells (bys b).toArray tB64)).alloc (.cells (ws (spA b 0)).toArray tW64)).alloc (.cells (ws (spA b 0)).toArray tW64))
  rw [Hwb.out]
  go_loopw [10] (fun i wr => ∃ k : Nat, k ≤ 16 ∧ i = .int .i64 k ∧ Blk wr b7 (ws (spA b k)) tW64 ∧ Chg wb.heap.size [b7] wb wr) (fun i _ => 16 - (intOf i).toNat)
  case atStart => exact ⟨0, by omega, rfl, h2, Chg.refl _ _ _⟩
  case round =>
    obtain ⟨k, hk, rfl, hb, hC⟩ := hrel
    clear h2
    have hl := spA_len b k (by omega)
    by_cases hlt : k < 16
    · have q1 : (k : Int) < 16 := by omega
      have hrow : RowAt wr (some ⟨w.heap.size, 4 * k, none⟩) ((b.drop (4 * k)).take 4) := ((hkr.chg hC (by have := Hsz.out; omega) (by intro a e; cases e; have := Hb7.out; simp; omega)).drop (4 * k) |> fun h => (by simpa using h : RowAt wr (some ⟨w.heap.size, 4 * k, none⟩) (b.drop (4 * k)))).take 4
      have hrl : ((b.drop (4 * k)).take 4).length = 4 := by rw [List.length_take, List.length_drop, Hb.out]; omega
      have hle := be4_lt b (4 * k)
      have hset := spA_set b k (by omega) (wordAt b k) (by rw [if_pos hlt])
      obtain ⟨y, hy⟩ : ∃ y, wordAt b k = y := ⟨_, rfl⟩
      have hyw : ((be ((b.drop (4 * k)).take 4) : Nat) : Int) = wv y := by rw [← hy, wordAt, w_lit _ hle]
      rw [hy] at hset
      have Hset := hid hset
      have Hyw := hid hyw
      obtain ⟨q, hq⟩ : ∃ q, 4 * k = q := ⟨_, rfl⟩
      have q2 : (4 : Int) * (k : Int) = (q : Int) := by omega
      have q3 : (q : Int) ≤ 60 := by omega
      have Hq := hid hq
      rw [hq] at hrow hrl
      have Hrl := hid hrl
      clear hset hyw hrl hy hle hq
      have hsl := slice64b w.heap.size q (by omega)
      go_wp2_with fail
      refine (big_any wr _ 4 (64 - q) _ hrow Hrl.out (by omega)).mono ?_
      rintro e w2 ⟨rfl, rfl⟩
      have hU : U64 (be ((b.drop q).take 4)) = .int .u64 (wv y) := by have h := Hyw.out; rw [Hq.out] at h; show Value.int .u64 _ = _; rw [h]
      rw [hU]
      have c := hb.cell k
      rw [ws_get _ _ (by rw [hl]; omega)] at c
      have fk := hb.frozen k
      generalize (spA b k).getD k 0 = y0 at c
      have hC2 := hC.setCell (p := ⟨b7, k, none⟩) (.inl (by simp)) (.int .u32 (wv y))
      have hb3 := hb.set k (.int .u32 (wv y))
      rw [ws_set, Hset.out] at hb3
      clear hC hb hU hsl hrow
      go_wp2_with fail
      go_roundw
      case rel => exact ⟨k + 1, by omega, by go_num, hb3, hC2⟩
      case measure => (simp [intOf]; try omega)
    · obtain rfl : k = 16 := by omega
      have q1 : ¬ (((16 : Nat) : Int) < 16) := by omega
      clear hl hk hlt
      go_wp2_with fail
      go_loopw [5] (fun i wx => ∃ k : Nat, 16 ≤ k ∧ k ≤ 64 ∧ i = .int .i64 k ∧ Blk wx b7 (ws (spA b k)) tW64 ∧ Chg wb.heap.size [b7] wb wx) (fun i _ => 64 - (intOf i).toNat)
      case atStart => exact ⟨16, by omega, by omega, rfl, hb, hC⟩
      case round =>
        clear hb hC
        obtain ⟨k, hk16, hk, rfl, hb, hC⟩ := hrel
        have hl := spA_len b k (by omega)
        by_cases hlt : k < 64
        · have q1 : (k : Int) < 64 := by omega
          obtain ⟨j15, hj15⟩ : ∃ j, k - 15 = j := ⟨_, rfl⟩
          obtain ⟨j2, hj2⟩ : ∃ j, k - 2 = j := ⟨_, rfl⟩
          obtain ⟨j16, hj16⟩ : ∃ j, k - 16 = j := ⟨_, rfl⟩
          obtain ⟨j7, hj7⟩ : ∃ j, k - 7 = j := ⟨_, rfl⟩
          have c15 := hb.cell j15
          have c2 := hb.cell j2
          have c16 := hb.cell j16
          have c7 := hb.cell j7
          have c := hb.cell k
          have fk := hb.frozen k
          rw [ws_get _ _ (by rw [hl]; omega)] at c15 c2 c16 c7 c
          rw [spA_get _ _ _ (by omega)] at c15 c2 c16 c7
          have hnx := hid (show nextW (sprTo b k) k = (sprTo b k).getD j16 0 + (rotl ((sprTo b k).getD j15 0) 25 ^^^ rotl ((sprTo b k).getD j15 0) 14 ^^^ (sprTo b k).getD j15 0 / 8) + (sprTo b k).getD j7 0 + (rotl ((sprTo b k).getD j2 0) 15 ^^^ rotl ((sprTo b k).getD j2 0) 13 ^^^ (sprTo b k).getD j2 0 / 1024) by unfold nextW; rw [hj15, hj2, hj16, hj7])
          have hset := hid (spA_set b k hlt _ (by rw [if_neg (by omega)]))
          have i15 : (k : Int) - 15 = (j15 : Int) := by omega
          have i2 : (k : Int) - 2 = (j2 : Int) := by omega
          have i16 : (k : Int) - 16 = (j16 : Int) := by omega
          have i7 : (k : Int) - 7 = (j7 : Int) := by omega
          have w15 : IntKind.i64.wrap (j15 : Int) = (j15 : Int) := by rw [IntKind.wrap_i64]; omega
          have w2 : IntKind.i64.wrap (j2 : Int) = (j2 : Int) := by rw [IntKind.wrap_i64]; omega
          have w16 : IntKind.i64.wrap (j16 : Int) = (j16 : Int) := by rw [IntKind.wrap_i64]; omega
          have w7 : IntKind.i64.wrap (j7 : Int) = (j7 : Int) := by rw [IntKind.wrap_i64]; omega
          have l15 : (j15 : Int) < 64 := by omega
          have l2 : (j2 : Int) < 64 := by omega
          have l16 : (j16 : Int) < 64 := by omega
          have l7 : (j7 : Int) < 64 := by omega
          generalize (sprTo b k).getD j15 0 = x15 at *
          generalize (sprTo b k).getD j2 0 = x2 at *
          generalize (sprTo b k).getD j16 0 = x16 at *
          generalize (sprTo b k).getD j7 0 = x7 at *
          generalize (spA b k).getD k 0 = xk at *
          have r1 := fun W => left_any W x15 (-7) 25 ln7 (by decide)
          have r2 := fun W => left_any W x15 (-18) 14 ln18 (by decide)
          have r3 := fun W => left_any W x2 (-17) 15 ln17 (by decide)
          have r4 := fun W => left_any W x2 (-19) 13 ln19 (by decide)
          have s1 := w_shr3 x15
          have s2 := w_shr10 x2
          generalize rotl x15 25 = y1 at *
          generalize rotl x15 14 = y2 at *
          generalize rotl x2 15 = y3 at *
          generalize rotl x2 13 = y4 at *
          have hH := hid (And.intro hb hC)
          have Hj := hid (And.intro hj15 (And.intro hj2 (And.intro hj16 hj7)))
          clear hb hC hj15 hj2 hj16 hj7
          go_wp2_with fail
          try simp only [Act.put]
          refine tkR (fun w' => w'.cell? ⟨b7, j15, none⟩ = some (.int .u32 (wv x15)) ∧ w'.cell? ⟨b7, j2, none⟩ = some (.int .u32 (wv x2))) [] (by kernel_rfl) (fun c a d v w h => by cases d <;> exact h) (⟨c15, c2⟩) (fun hPF hHeld => ?_)
          refine tkB 0 (.some 28) _ _ rfl rfl (by kernel_rfl) (by kernel_rfl) (by kernel_rfl) (by kernel_rfl) hPF rfl (fun w' => by (go_simp; try with_reducible rfl)) hHeld (fun hHeld => ?_)
          simp only [Act.put, List.setIfInBounds_toArray, List.set_cons_zero, List.set_cons_succ]
          refine tkB 1 (.some 29) _ _ rfl rfl (by kernel_rfl) (by kernel_rfl) (by kernel_rfl) (by kernel_rfl) hPF rfl (fun w' => by (go_simp; try with_reducible rfl)) hHeld (fun hHeld => ?_)
          simp only [Act.put, List.setIfInBounds_toArray, List.set_cons_zero, List.set_cons_succ]
          refine tkB 2 (.some 30) _ _ rfl rfl (by kernel_rfl) (by kernel_rfl) (by kernel_rfl) (by kernel_rfl) hPF rfl (fun w' => by (go_simp; try with_reducible rfl)) hHeld (fun hHeld => ?_)
          simp only [Act.put, List.setIfInBounds_toArray, List.set_cons_zero, List.set_cons_succ]
          refine tkA 3 (.some 31) _ _ rfl rfl (by kernel_rfl) (by kernel_rfl) (by kernel_rfl) (by kernel_rfl) (by kernel_rfl) hPF rfl (fun w' hw' => by (have h1 := hw'.1; go_simp; try with_reducible rfl)) hHeld (fun hHeld => ?_)
          simp only [Act.put, List.setIfInBounds_toArray, List.set_cons_zero, List.set_cons_succ]
          refine tkB 4 (.some 32) _ _ rfl rfl (by kernel_rfl) (by kernel_rfl) (by kernel_rfl) (by kernel_rfl) hPF rfl (fun w' => by (go_simp; try with_reducible rfl)) hHeld (fun hHeld => ?_)
          simp only [Act.put, List.setIfInBounds_toArray, List.set_cons_zero, List.set_cons_succ]
          refine tkB 5 (.some 33) _ _ rfl rfl (by kernel_rfl) (by kernel_rfl) (by kernel_rfl) (by kernel_rfl) hPF rfl (fun w' => by (go_simp; try with_reducible rfl)) hHeld (fun hHeld => ?_)
          simp only [Act.put, List.setIfInBounds_toArray, List.set_cons_zero, List.set_cons_succ]
          refine tkB 6 (.some 34) _ _ rfl rfl (by kernel_rfl) (by kernel_rfl) (by kernel_rfl) (by kernel_rfl) hPF rfl (fun w' => by (go_simp; try with_reducible rfl)) hHeld (fun hHeld => ?_)
          simp only [Act.put, List.setIfInBounds_toArray, List.set_cons_zero, List.set_cons_succ]
          refine tkA 7 (.some 35) _ _ rfl rfl (by kernel_rfl) (by kernel_rfl) (by kernel_rfl) (by kernel_rfl) (by kernel_rfl) hPF rfl (fun w' hw' => by (have h1 := hw'.2; go_simp; try with_reducible rfl)) hHeld (fun hHeld => ?_)
          simp only [Act.put, List.setIfInBounds_toArray, List.set_cons_zero, List.set_cons_succ]
          refine tkB 8 (.some 6) _ _ rfl rfl (by kernel_rfl) (by kernel_rfl) (by kernel_rfl) (by kernel_rfl) hPF rfl (fun w' => by (go_simp; try with_reducible rfl)) hHeld (fun hHeld => ?_)
          simp only [Act.put, List.setIfInBounds_toArray, List.set_cons_zero, List.set_cons_succ]
          refine tkB 9 (.some 7) _ _ rfl rfl (by kernel_rfl) (by kernel_rfl) (by kernel_rfl) (by kernel_rfl) hPF rfl (fun w' => by (go_simp; try with_reducible rfl)) hHeld (fun hHeld => ?_)
          simp only [Act.put, List.setIfInBounds_toArray, List.set_cons_zero, List.set_cons_succ]
          refine tkD (by kernel_rfl) ?_ _
          go_wp2_with fail
          refine (r1 _).mono ?_
          rintro e w2 ⟨rfl, rfl⟩
          go_wp2_with fail
          refine (r2 _).mono ?_
          rintro e w2 ⟨rfl, rfl⟩
          go_wp2_with fail
          refine (r3 _).mono ?_
          rintro e w2 ⟨rfl, rfl⟩
          go_wp2_with fail
          refine (r4 _).mono ?_
          rintro e w2 ⟨rfl, rfl⟩
          go_wp2_with fail
          try simp only [Act.put]
          refine tkR (fun w' => w'.cell? ⟨b7, j16, none⟩ = some (.int .u32 (wv x16)) ∧ w'.cell? ⟨b7, j7, none⟩ = some (.int .u32 (wv x7))) [15] (by kernel_rfl) (fun c a d v w h => by cases d <;> exact h) (⟨c16, c7⟩) (fun hPF hHeld => ?_)
          refine tkB 0 (.some 52) _ _ rfl rfl (by kernel_rfl) (by kernel_rfl) (by kernel_rfl) (by kernel_rfl) hPF rfl (fun w' => by (go_simp; try with_reducible rfl)) hHeld (fun hHeld => ?_)
          simp only [Act.put, List.setIfInBounds_toArray, List.set_cons_zero, List.set_cons_succ]
          refine tkB 1 (.some 53) _ _ rfl rfl (by kernel_rfl) (by kernel_rfl) (by kernel_rfl) (by kernel_rfl) hPF rfl (fun w' => by (go_simp; try with_reducible rfl)) hHeld (fun hHeld => ?_)
          simp only [Act.put, List.setIfInBounds_toArray, List.set_cons_zero, List.set_cons_succ]
          refine tkB 2 (.some 54) _ _ rfl rfl (by kernel_rfl) (by kernel_rfl) (by kernel_rfl) (by kernel_rfl) hPF rfl (fun w' => by (go_simp; try with_reducible rfl)) hHeld (fun hHeld => ?_)
          simp only [Act.put, List.setIfInBounds_toArray, List.set_cons_zero, List.set_cons_succ]
          refine tkB 3 (.some 55) _ _ rfl rfl (by kernel_rfl) (by kernel_rfl) (by kernel_rfl) (by kernel_rfl) hPF rfl (fun w' => by (go_simp; try with_reducible rfl)) hHeld (fun hHeld => ?_)
          simp only [Act.put, List.setIfInBounds_toArray, List.set_cons_zero, List.set_cons_succ]
          refine tkA 4 (.some 56) _ _ rfl rfl (by kernel_rfl) (by kernel_rfl) (by kernel_rfl) (by kernel_rfl) (by kernel_rfl) hPF rfl (fun w' hw' => by (have h1 := hw'.1; go_simp; try with_reducible rfl)) hHeld (fun hHeld => ?_)
          simp only [Act.put, List.setIfInBounds_toArray, List.set_cons_zero, List.set_cons_succ]
          refine tkB 5 (.some 57) _ _ rfl rfl (by kernel_rfl) (by kernel_rfl) (by kernel_rfl) (by kernel_rfl) hPF rfl (fun w' => by (go_simp; try with_reducible rfl)) hHeld (fun hHeld => ?_)
          simp only [Act.put, List.setIfInBounds_toArray, List.set_cons_zero, List.set_cons_succ]
          refine tkB 6 (.some 58) _ _ rfl rfl (by kernel_rfl) (by kernel_rfl) (by kernel_rfl) (by kernel_rfl) hPF rfl (fun w' => by (go_simp; try with_reducible rfl)) hHeld (fun hHeld => ?_)
          simp only [Act.put, List.setIfInBounds_toArray, List.set_cons_zero, List.set_cons_succ]
          refine tkB 7 (.some 59) _ _ rfl rfl (by kernel_rfl) (by kernel_rfl) (by kernel_rfl) (by kernel_rfl) hPF rfl (fun w' => by (go_simp; try with_reducible rfl)) hHeld (fun hHeld => ?_)
          simp only [Act.put, List.setIfInBounds_toArray, List.set_cons_zero, List.set_cons_succ]
          refine tkB 8 (.some 60) _ _ rfl rfl (by kernel_rfl) (by kernel_rfl) (by kernel_rfl) (by kernel_rfl) hPF rfl (fun w' => by (go_simp; try with_reducible rfl)) hHeld (fun hHeld => ?_)
          simp only [Act.put, List.setIfInBounds_toArray, List.set_cons_zero, List.set_cons_succ]
          refine tkB 9 (.some 61) _ _ rfl rfl (by kernel_rfl) (by kernel_rfl) (by kernel_rfl) (by kernel_rfl) hPF rfl (fun w' => by (go_simp; try with_reducible rfl)) hHeld (fun hHeld => ?_)
          simp only [Act.put, List.setIfInBounds_toArray, List.set_cons_zero, List.set_cons_succ]
          refine tkA 10 (.some 62) _ _ rfl rfl (by kernel_rfl) (by kernel_rfl) (by kernel_rfl) (by kernel_rfl) (by kernel_rfl) hPF rfl (fun w' hw' => by (have h1 := hw'.2; go_simp; try with_reducible rfl)) hHeld (fun hHeld => ?_)
          simp only [Act.put, List.setIfInBounds_toArray, List.set_cons_zero, List.set_cons_succ]
          refine tkB 11 (.some 63) _ _ rfl rfl (by kernel_rfl) (by kernel_rfl) (by kernel_rfl) (by kernel_rfl) hPF rfl (fun w' => by (go_simp; try with_reducible rfl)) hHeld (fun hHeld => ?_)
          simp only [Act.put, List.setIfInBounds_toArray, List.set_cons_zero, List.set_cons_succ]
          refine tkB 12 (.some 64) _ _ rfl rfl (by kernel_rfl) (by kernel_rfl) (by kernel_rfl) (by kernel_rfl) hPF rfl (fun w' => by (go_simp; try with_reducible rfl)) hHeld (fun hHeld => ?_)
          simp only [Act.put, List.setIfInBounds_toArray, List.set_cons_zero, List.set_cons_succ]
          refine tkB 13 (.some 65) _ _ rfl rfl (by kernel_rfl) (by kernel_rfl) (by kernel_rfl) (by kernel_rfl) hPF rfl (fun w' => by (go_simp; try with_reducible rfl)) hHeld (fun hHeld => ?_)
          simp only [Act.put, List.setIfInBounds_toArray, List.set_cons_zero, List.set_cons_succ]
          refine tkB 14 (.some 66) _ _ rfl rfl (by kernel_rfl) (by kernel_rfl) (by kernel_rfl) (by kernel_rfl) hPF rfl (fun w' => by (go_simp; try with_reducible rfl)) hHeld (fun hHeld => ?_)
          simp only [Act.put, List.setIfInBounds_toArray, List.set_cons_zero, List.set_cons_succ]
          refine tkW (rs := [15]) (by kernel_rfl) (by simp) (AllK.close (o := _) rfl (by kernel_rfl) (fun KC hKC => ?_) AllK.nil)
          go_simp
          refine hKC.out _ _ (fun hHeld => ?_)
          clear hKC KC
          try simp only [Act.put]
          refine tkD (by kernel_rfl) ?_ _
          simp only [w_addw]
          have hb3 := hH.out.1.set k (.int .u32 (wv (x16 + (y1 ^^^ y2 ^^^ x15 / 8) + x7 + (y3 ^^^ y4 ^^^ x2 / 1024))))
          have hC3 := hH.out.2.setCell (p := ⟨b7, k, none⟩) (.inl (by simp)) (.int .u32 (wv (x16 + (y1 ^^^ y2 ^^^ x15 / 8) + x7 + (y3 ^^^ y4 ^^^ x2 / 1024))))
          rw [ws_set, ← hnx.out, hset.out] at hb3
          rw [← hnx.out] at hC3 ⊢
          generalize wr.setCell ⟨b7, k, none⟩ (.int .u32 (wv (nextW (sprTo b k) k))) = wc at *
          have hb4 := hb3.drew.drew
          have hC4 := hC3.drew.drew
          generalize wc.drew.drew = wd at *
          clear hb3 hC3 hH hPF hHeld
          go_wp2_with fail
          go_roundw
          case rel => exact ⟨k + 1, by omega, by omega, by go_num, hb4, hC4⟩
          case measure => (simp [intOf]; try omega)
        · obtain rfl : k = 64 := by omega
          have q1 : ¬ (((64 : Nat) : Int) < 64) := by omega
          have e64 : spA b 64 = sprTo b 64 := by simp [spA]
          rw [e64] at hb
          have h2' := h1.chg hC h1.lt (by have := Hb7.out; simp; omega)
          have hil := sprTo_len b 64
          have hl2 := spA_len b 0 (by omega)
          have hsr : (Tryz.prog.info? tW64).map (·.size) = some (ws (sprTo b 64)).length := by rw [sizeW64, ws_length, hil]
          have Hil := hid hil
          obtain ⟨R, hR⟩ : ∃ R, sprTo b 64 = R := ⟨_, rfl⟩
          rw [hR] at hb hsr Hil
          have HR := hid hR
          have hlR := ws_length R
          have hl3 : (ws (spA b 0)).length = 64 := by rw [ws_length, hl2]
          clear hR hil hl e64 hl2
          go_wp2_with (first | (refine wpList_load_mid rfl tW64 (.tmp 3) rfl b7 0 rfl (ws R) _ hb.whole Tryz.underlying128 rfl hsr ?_) | (refine wpList_store_mid rfl tW64 (.tmp 2) (.tmp 67) rfl (w.heap.size + 1) 0 (ws R).toArray rfl rfl (h2'.there 0 _ (by rw [List.size_toArray, hlR, Hil.out, hl3]; decide)) (by rw [sizeW64, List.size_toArray, hlR, Hil.out]) (all_oneCell_toArray (ws_one _)) ?_))
          have g1 := h2'.setCells (ws R) 0 (by rw [hlR, Hil.out, hl3]; decide)
          rw [splice_whole _ _ (by rw [hlR, Hil.out, hl3])] at g1
          refine bodyPost_ret (v := .agg (ws R).toArray) (results_cell_row (P := Tryz.prog) (p := 2) (ty := tW64) rfl _ _ (w.heap.size + 1) tW64 _ (0, 0) _ rfl g1 Tryz.underlying128 rfl hsr) rfl ⟨by rw [HR.out], ?_⟩
          have hB9 : Below w.heap.size wb wr := hC.below hB0.size (by intro k hk; simp at hk; have := Hb7.out; omega)
          exact hB0.trans (hB9.trans (((Chg.refl w.heap.size [] wr).setCells (b := w.heap.size + 1) (.inr (by omega)) (ws R) 0).below (Nat.le_refl _) (by simp)))
end Go.Proofs.YtnmmnlffobnbfaaGreatDoor
