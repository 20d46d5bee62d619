/- Cb (joined by merge4.py) -/
import Derived.Test.YtnmmnlffobnbfaaGreatDoorMO
import Derived.Test.YtnmmnlffobnbfaaGreatDoorMF
import Derived.Deep.DeepCutAuto
/- chacha: a block -/
namespace Go.Proofs.YtnmmnlffobnbfaaGreatDoor
open Go.RowKit

abbrev tB64 : TypeId := 81
/-- A quarter round at four places of a state. -/
def qAt (s : List UInt32) (a b c d : Nat) : List UInt32 :=
  let r := qrF (s.getD a 0) (s.getD b 0) (s.getD c 0) (s.getD d 0)
  (((s.set a r.1).set b r.2.1).set c r.2.2.1).set d r.2.2.2
theorem qAt_len (s : List UInt32) (a b c d : Nat) : (qAt s a b c d).length = s.length := by simp [qAt]
/-- The first i quarter rounds of a round. -/
def rndTo (skew : Nat) (s : List UInt32) : Nat → List UInt32
  | 0 => s
  | i + 1 => qAt (rndTo skew s i) i (4 + (i + skew) % 4) (8 + (i + 2 * skew) % 4) (12 + (i + 3 * skew) % 4)
theorem rndTo_len (k : Nat) (s : List UInt32) : ∀ i, (rndTo k s i).length = s.length
  | 0 => rfl
  | i + 1 => by rw [rndTo, qAt_len, rndTo_len k s i]
/-- The first k rounds of two. -/
def dblTo (s : List UInt32) : Nat → List UInt32
  | 0 => s
  | k + 1 => rndTo k (dblTo s k) 4
theorem dblTo_len (s : List UInt32) : ∀ i, (dblTo s i).length = s.length
  | 0 => rfl
  | i + 1 => by rw [dblTo, rndTo_len, dblTo_len s i]
def rounds20 (s : List UInt32) : Nat → List UInt32
  | 0 => s
  | k + 1 => dblTo (rounds20 s k) 2
theorem rounds20_len (s : List UInt32) : ∀ i, (rounds20 s i).length = s.length
  | 0 => rfl
  | i + 1 => by rw [rounds20, dblTo_len, rounds20_len s i]
def word4 (x : UInt32) : List UInt8 := leF 4 x.toNat
theorem word4_len (x : UInt32) : (word4 x).length = 4 := leF_len _ _
/-- The first k words of a block. -/
def outTo (s was : List UInt32) (k : Nat) : List UInt8 := (List.range k).flatMap fun i => word4 (s.getD i 0 + was.getD i 0)
theorem outTo_succ (s was : List UInt32) (k : Nat) : outTo s was (k + 1) = outTo s was k ++ word4 (s.getD k 0 + was.getD k 0) := by
  unfold outTo; rw [List.range_succ, List.flatMap_append]; simp
theorem outTo_len (s was : List UInt32) : ∀ k, (outTo s was k).length = 4 * k
  | 0 => rfl
  | k + 1 => by rw [outTo_succ, List.length_append, outTo_len s was k, word4_len]; omega
def blockF (key nonce : List UInt8) (n : UInt32) : List UInt8 := outTo (rounds20 (initF key nonce n) 10) (initF key nonce n) 16
theorem blockF_len (key nonce : List UInt8) (n : UInt32) : (blockF key nonce n).length = 64 := outTo_len _ _ _
def z64 : List UInt8 := List.replicate 64 0
theorem size64 : (Tryz.prog.info? 81).map (·.size) = some 64 := by kernel_rfl
theorem splice_out (s was : List UInt32) (k : Nat) (hk : k < 16) : splice (bys (outTo s was k ++ List.replicate (64 - 4 * k) 0)) (4 * k) (bys (word4 (s.getD k 0 + was.getD k 0))) = bys (outTo s was (k + 1) ++ List.replicate (64 - 4 * (k + 1)) 0) := by
  have h1 := outTo_len s was k
  have h2 := word4_len (s.getD k 0 + was.getD k 0)
  unfold splice
  rw [outTo_succ, bys_length, h2]
  unfold bys
  simp only [List.map_append, List.map_replicate]
  rw [List.take_left' (by simp [h1]), List.drop_append, List.drop_of_length_le (by simp [h1]), List.nil_append, List.drop_replicate, List.length_map, h1, List.append_assoc, show 64 - 4 * k - (4 * k + 4 - 4 * k) = 64 - 4 * (k + 1) by omega]
theorem rd_len {s : List UInt32} (h : s.length = 16) (k : Nat) (hk : k < 16) : (ws s)[k]? = some (W32 (s.getD k 0)) := ws_get s k (by omega)

theorem slice64 (b q : Nat) (hq : q ≤ 60) (W : World) : (Instr.sliceAt 81 (.pointer (some ⟨b, 0, none⟩)) (some (.int .i64 (q : Int))) none none).run Tryz.prog W = .ok (.slice (some ⟨b, q, none⟩) (64 - q) (64 - q)) W := by
  have h1 : (q : Int) ≤ 64 := by omega
  have h2 : 0 ≤ (q : Int) := by omega
  go_simp
  omega

set_option maxRecDepth 100000 in
set_option maxHeartbeats 8000000 in
theorem chblock_any (w : World) (key nonce : List UInt8) (n : UInt32) (hk : key.length = 32) (hn : nonce.length = 12) :
    Calls Tryz.prog 182 #[.agg (bys key).toArray, .agg (bys nonce).toArray, W32 n] w fun e w' => e = .returned (.agg (bys (blockF key nonce n)).toArray) ∧ Below w.heap.size w w' := by
  obtain ⟨wa, hwa⟩ : ∃ wa, ((w.alloc (.cells (bys key).toArray tA32)).alloc (.cells (bys nonce).toArray tN12)).alloc (.cells (bys z64).toArray tB64) = wa := ⟨_, rfl⟩
  have h0 : Blk wa w.heap.size (bys key) tA32 := by rw [← hwa]; exact ((Blk.new w (bys key) tA32).alloc _).alloc _
  have h1 : Blk wa (w.heap.size + 1) (bys nonce) tN12 := by
    rw [← hwa]
    have := (Blk.new (w.alloc (.cells (bys key).toArray tA32)) (bys nonce) tN12).alloc (.cells (bys z64).toArray tB64)
    simp only [World.size_alloc] at this; exact this
  have h2 : Blk wa (w.heap.size + 1 + 1) (bys z64) tB64 := by
    rw [← hwa]
    have := Blk.new ((w.alloc (.cells (bys key).toArray tA32)).alloc (.cells (bys nonce).toArray tN12)) (bys z64) tB64
    simp only [World.size_alloc] at this; exact this
  have hBa : Below w.heap.size w wa := by rw [← hwa]; exact (((Below.refl _ _).alloc (Nat.le_refl _) _).alloc (by simp) _).alloc (by simp; omega) _
  have hsz : wa.heap.size = w.heap.size + 3 := by rw [← hwa]; simp
  have hs0 : (Tryz.prog.info? 35).map (·.size) = some (bys key).length := by rw [size32b, bys_length, hk]
  have hs1 : (Tryz.prog.info? 183).map (·.size) = some (bys nonce).length := by rw [size12b, bys_length, hn]
  have Hk := hid hk
  have Hn := hid hn
  have Hwa := hid hwa
  have Hsz := hid hsz
  clear hk hn hwa hsz
  have hil := initF_len key nonce n
  obtain ⟨I, hI⟩ : ∃ I, initF key nonce n = I := ⟨_, rfl⟩
  have hbf : blockF key nonce n = outTo (rounds20 I 10) I 16 := by unfold blockF; rw [hI]
  rw [hI] at hil
  have HI := hid hI
  have Hbf := hid hbf
  have Hil := hid hil
  clear hI hbf hil
  have hszI : (Tryz.prog.info? 227).map (·.size) = some (ws I).length := by rw [size132, ws_length, Hil.out]
  go_enter Tryz.func182, Tryz.ntmps182
  go_upto_region 1 with fail
  change Code.wp _ _ _ _ (((w.alloc (.cells (bys key).toArray tA32)).alloc (.cells (bys nonce).toArray tN12)).alloc (.cells (bys z64).toArray tB64))
  rw [Hwa.out]
  go_upto_region 1 with fail
  go_wp2_with (first | (refine wpList_load_mid rfl 35 (.tmp 3) rfl w.heap.size 0 rfl (bys key) _ h0.whole Tryz.underlying35 rfl hs0 ?_) | (refine wpList_load_mid rfl 183 (.tmp 4) rfl (w.heap.size + 1) 0 rfl (bys nonce) _ h1.whole Tryz.underlying183 rfl hs1 ?_))
  refine (first_any wa key nonce n Hk.out Hn.out).mono ?_
  rintro e w1 ⟨rfl, hB1⟩
  rw [HI.out]
  have hz7 := Blk.new w1 (ws z16w) tS16
  have hB7 : Below w1.heap.size w1 (w1.alloc (.cells (ws z16w).toArray tS16)) := (Below.refl _ _).alloc (Nat.le_refl _) _
  have g7 := hz7.setCells (ws I) 0 (by rw [ws_length, ws_length, Hil.out]; decide)
  rw [splice_whole _ _ (by rw [ws_length, ws_length, Hil.out]; rfl)] at g7
  have hBw2 : Below w1.heap.size w1 ((w1.alloc (.cells (ws z16w).toArray tS16)).setCells w1.heap.size 0 (ws I)) := hB7.trans (((Chg.refl w1.heap.size [] _).setCells (b := w1.heap.size) (.inr (Nat.le_refl _)) (ws I) 0).below (Nat.le_refl _) (by simp))
  go_upto_region 2 with (refine wpList_store_mid rfl 227 (.tmp 7) (.tmp 20) rfl w1.heap.size 0 (ws I).toArray rfl rfl (hz7.there 0 _ (by rw [List.size_toArray, ws_length, ws_length, Hil.out]; decide)) (by rw [size132, List.size_toArray, ws_length, Hil.out]) (all_oneCell_toArray (ws_one _)) ?_)
  change Code.wp _ _ _ _ ((w1.alloc (.cells (ws z16w).toArray tS16)).setCells w1.heap.size 0 (ws I))
  obtain ⟨b7, hb7⟩ : ∃ b, w1.heap.size = b := ⟨_, rfl⟩
  generalize (w1.alloc (.cells (ws z16w).toArray tS16)).setCells w1.heap.size 0 (ws I) = w2 at *
  rw [hb7] at g7 ⊢
  have hlt2 := g7.lt
  have Hb7 := hid hb7
  clear hb7 hz7 hB7
  have hz8 := Blk.new w2 (ws z16w) tS16
  have hB8 : Below w2.heap.size w2 (w2.alloc (.cells (ws z16w).toArray tS16)) := (Below.refl _ _).alloc (Nat.le_refl _) _
  have g8 := hz8.setCells (ws I) 0 (by rw [ws_length, ws_length, Hil.out]; decide)
  rw [splice_whole _ _ (by rw [ws_length, ws_length, Hil.out]; rfl)] at g8
  have hBw3 : Below w2.heap.size w2 ((w2.alloc (.cells (ws z16w).toArray tS16)).setCells w2.heap.size 0 (ws I)) := hB8.trans (((Chg.refl w2.heap.size [] _).setCells (b := w2.heap.size) (.inr (Nat.le_refl _)) (ws I) 0).below (Nat.le_refl _) (by simp))
  go_upto_region 2 with fail
  go_upto_region 3 with (first | (refine wpList_load_mid rfl 227 (.tmp 7) rfl b7 0 rfl (ws I) _ g7.whole Tryz.underlying227 rfl hszI ?_) | (refine wpList_store_mid rfl 227 (.tmp 8) (.tmp 21) rfl w2.heap.size 0 (ws I).toArray rfl rfl (hz8.there 0 _ (by rw [List.size_toArray, ws_length, ws_length, Hil.out]; decide)) (by rw [size132, List.size_toArray, ws_length, Hil.out]) (all_oneCell_toArray (ws_one _)) ?_))
  change Code.wp _ _ _ _ ((w2.alloc (.cells (ws z16w).toArray tS16)).setCells w2.heap.size 0 (ws I))
  have g7 := g7.below hBw3 g7.lt
  obtain ⟨b8, hb8⟩ : ∃ b, w2.heap.size = b := ⟨_, rfl⟩
  generalize (w2.alloc (.cells (ws z16w).toArray tS16)).setCells w2.heap.size 0 (ws I) = w3 at *
  rw [hb8] at g8 ⊢
  have hb87 : b7 < b8 := by rw [← hb8]; exact hlt2
  have hB13 := hB1.trans ((hBw2.trans (hBw3.mono hBw2.size)).mono hB1.size)
  have hBw := hBa.trans (hB13.mono hBa.size)
  have hsb : w.heap.size + 1 + 1 < w1.heap.size := Nat.lt_of_lt_of_le h2.lt hB1.size
  have Hb8 := hid hb8
  clear hb8 hz8 hB8 hBw2 hBw3 hB1 h0 h1 hs0 hs1
  have hbb8 : b8 < w3.heap.size := g8.lt
  go_wp2_with fail
  go_loopw [22] (fun i wr => ∃ k : Nat, k ≤ 10 ∧ i = .int .i64 k ∧ Blk wr b8 (ws (rounds20 I k)) tS16 ∧ Chg w3.heap.size [b8] w3 wr) (fun i _ => 10 - (intOf i).toNat)
  case atStart => exact ⟨0, by omega, rfl, g8, Chg.refl _ _ _⟩
  case round =>
    clear g8
    obtain ⟨k, hk, rfl, hb, hC⟩ := hrel
    by_cases hlt : k < 10
    · have q1 : (k : Int) < 10 := by omega
      have hls : (rounds20 I k).length = 16 := by rw [rounds20_len]; exact Hil.out
      have hnx : rounds20 I (k + 1) = dblTo (rounds20 I k) 2 := rfl
      generalize rounds20 I k = s at hls hnx hb
      have Hls := hid hls
      have Hnx := hid hnx
      clear hls hnx
      go_wp2_with fail
      go_loopw [24] (fun i wx => ∃ m : Nat, m ≤ 2 ∧ i = .int .i64 m ∧ Blk wx b8 (ws (dblTo s m)) tS16 ∧ Chg w3.heap.size [b8] w3 wx) (fun i _ => 2 - (intOf i).toNat)
      case atStart => exact ⟨0, by omega, rfl, hb, hC⟩
      case round =>
        clear hb hC
        obtain ⟨m, hm, rfl, hb, hC⟩ := hrel
        by_cases hlm : m < 2
        · have q2 : (m : Int) < 2 := by omega
          have hlt2 : (dblTo s m).length = 16 := by rw [dblTo_len]; exact Hls.out
          have hnx2 : dblTo s (m + 1) = rndTo m (dblTo s m) 4 := rfl
          generalize dblTo s m = t at hlt2 hnx2 hb
          have Hlt := hid hlt2
          have Hnx2 := hid hnx2
          clear hlt2 hnx2
          go_wp2_with fail
          go_loopw [27] (fun i wx => ∃ i' : Nat, i' ≤ 4 ∧ i = .int .i64 i' ∧ Blk wx b8 (ws (rndTo m t i')) tS16 ∧ Chg w3.heap.size [b8] w3 wx) (fun i _ => 4 - (intOf i).toNat)
          case atStart => exact ⟨0, by omega, rfl, hb, hC⟩
          case round =>
            clear hb hC
            obtain ⟨i, hi, rfl, hb, hC⟩ := hrel
            by_cases hli : i < 4
            · have q3 : (i : Int) < 4 := by omega
              have hlu : (rndTo m t i).length = 16 := by rw [rndTo_len]; exact Hlt.out
              obtain ⟨y1, hy1⟩ : ∃ y, i + m = y := ⟨_, rfl⟩
              obtain ⟨m2, hm2⟩ : ∃ y, 2 * m = y := ⟨_, rfl⟩
              obtain ⟨m3, hm3⟩ : ∃ y, 3 * m = y := ⟨_, rfl⟩
              obtain ⟨y2, hy2⟩ : ∃ y, i + m2 = y := ⟨_, rfl⟩
              obtain ⟨y3, hy3⟩ : ∃ y, i + m3 = y := ⟨_, rfl⟩
              obtain ⟨r1, hr1⟩ : ∃ y, y1 % 4 = y := ⟨_, rfl⟩
              obtain ⟨r2, hr2⟩ : ∃ y, y2 % 4 = y := ⟨_, rfl⟩
              obtain ⟨r3, hr3⟩ : ∃ y, y3 % 4 = y := ⟨_, rfl⟩
              obtain ⟨b, hbe⟩ : ∃ y, 4 + r1 = y := ⟨_, rfl⟩
              obtain ⟨c, hce⟩ : ∃ y, 8 + r2 = y := ⟨_, rfl⟩
              obtain ⟨d, hde⟩ : ∃ y, 12 + r3 = y := ⟨_, rfl⟩
              have hnx3 : rndTo m t (i + 1) = qAt (rndTo m t i) i b c d := by
                show qAt _ _ _ _ _ = _
                rw [hm2, hm3, hy1, hy2, hy3, hr1, hr2, hr3, hbe, hce, hde]
              have e1 : (i : Int) + (m : Int) = (y1 : Int) := by omega
              have e2 : (2 : Int) * (m : Int) = (m2 : Int) := by omega
              have e3 : (3 : Int) * (m : Int) = (m3 : Int) := by omega
              have e4 : (i : Int) + (m2 : Int) = (y2 : Int) := by omega
              have e5 : (i : Int) + (m3 : Int) = (y3 : Int) := by omega
              have e6 : (y1 : Int).tmod 4 = (r1 : Int) := by rw [Int.tmod_eq_emod_of_nonneg (by omega)]; omega
              have e7 : (y2 : Int).tmod 4 = (r2 : Int) := by rw [Int.tmod_eq_emod_of_nonneg (by omega)]; omega
              have e8 : (y3 : Int).tmod 4 = (r3 : Int) := by rw [Int.tmod_eq_emod_of_nonneg (by omega)]; omega
              have e9 : (4 : Int) + (r1 : Int) = (b : Int) := by omega
              have e10 : (8 : Int) + (r2 : Int) = (c : Int) := by omega
              have e11 : (12 : Int) + (r3 : Int) = (d : Int) := by omega
              have l1 : b < 16 := by omega
              have l2 : c < 16 := by omega
              have l3 : d < 16 := by omega
              have p1 : (b : Int) < 16 := by omega
              have p2 : (c : Int) < 16 := by omega
              have p3 : (d : Int) < 16 := by omega
              have p4 : (i : Int) < 16 := by omega
              have p5 : 0 ≤ (b : Int) := by omega
              have p6 : 0 ≤ (c : Int) := by omega
              have p7 : 0 ≤ (d : Int) := by omega
              have p8 : 0 ≤ (i : Int) := by omega
              have y1' : y1 ≤ 10 := by omega
              have y2' : y2 ≤ 10 := by omega
              have y3' : y3 ≤ 20 := by omega
              have r1' : r1 < 4 := by omega
              have r2' : r2 < 4 := by omega
              have r3' : r3 < 4 := by omega
              have m2' : m2 < 4 := by omega
              have m3' : m3 < 8 := by omega
              clear hy1 hm2 hm3 hy2 hy3 hr1 hr2 hr3 hbe hce hde
              generalize rndTo m t i = u at hlu hnx3 hb
              have Hnx3 := hid hnx3
              clear hnx3
              go_upto_region 12 with fail
              have S0 : Blk wr.drew b8 (ws u) tS16 := hb.drew
              have Ca := hid (fun w' (h : Blk w' b8 (ws u) tS16) => (h.cell i).trans (rd_len hlu i (by omega)))
              have Cb := hid (fun w' (h : Blk w' b8 (ws u) tS16) => (h.cell b).trans (rd_len hlu b l1))
              have Cc := hid (fun w' (h : Blk w' b8 (ws u) tS16) => (h.cell c).trans (rd_len hlu c l2))
              have Cd := hid (fun w' (h : Blk w' b8 (ws u) tS16) => (h.cell d).trans (rd_len hlu d l3))
              have hqa : qAt u i b c d = (((u.set i (qrF (u.getD i 0) (u.getD b 0) (u.getD c 0) (u.getD d 0)).1).set b (qrF (u.getD i 0) (u.getD b 0) (u.getD c 0) (u.getD d 0)).2.1).set c (qrF (u.getD i 0) (u.getD b 0) (u.getD c 0) (u.getD d 0)).2.2.1).set d (qrF (u.getD i 0) (u.getD b 0) (u.getD c 0) (u.getD d 0)).2.2.2 := rfl
              generalize u.getD i 0 = xa at Ca hqa
              generalize u.getD b 0 = xb at Cb hqa
              generalize u.getD c 0 = xc at Cc hqa
              generalize u.getD d 0 = xd at Cd hqa
              have Hqa := hid hqa
              clear hqa
              try simp only [Act.put]
              refine tkR (fun w' => Blk w' b8 (ws u) tS16) [23] (by kernel_rfl) (fun c a d v w h => by cases d <;> exact h) (S0) (fun hPF hHeld => ?_)
              refine tkB 0 (.some 49) _ _ rfl rfl (by kernel_rfl) (by kernel_rfl) (by kernel_rfl) (by kernel_rfl) hPF rfl (fun w' => by (go_simp; try with_reducible rfl)) hHeld (fun hHeld => ?_)
              simp only [Act.put, List.setIfInBounds_toArray, List.set_cons_zero, List.set_cons_succ]
              refine tkB 1 (.some 50) _ _ rfl rfl (by kernel_rfl) (by kernel_rfl) (by kernel_rfl) (by kernel_rfl) hPF rfl (fun w' => by (go_simp; try with_reducible rfl)) hHeld (fun hHeld => ?_)
              simp only [Act.put, List.setIfInBounds_toArray, List.set_cons_zero, List.set_cons_succ]
              refine tkB 2 (.some 51) _ _ rfl rfl (by kernel_rfl) (by kernel_rfl) (by kernel_rfl) (by kernel_rfl) hPF rfl (fun w' => by (go_simp; try with_reducible rfl)) hHeld (fun hHeld => ?_)
              simp only [Act.put, List.setIfInBounds_toArray, List.set_cons_zero, List.set_cons_succ]
              refine tkB 3 (.some 52) _ _ rfl rfl (by kernel_rfl) (by kernel_rfl) (by kernel_rfl) (by kernel_rfl) hPF rfl (fun w' => by (go_simp; try with_reducible rfl)) hHeld (fun hHeld => ?_)
              simp only [Act.put, List.setIfInBounds_toArray, List.set_cons_zero, List.set_cons_succ]
              refine tkB 4 (.some 53) _ _ rfl rfl (by kernel_rfl) (by kernel_rfl) (by kernel_rfl) (by kernel_rfl) hPF rfl (fun w' => by (go_simp; try with_reducible rfl)) hHeld (fun hHeld => ?_)
              simp only [Act.put, List.setIfInBounds_toArray, List.set_cons_zero, List.set_cons_succ]
              refine tkB 5 (.some 54) _ _ rfl rfl (by kernel_rfl) (by kernel_rfl) (by kernel_rfl) (by kernel_rfl) hPF rfl (fun w' => by (go_simp; try with_reducible rfl)) hHeld (fun hHeld => ?_)
              simp only [Act.put, List.setIfInBounds_toArray, List.set_cons_zero, List.set_cons_succ]
              refine tkA 6 (.some 55) _ _ rfl rfl (by kernel_rfl) (by kernel_rfl) (by kernel_rfl) (by kernel_rfl) (by kernel_rfl) hPF rfl (fun w' hw' => by (have h1 := Ca.out _ hw'; go_simp; try with_reducible rfl)) hHeld (fun hHeld => ?_)
              simp only [Act.put, List.setIfInBounds_toArray, List.set_cons_zero, List.set_cons_succ]
              refine tkB 7 (.some 56) _ _ rfl rfl (by kernel_rfl) (by kernel_rfl) (by kernel_rfl) (by kernel_rfl) hPF rfl (fun w' => by (go_simp; try with_reducible rfl)) hHeld (fun hHeld => ?_)
              simp only [Act.put, List.setIfInBounds_toArray, List.set_cons_zero, List.set_cons_succ]
              refine tkB 8 (.some 57) _ _ rfl rfl (by kernel_rfl) (by kernel_rfl) (by kernel_rfl) (by kernel_rfl) hPF rfl (fun w' => by (go_simp; try with_reducible rfl)) hHeld (fun hHeld => ?_)
              simp only [Act.put, List.setIfInBounds_toArray, List.set_cons_zero, List.set_cons_succ]
              refine tkA 9 (.some 58) _ _ rfl rfl (by kernel_rfl) (by kernel_rfl) (by kernel_rfl) (by kernel_rfl) (by kernel_rfl) hPF rfl (fun w' hw' => by (have h1 := Cb.out _ hw'; go_simp; try with_reducible rfl)) hHeld (fun hHeld => ?_)
              simp only [Act.put, List.setIfInBounds_toArray, List.set_cons_zero, List.set_cons_succ]
              refine tkB 10 (.some 59) _ _ rfl rfl (by kernel_rfl) (by kernel_rfl) (by kernel_rfl) (by kernel_rfl) hPF rfl (fun w' => by (go_simp; try with_reducible rfl)) hHeld (fun hHeld => ?_)
              simp only [Act.put, List.setIfInBounds_toArray, List.set_cons_zero, List.set_cons_succ]
              refine tkB 11 (.some 60) _ _ rfl rfl (by kernel_rfl) (by kernel_rfl) (by kernel_rfl) (by kernel_rfl) hPF rfl (fun w' => by (go_simp; try with_reducible rfl)) hHeld (fun hHeld => ?_)
              simp only [Act.put, List.setIfInBounds_toArray, List.set_cons_zero, List.set_cons_succ]
              refine tkA 12 (.some 61) _ _ rfl rfl (by kernel_rfl) (by kernel_rfl) (by kernel_rfl) (by kernel_rfl) (by kernel_rfl) hPF rfl (fun w' hw' => by (have h1 := Cc.out _ hw'; go_simp; try with_reducible rfl)) hHeld (fun hHeld => ?_)
              simp only [Act.put, List.setIfInBounds_toArray, List.set_cons_zero, List.set_cons_succ]
              refine tkB 13 (.some 62) _ _ rfl rfl (by kernel_rfl) (by kernel_rfl) (by kernel_rfl) (by kernel_rfl) hPF rfl (fun w' => by (go_simp; try with_reducible rfl)) hHeld (fun hHeld => ?_)
              simp only [Act.put, List.setIfInBounds_toArray, List.set_cons_zero, List.set_cons_succ]
              refine tkB 14 (.some 63) _ _ rfl rfl (by kernel_rfl) (by kernel_rfl) (by kernel_rfl) (by kernel_rfl) hPF rfl (fun w' => by (go_simp; try with_reducible rfl)) hHeld (fun hHeld => ?_)
              simp only [Act.put, List.setIfInBounds_toArray, List.set_cons_zero, List.set_cons_succ]
              refine tkA 15 (.some 64) _ _ rfl rfl (by kernel_rfl) (by kernel_rfl) (by kernel_rfl) (by kernel_rfl) (by kernel_rfl) hPF rfl (fun w' hw' => by (have h1 := Cd.out _ hw'; go_simp; try with_reducible rfl)) hHeld (fun hHeld => ?_)
              simp only [Act.put, List.setIfInBounds_toArray, List.set_cons_zero, List.set_cons_succ]
              have hS := hHeld (by kernel_rfl)
              refine tkW (rs := [16]) (by kernel_rfl) (by simp) (AllK.cons (o := _) rfl (fun KC hKC => ?_) AllK.nil)
              go_simp
              refine (quarter_any _ xa xb xc xd).mono ?_
              obtain ⟨ra, rb, rc, rd, hr⟩ : ∃ a b c d, qrF xa xb xc xd = (a, b, c, d) := ⟨_, _, _, _, rfl⟩
              have hqa := Hqa.out
              rw [hr] at hqa ⊢
              rintro e w16 ⟨rfl, hB16⟩
              have h16 : Blk w16 b8 (ws u) tS16 := hS.below hB16 hS.lt
              have hC16 : Chg w3.heap.size [b8] w3 w16 := hC.trans (Chg.ofBelow (((Below.refl _ wr).drew.trans hB16).mono hC.size))
              have c23 := h16.cell i
              rw [ws_get _ _ (by rw [hlu]; omega)] at c23
              have f23 := h16.frozen i
              have k1 := h16.set i (W32 ra)
              have K1 := hC16.setCell (p := ⟨b8, i, none⟩) (.inl (by simp)) (W32 ra)
              rw [ws_set] at k1
              have c25 := k1.cell b
              rw [ws_get _ _ (by rw [List.length_set, hlu]; omega)] at c25
              have f25 := k1.frozen b
              have k2 := k1.set b (W32 rb)
              have K2 := K1.setCell (p := ⟨b8, b, none⟩) (.inl (by simp)) (W32 rb)
              rw [ws_set] at k2
              have c27 := k2.cell c
              rw [ws_get _ _ (by rw [List.length_set, List.length_set, hlu]; omega)] at c27
              have f27 := k2.frozen c
              have k3 := k2.set c (W32 rc)
              have K3 := K2.setCell (p := ⟨b8, c, none⟩) (.inl (by simp)) (W32 rc)
              rw [ws_set] at k3
              have c29 := k3.cell d
              rw [ws_get _ _ (by rw [List.length_set, List.length_set, List.length_set, hlu]; omega)] at c29
              have f29 := k3.frozen d
              have k4 := k3.set d (W32 rd)
              have K4 := K3.setCell (p := ⟨b8, d, none⟩) (.inl (by simp)) (W32 rd)
              rw [ws_set] at k4
              simp only at hqa
              rw [← hqa] at k4
              have Hqb := hid hqa
              clear hB16 hC16 hr hqa k1 k2 k3 K1 K2 K3
              refine hKC.out _ _ (h16) (fun hHeld => ?_)
              clear hKC KC
              refine tkB 17 (.some 48) _ _ rfl rfl (by kernel_rfl) (by kernel_rfl) (by kernel_rfl) (by kernel_rfl) hPF rfl (fun w' => by (go_simp; try with_reducible rfl)) hHeld (fun hHeld => ?_)
              simp only [Act.put, List.setIfInBounds_toArray, List.set_cons_zero, List.set_cons_succ]
              refine tkB 18 (.some 66) _ _ rfl rfl (by kernel_rfl) (by kernel_rfl) (by kernel_rfl) (by kernel_rfl) hPF rfl (fun w' => by (go_simp; try with_reducible rfl)) hHeld (fun hHeld => ?_)
              simp only [Act.put, List.setIfInBounds_toArray, List.set_cons_zero, List.set_cons_succ]
              refine tkB 19 (.some 67) _ _ rfl rfl (by kernel_rfl) (by kernel_rfl) (by kernel_rfl) (by kernel_rfl) hPF rfl (fun w' => by (go_simp; try with_reducible rfl)) hHeld (fun hHeld => ?_)
              simp only [Act.put, List.setIfInBounds_toArray, List.set_cons_zero, List.set_cons_succ]
              refine tkB 20 (.some 68) _ _ rfl rfl (by kernel_rfl) (by kernel_rfl) (by kernel_rfl) (by kernel_rfl) hPF rfl (fun w' => by (go_simp; try with_reducible rfl)) hHeld (fun hHeld => ?_)
              simp only [Act.put, List.setIfInBounds_toArray, List.set_cons_zero, List.set_cons_succ]
              refine tkB 21 (.some 69) _ _ rfl rfl (by kernel_rfl) (by kernel_rfl) (by kernel_rfl) (by kernel_rfl) hPF rfl (fun w' => by (go_simp; try with_reducible rfl)) hHeld (fun hHeld => ?_)
              simp only [Act.put, List.setIfInBounds_toArray, List.set_cons_zero, List.set_cons_succ]
              refine tkB 22 (.some 70) _ _ rfl rfl (by kernel_rfl) (by kernel_rfl) (by kernel_rfl) (by kernel_rfl) hPF rfl (fun w' => by (go_simp; try with_reducible rfl)) hHeld (fun hHeld => ?_)
              simp only [Act.put, List.setIfInBounds_toArray, List.set_cons_zero, List.set_cons_succ]
              refine tkW (rs := [23]) (by kernel_rfl) (by simp) (AllK.close (o := _) rfl (by kernel_rfl) (fun KC hKC => ?_) AllK.nil)
              go_simp
              refine hKC.out _ _ (fun hHeld => ?_)
              clear hKC KC
              try simp only [Act.put]
              refine tkB 24 (.some 71) _ _ rfl rfl (by kernel_rfl) (by kernel_rfl) (by kernel_rfl) (by kernel_rfl) hPF rfl (fun w' => by (go_simp; try with_reducible rfl)) hHeld (fun hHeld => ?_)
              simp only [Act.put, List.setIfInBounds_toArray, List.set_cons_zero, List.set_cons_succ]
              refine tkW (rs := [25]) (by kernel_rfl) (by simp) (AllK.close (o := _) rfl (by kernel_rfl) (fun KC hKC => ?_) AllK.nil)
              go_simp
              refine hKC.out _ _ (fun hHeld => ?_)
              clear hKC KC
              try simp only [Act.put]
              refine tkB 26 (.some 72) _ _ rfl rfl (by kernel_rfl) (by kernel_rfl) (by kernel_rfl) (by kernel_rfl) hPF rfl (fun w' => by (go_simp; try with_reducible rfl)) hHeld (fun hHeld => ?_)
              simp only [Act.put, List.setIfInBounds_toArray, List.set_cons_zero, List.set_cons_succ]
              refine tkW (rs := [27]) (by kernel_rfl) (by simp) (AllK.close (o := _) rfl (by kernel_rfl) (fun KC hKC => ?_) AllK.nil)
              go_simp
              refine hKC.out _ _ (fun hHeld => ?_)
              clear hKC KC
              try simp only [Act.put]
              refine tkB 28 (.some 73) _ _ rfl rfl (by kernel_rfl) (by kernel_rfl) (by kernel_rfl) (by kernel_rfl) hPF rfl (fun w' => by (go_simp; try with_reducible rfl)) hHeld (fun hHeld => ?_)
              simp only [Act.put, List.setIfInBounds_toArray, List.set_cons_zero, List.set_cons_succ]
              refine tkW (rs := [29]) (by kernel_rfl) (by simp) (AllK.close (o := _) rfl (by kernel_rfl) (fun KC hKC => ?_) AllK.nil)
              go_simp
              refine hKC.out _ _ (fun hHeld => ?_)
              clear hKC KC
              try simp only [Act.put]
              refine tkD (by kernel_rfl) ?_ _
              clear hb hC
              go_wp2_with fail
              go_roundw
              case rel => exact ⟨i + 1, by omega, by go_num, by rw [Hnx3.out]; exact k4, K4⟩
              case measure => (simp [intOf]; try omega)
            · obtain rfl : i = 4 := by omega
              have q3 : ¬ (((4 : Nat) : Int) < 4) := by omega
              rw [← Hnx2.out] at hb
              go_wp2_with fail
              go_roundw
              case rel => exact ⟨m + 1, by omega, by go_num, hb, hC⟩
              case measure => (simp [intOf]; try omega)
        · obtain rfl : m = 2 := by omega
          have q2 : ¬ (((2 : Nat) : Int) < 2) := by omega
          rw [← Hnx.out] at hb
          go_wp2_with fail
          go_roundw
          case rel => exact ⟨k + 1, by omega, by go_num, hb, hC⟩
          case measure => (simp [intOf]; try omega)
    · obtain rfl : k = 10 := by omega
      have q1 : ¬ (((10 : Nat) : Int) < 10) := by omega
      have hFl : (rounds20 I 10).length = 16 := by rw [rounds20_len]; exact Hil.out
      have Hbf2 := Hbf.out
      generalize rounds20 I 10 = F at hb hFl Hbf2
      have g7' := g7.chg hC g7.lt (by simp; omega)
      have h2w := h2.below hB13 h2.lt
      have hsa := h2.lt
      have hs78 : w.heap.size + 1 + 1 < b7 := by have := Hb7.out; have h9 := hB13.size; have h8 := Hb8.out; have h7 := hsb; omega
      have h2' := h2w.chg hC h2w.lt (by simp; omega)
      have hBr : Below w.heap.size w wr := hBw.trans (hC.below hBw.size (by intro k hk; simp at hk; omega))
      have hz15 := Blk.new wr (bys z64) tB64
      have hb8r : b8 < wr.heap.size := hb.lt
      have hB15 : Below wr.heap.size wr (wr.alloc (.cells (bys z64).toArray tB64)) := (Below.refl _ _).alloc (Nat.le_refl _) _
      have HFl := hid hFl
      have Hbf3 := hid Hbf2
      clear hC g7 h2 h2w hFl Hbf2 hk hlt
      go_upto_region 17 with fail
      change Code.wp _ _ _ _ (wr.alloc (.cells (bys z64).toArray tB64))
      have hb := hb.below hB15 hb.lt
      have g7' := g7'.below hB15 g7'.lt
      have h2' := h2'.below hB15 h2'.lt
      have hBr := hBr.trans (hB15.mono hBr.size)
      obtain ⟨b15, hb15⟩ : ∃ b, wr.heap.size = b := ⟨_, rfl⟩
      generalize wr.alloc (.cells (bys z64).toArray tB64) = w5 at *
      rw [hb15] at hz15 ⊢
      have hb8l : b8 < b15 := by rw [← hb15]; exact hb8r
      have Hb15 := hid hb15
      clear hb15 hB15
      have hz15' : Blk w5 b15 (bys (outTo F I 0 ++ List.replicate (64 - 4 * 0) 0)) tB64 := hz15
      clear hz15
      go_wp2_with fail
      go_loopw [77] (fun i wx => ∃ k : Nat, k ≤ 16 ∧ i = .int .i64 k ∧ Blk wx b15 (bys (outTo F I k ++ List.replicate (64 - 4 * k) 0)) tB64 ∧ Chg w5.heap.size [b15] w5 wx) (fun i _ => 16 - (intOf i).toNat)
      case atStart => exact ⟨0, by omega, rfl, hz15', Chg.refl _ _ _⟩
      case round =>
        clear hz15'
        obtain ⟨k, hk, rfl, hbo, hC⟩ := hrel
        have hb' := hb.chg hC hb.lt (by simp; omega)
        have g7w := g7'.chg hC g7'.lt (by simp; omega)
        by_cases hlt : k < 16
        · have q2 : (k : Int) < 16 := by omega
          have hol : (bys (outTo F I k ++ List.replicate (64 - 4 * k) 0)).length = 64 := by rw [bys_length, List.length_append, outTo_len, List.length_replicate]; omega
          have hsp := splice_out F I k hlt
          have Cs := hid (fun w' (h : Below wr.heap.size wr w') => ((hb'.below h hb'.lt).cell k).trans (rd_len HFl.out k hlt))
          have Cw := hid (fun w' (h : Below wr.heap.size wr w') => ((g7w.below h g7w.lt).cell k).trans (rd_len Hil.out k hlt))
          obtain ⟨q, hq⟩ : ∃ q, 4 * k = q := ⟨_, rfl⟩
          have q3 : (4 : Int) * (k : Int) = (q : Int) := by omega
          have hq60 : q ≤ 60 := by omega
          have hsl := slice64 b15 q hq60
          have hqw : IntKind.i64.wrap (q : Int) = (q : Int) := by rw [IntKind.wrap_i64]; omega
          generalize F.getD k 0 = x at Cs hsp
          generalize I.getD k 0 = y at Cw hsp
          have hzw : IntKind.u64.wrap (wv (x + y)) = wv (x + y) := by have := wv_lo (x + y); have := wv_hi (x + y); rw [IntKind.wrap_u64]; omega
          have haw : IntKind.u32.wrap (wv x + wv y) = wv (x + y) := by rw [← w_add]; rfl
          rw [hq] at hsp
          obtain ⟨OL, hOL⟩ : ∃ OL, bys (outTo F I k ++ List.replicate (64 - 4 * k) 0) = OL := ⟨_, rfl⟩
          rw [hq] at hOL hbo hol
          rw [hOL] at hbo hol hsp
          have Hsp := hid hsp
          have Hol := hid hol
          have Hq := hid hq
          have hxy := (x + y).toNat_lt
          clear hq hsp hol hOL
          go_upto_region 20 with fail
          have S0 : Below wr.heap.size wr wr.drew := (Below.refl _ _).drew
          try simp only [Act.put]
          refine tkR (fun w' => Below wr.heap.size wr w') [12] (by kernel_rfl) (fun c a d v w h => by cases d <;> exact h) (S0) (fun hPF hHeld => ?_)
          refine tkB 0 (.some 80) _ _ rfl rfl (by kernel_rfl) (by kernel_rfl) (by kernel_rfl) (by kernel_rfl) hPF rfl (fun w' => by (go_simp; try with_reducible rfl)) hHeld (fun hHeld => ?_)
          simp only [Act.put, List.setIfInBounds_toArray, List.set_cons_zero, List.set_cons_succ]
          refine tkB 1 (.some 81) _ _ rfl rfl (by kernel_rfl) (by kernel_rfl) (by kernel_rfl) (by kernel_rfl) hPF rfl (fun w' => by (go_simp; try with_reducible rfl)) hHeld (fun hHeld => ?_)
          simp only [Act.put, List.setIfInBounds_toArray, List.set_cons_zero, List.set_cons_succ]
          refine tkA 2 (.some 82) _ _ rfl rfl (by kernel_rfl) (by kernel_rfl) (by kernel_rfl) (by kernel_rfl) (by kernel_rfl) hPF rfl (fun w' hw' => by (have h1 := hqw; go_simp; try with_reducible rfl)) hHeld (fun hHeld => ?_)
          simp only [Act.put, List.setIfInBounds_toArray, List.set_cons_zero, List.set_cons_succ]
          refine tkB 3 (.some 83) _ _ rfl rfl (by kernel_rfl) (by kernel_rfl) (by kernel_rfl) (by kernel_rfl) hPF rfl (fun w' => by (go_simp; try with_reducible rfl)) hHeld (fun hHeld => ?_)
          simp only [Act.put, List.setIfInBounds_toArray, List.set_cons_zero, List.set_cons_succ]
          refine tkB 4 (.some 84) _ _ rfl rfl (by kernel_rfl) (by kernel_rfl) (by kernel_rfl) (by kernel_rfl) hPF rfl (fun w' => by (go_simp; try with_reducible rfl)) hHeld (fun hHeld => ?_)
          simp only [Act.put, List.setIfInBounds_toArray, List.set_cons_zero, List.set_cons_succ]
          refine tkA 5 (.some 85) _ _ rfl rfl (by kernel_rfl) (by kernel_rfl) (by kernel_rfl) (by kernel_rfl) (by kernel_rfl) hPF rfl (fun w' hw' => by (have h1 := Cs.out _ hw'; go_simp; try with_reducible rfl)) hHeld (fun hHeld => ?_)
          simp only [Act.put, List.setIfInBounds_toArray, List.set_cons_zero, List.set_cons_succ]
          refine tkB 6 (.some 86) _ _ rfl rfl (by kernel_rfl) (by kernel_rfl) (by kernel_rfl) (by kernel_rfl) hPF rfl (fun w' => by (go_simp; try with_reducible rfl)) hHeld (fun hHeld => ?_)
          simp only [Act.put, List.setIfInBounds_toArray, List.set_cons_zero, List.set_cons_succ]
          refine tkB 7 (.some 87) _ _ rfl rfl (by kernel_rfl) (by kernel_rfl) (by kernel_rfl) (by kernel_rfl) hPF rfl (fun w' => by (go_simp; try with_reducible rfl)) hHeld (fun hHeld => ?_)
          simp only [Act.put, List.setIfInBounds_toArray, List.set_cons_zero, List.set_cons_succ]
          refine tkA 8 (.some 88) _ _ rfl rfl (by kernel_rfl) (by kernel_rfl) (by kernel_rfl) (by kernel_rfl) (by kernel_rfl) hPF rfl (fun w' hw' => by (have h1 := Cw.out _ hw'; go_simp; try with_reducible rfl)) hHeld (fun hHeld => ?_)
          simp only [Act.put, List.setIfInBounds_toArray, List.set_cons_zero, List.set_cons_succ]
          refine tkB 9 (.some 89) _ _ rfl rfl (by kernel_rfl) (by kernel_rfl) (by kernel_rfl) (by kernel_rfl) hPF rfl (fun w' => by (go_simp; try with_reducible rfl)) hHeld (fun hHeld => ?_)
          simp only [Act.put, List.setIfInBounds_toArray, List.set_cons_zero, List.set_cons_succ]
          refine tkB 10 (.some 90) _ _ rfl rfl (by kernel_rfl) (by kernel_rfl) (by kernel_rfl) (by kernel_rfl) hPF rfl (fun w' => by (go_simp; try with_reducible rfl)) hHeld (fun hHeld => ?_)
          simp only [Act.put, List.setIfInBounds_toArray, List.set_cons_zero, List.set_cons_succ]
          have hS := hHeld (by kernel_rfl)
          refine tkW (rs := [11]) (by kernel_rfl) (by simp) (AllK.cons (o := _) rfl (fun KC hKC => ?_) AllK.nil)
          go_simp
          refine (putlittle_any _ (x + y).toNat 4 (by omega) (by omega)).mono ?_
          rintro e w11 ⟨rfl, hP, hB11⟩
          have h11 := hS.trans (hB11.mono hS.size)
          have hbo11 := hbo.below h11 hbo.lt
          have hC11 := hC.trans (Chg.ofBelow (h11.mono hC.size))
          clear hB11
          refine hKC.out _ _ (h11) (fun hHeld => ?_)
          clear hKC KC
          try simp only [Act.put, List.setIfInBounds_toArray, List.set_cons_zero, List.set_cons_succ]
          refine tkW (rs := [12]) (by kernel_rfl) (by simp) (AllK.close (o := _) rfl (by kernel_rfl) (fun KC hKC => ?_) AllK.nil)
          refine wantIt rfl (wp_copy_blk (.some 92) rfl (.tmp 82) (.tmp 91) 23 23 rfl 5 under33b (by kernel_rfl) b15 q (64 - q) (64 - q) (wr.drew.heap.size + 1) 0 4 4 rfl rfl OL (bys (word4 (x + y))) tB64 tU8 hbo11 hP 4 (Nat.min_eq_left (show 4 ≤ 64 - q by omega)).symm (by rw [Hol.out]; omega) (by rw [bys_length, word4_len]; decide) (bys_one _) ?_)
          intro w12 hb12 hC12 hz12
          rw [List.drop_zero, List.take_of_length_le (by rw [bys_length, word4_len]; decide), Hsp.out] at hb12
          have hC12' := hC11.trans (hC12.mono hC11.size (fun k _ h => h))
          clear hC12 hbo11 hC11
          refine hKC.out _ _ (fun hHeld => ?_)
          clear hKC KC
          try simp only [Act.put, List.setIfInBounds_toArray, List.set_cons_zero, List.set_cons_succ]
          refine tkD (by kernel_rfl) ?_ _
          clear hC hbo hb' g7w
          go_wp2_with fail
          go_roundw
          case rel => exact ⟨k + 1, by omega, by go_num, hb12, hC12'⟩
          case measure => (simp [intOf]; try omega)
        · obtain rfl : k = 16 := by omega
          have q2 : ¬ (((16 : Nat) : Int) < 16) := by omega
          have hbo2 : Blk wr b15 (bys (blockF key nonce n)) tB64 := by
            rw [Hbf3.out]
            simpa using hbo
          have h6 := h2'.chg hC h2'.lt (by simp; omega)
          have hBl := blockF_len key nonce n
          have hB9 : Below w.heap.size w5 wr := hC.below (by have := hBr.size; omega) (by intro k hk; simp at hk; omega)
          obtain ⟨R, hR⟩ : ∃ R, blockF key nonce n = R := ⟨_, rfl⟩
          rw [hR] at hbo2 hBl
          have HR := hid hR
          have Hil2 := hid hBl
          have hsr : (Tryz.prog.info? 81).map (·.size) = some (bys R).length := by rw [size64, bys_length, hBl]
          clear hbo hR hBl hC
          go_wp2_with (first | (refine wpList_load_mid rfl 81 (.tmp 15) rfl b15 0 rfl (bys R) _ hbo2.whole Tryz.underlying81 rfl hsr ?_) | (refine wpList_store_mid rfl 81 (.tmp 6) (.tmp 94) rfl (w.heap.size + 1 + 1) 0 (bys R).toArray rfl rfl (h6.there 0 _ (by rw [List.size_toArray, bys_length, bys_length, Hil2.out]; decide)) (by rw [size64, List.size_toArray, bys_length, Hil2.out]) (all_oneCell_toArray (bys_one _)) ?_))
          have g1 := h6.setCells (bys R) 0 (by rw [bys_length, bys_length, Hil2.out]; decide)
          rw [splice_whole _ _ (by rw [bys_length, bys_length, Hil2.out]; rfl)] at g1
          refine bodyPost_ret (v := .agg (bys R).toArray) (results_cell_row (P := Tryz.prog) (p := 6) (ty := 81) rfl _ _ (w.heap.size + 1 + 1) tB64 _ (0, 0) _ rfl g1 Tryz.underlying81 rfl hsr) rfl ⟨by rw [HR.out], ?_⟩
          exact hBr.trans (hB9.trans (((Chg.refl w.heap.size [] wr).setCells (b := w.heap.size + 1 + 1) (.inr (by omega)) (bys R) 0).below (Nat.le_refl _) (by simp)))
end Go.Proofs.YtnmmnlffobnbfaaGreatDoor
