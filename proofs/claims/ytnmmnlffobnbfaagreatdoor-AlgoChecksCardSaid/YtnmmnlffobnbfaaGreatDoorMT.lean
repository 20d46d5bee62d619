/- Ad · Ae (joined by merge4.py) -/
import Derived.Test.YtnmmnlffobnbfaaGreatDoorMQ
import Derived.Test.YtnmmnlffobnbfaaGreatDoorMS
import Derived.Test.YtnmmnlffobnbfaaGreatDoorMF
import Derived.Test.YtnmmnlffobnbfaaGreatDoorMN
/- aead: crypted, tag, walked (printed by gen_ad.py) -/
namespace Go.Proofs.YtnmmnlffobnbfaaGreatDoor
open Go.RowKit

abbrev tSui : TypeId := 185
theorem sizeSui : (Tryz.prog.info? tSui).map (·.size) = some 44 := by kernel_rfl
theorem mk_nulls (W : World) (d : Nat) (h : d ≤ 140737488355328) : (Instr.makeSlice 23 (.int .i64 d) (.int .i64 d)).run Tryz.prog W = .ok (.slice (some ⟨W.heap.size, 0, none⟩) d d) (W.alloc (.cells (bys (List.replicate d 0)).toArray 5)) := by
  have hmk := run_make_row' (P := Tryz.prog) (w := W) 23 5 (.int .u8 0) 1 under33b info5 rfl .i64 .i64 d (by omega) (by omega)
  rw [madeCells_bys] at hmk
  exact hmk
theorem arr32 (b o n c : Nat) (hn : 32 ≤ n) (W : World) : (Instr.arrayAt tA32 (.slice (some ⟨b, o, none⟩) n c)).run Tryz.prog W = .ok (.pointer (some ⟨b, o, none⟩)) W := run_arrayAt W tA32 5 32 (some ⟨b, o, none⟩) n c Tryz.underlying35 hn
theorem leF_len' (k n : Nat) : (leF k n).length = k := by unfold leF; simp
def padP (n : Nat) : Nat := (16 - n % 16) % 16
def tagB (aad sealed : List UInt8) : List UInt8 := [] ++ aad ++ List.replicate (padP aad.length) 0 ++ sealed ++ List.replicate (padP sealed.length) 0 ++ leF 8 aad.length ++ leF 8 sealed.length
def atagF (key nonce aad sealed : List UInt8) : List UInt8 := poF (r0F ((blockF key nonce 0).take 32)) (s0F ((blockF key nonce 0).take 32)) (tagB aad sealed)
theorem atagF_len (key nonce aad sealed : List UInt8) : (atagF key nonce aad sealed).length = 16 := poF_len _ _ _

theorem sui_ranges {W : World} {b : Nat} {key nonce : List UInt8} (h : Blk W b (bys (key ++ nonce)) tSui) (hk : key.length = 32) (hn : nonce.length = 12) : W.rangeAt b 0 (bys key) ∧ W.rangeAt b 32 (bys nonce) := by
  have h1 := h.range 0 32
  have h2 := h.range 32 12
  have e1 : ((bys (key ++ nonce)).drop 0).take 32 = bys key := by rw [List.drop_zero, bys, List.map_append, List.take_append_of_le_length (by simp [hk]), List.take_of_length_le (by simp [hk])]; rfl
  have e2 : ((bys (key ++ nonce)).drop 32).take 12 = bys nonce := by rw [bys, List.map_append, List.drop_append_of_le_length (by simp [hk]), List.drop_of_length_le (by simp [hk]), List.nil_append, List.take_of_length_le (by simp [hn])]; rfl
  rw [e1] at h1; rw [e2] at h2
  exact ⟨h1, h2⟩
set_option maxRecDepth 100000 in
set_option maxHeartbeats 4000000 in
theorem crypted_any (w : World) (key nonce : List UInt8) (pa : Option Addr) (many cap : Nat) (b : List UInt8) (hb : RowAt w pa b) (hbl : b.length = many) (hk : key.length = 32) (hn : nonce.length = 12) (h9 : many < 1000000) :
    Calls Tryz.prog 143 #[.agg (bys (key ++ nonce)).toArray, .slice pa many cap] w fun e w' => ∃ g, w.heap.size ≤ g ∧ e = .returned (.slice (some ⟨g, 0, none⟩) many many) ∧ Blk w' g (bys (cryC key nonce 1 b)) tU8 ∧ Below w.heap.size w w' := by
  have hS := Blk.new w (bys (key ++ nonce)) tSui
  have hB : Below w.heap.size w (w.alloc (.cells (bys (key ++ nonce)).toArray tSui)) := (Below.refl _ _).alloc (Nat.le_refl _) _
  obtain ⟨w1, hw1⟩ : ∃ w1, w.alloc (.cells (bys (key ++ nonce)).toArray tSui) = w1 := ⟨_, rfl⟩
  rw [hw1] at hS hB
  have hb1 := hb.below hB
  obtain ⟨hr1, hr2⟩ := sui_ranges hS hk hn
  have HW1 := hid hw1
  have hsK : (Tryz.prog.info? tA32).map (·.size) = some (bys key).length := by rw [size32b, bys_length, hk]
  have hsN : (Tryz.prog.info? tN12).map (·.size) = some (bys nonce).length := by rw [size12b, bys_length, hn]
  clear hw1 hS
  have Hc := hid (show ∀ W, _ from fun W => ccrypt_any W key nonce 1 pa many cap b)
  go_enter Tryz.func143, Tryz.ntmps143
  go_upto_region 1 with (fail)
  change Code.wp _ _ _ _ (w.alloc (.cells (bys (key ++ nonce)).toArray tSui))
  rw [HW1.out]
  clear HW1
  go_wp2_with (first | (refine wpList_load_mid rfl tA32 (.tmp 5) rfl w.heap.size 0 rfl (bys key) _ hr1 Tryz.underlying35 rfl hsK ?_) | (refine wpList_load_mid rfl tN12 (.tmp 7) rfl w.heap.size 32 rfl (bys nonce) _ hr2 Tryz.underlying183 rfl hsN ?_))
  refine (Hc.out w1 hb1 hbl hk hn h9).mono ?_
  rintro e w3 ⟨g, hg, rfl, hA3, hB4⟩
  have hB5 := hB.trans (hB4.mono hB.size)
  have hge : w.heap.size ≤ g := Nat.le_trans hB.size hg
  clear Hc
  go_wp2_with fail
  go_ret
  exact ⟨g, hge, rfl, hA3, hB5⟩

set_option maxRecDepth 100000 in
set_option maxHeartbeats 8000000 in
theorem atag_any (w : World) (key nonce : List UInt8) (pa ps : Option Addr) (na ca ns cs : Nat) (A X : List UInt8) (ha : RowAt w pa A) (hx : RowAt w ps X) (hal : A.length = na) (hxl : X.length = ns) (hk : key.length = 32) (hn : nonce.length = 12) (ha9 : na < 1000000) (hs9 : ns < 1000000) :
    Calls Tryz.prog 142 #[.agg (bys (key ++ nonce)).toArray, .slice pa na ca, .slice ps ns cs] w fun e w' => ∃ g, w.heap.size ≤ g ∧ e = .returned (.slice (some ⟨g, 0, none⟩) 16 16) ∧ Blk w' g (bys (atagF key nonce A X)) tA16 ∧ Below w.heap.size w w' := by
  obtain ⟨ra, hra⟩ : ∃ x, na % 16 = x := ⟨_, rfl⟩
  obtain ⟨ta, hta⟩ : ∃ x, 16 - ra = x := ⟨_, rfl⟩
  obtain ⟨da, hda⟩ : ∃ x, padP na = x := ⟨_, rfl⟩
  have dae : ta % 16 = da := by rw [← hta, ← hra]; exact hda
  have na1 : (na : Int).tmod 16 = (ra : Int) := by rw [Int.tmod_eq_emod_of_nonneg (by omega)]; omega
  have na2 : (na : Int) % 16 = (ra : Int) := by omega
  have na3 : (16 : Int) - (ra : Int) = (ta : Int) := by omega
  have na4 : (ta : Int).tmod 16 = (da : Int) := by rw [Int.tmod_eq_emod_of_nonneg (by omega)]; omega
  have na5 : (ta : Int) % 16 = (da : Int) := by omega
  have na6 : 0 ≤ (ta : Int) := by omega
  have na7 : (ta : Int) ≤ 16 := by omega
  have na8 : da < 16 := by omega
  have na9 : 0 ≤ (da : Int) := by omega
  have na10 : (da : Int) ≤ 16 := by omega
  have na11 : IntKind.u64.wrap (na : Int) = (na : Int) := by rw [IntKind.wrap_u64]; omega
  have na12 : (na : Int) % 18446744073709551616 = (na : Int) := by omega
  have hmkda := fun W => mk_nulls W da (by omega)
  obtain ⟨rs, hrs⟩ : ∃ x, ns % 16 = x := ⟨_, rfl⟩
  obtain ⟨ts, hts⟩ : ∃ x, 16 - rs = x := ⟨_, rfl⟩
  obtain ⟨ds, hds⟩ : ∃ x, padP ns = x := ⟨_, rfl⟩
  have dse : ts % 16 = ds := by rw [← hts, ← hrs]; exact hds
  have ns1 : (ns : Int).tmod 16 = (rs : Int) := by rw [Int.tmod_eq_emod_of_nonneg (by omega)]; omega
  have ns2 : (ns : Int) % 16 = (rs : Int) := by omega
  have ns3 : (16 : Int) - (rs : Int) = (ts : Int) := by omega
  have ns4 : (ts : Int).tmod 16 = (ds : Int) := by rw [Int.tmod_eq_emod_of_nonneg (by omega)]; omega
  have ns5 : (ts : Int) % 16 = (ds : Int) := by omega
  have ns6 : 0 ≤ (ts : Int) := by omega
  have ns7 : (ts : Int) ≤ 16 := by omega
  have ns8 : ds < 16 := by omega
  have ns9 : 0 ≤ (ds : Int) := by omega
  have ns10 : (ds : Int) ≤ 16 := by omega
  have ns11 : IntKind.u64.wrap (ns : Int) = (ns : Int) := by rw [IntKind.wrap_u64]; omega
  have ns12 : (ns : Int) % 18446744073709551616 = (ns : Int) := by omega
  have hmkds := fun W => mk_nulls W ds (by omega)
  have hdef := hid (show atagF key nonce A X = poF (r0F ((blockF key nonce 0).take 32)) (s0F ((blockF key nonce 0).take 32)) ([] ++ A ++ List.replicate da 0 ++ X ++ List.replicate ds 0 ++ leF 8 na ++ leF 8 ns) by unfold atagF tagB; rw [hal, hxl, hda, hds])
  clear hra hta hda dae hrs hts hds dse
  have hS := Blk.new w (bys (key ++ nonce)) tSui
  have hB : Below w.heap.size w (w.alloc (.cells (bys (key ++ nonce)).toArray tSui)) := (Below.refl _ _).alloc (Nat.le_refl _) _
  obtain ⟨w1, hw1⟩ : ∃ w1, w.alloc (.cells (bys (key ++ nonce)).toArray tSui) = w1 := ⟨_, rfl⟩
  rw [hw1] at hS hB
  have ha1 := ha.below hB
  have hx1 := hx.below hB
  obtain ⟨hr1, hr2⟩ := sui_ranges hS hk hn
  have HW1 := hid hw1
  have hsK : (Tryz.prog.info? tA32).map (·.size) = some (bys key).length := by rw [size32b, bys_length, hk]
  have hsN : (Tryz.prog.info? tN12).map (·.size) = some (bys nonce).length := by rw [size12b, bys_length, hn]
  have Hal := hid hal
  have Hxl := hid hxl
  have hil := blockF_len key nonce 0
  have Hb := hid (fun w => chblock_any w key nonce 0 hk hn)
  obtain ⟨one, hone⟩ : ∃ R, blockF key nonce 0 = R := ⟨_, rfl⟩
  rw [hone] at hil hdef Hb
  clear hw1 hS ha hx hal hxl hone
  go_enter Tryz.func142, Tryz.ntmps142
  go_upto_region 1 with (fail)
  change Code.wp _ _ _ _ (w.alloc (.cells (bys (key ++ nonce)).toArray tSui))
  rw [HW1.out]
  clear HW1
  go_wp2_with (first | (refine wpList_load_mid rfl tA32 (.tmp 12) rfl w.heap.size 0 rfl (bys key) _ hr1 Tryz.underlying35 rfl hsK ?_) | (refine wpList_load_mid rfl tN12 (.tmp 14) rfl w.heap.size 32 rfl (bys nonce) _ hr2 Tryz.underlying183 rfl hsN ?_))
  refine (Hb.out w1).mono ?_
  rintro e w2 ⟨rfl, hB2⟩
  have ha2 := ha1.below hB2
  have hx2 := hx1.below hB2
  have hB2' := hB.trans (hB2.mono hB.size)
  have hz := Blk.new w2 (bys z64) tB64
  have hst := hid (hz.there 0 (bys one).toArray.size (by rw [List.size_toArray, bys_length, bys_length, hil]; decide))
  have hszR : (Tryz.prog.info? tB64).map (·.size) = some (bys one).toArray.size := by rw [size64, List.size_toArray, bys_length, hil]
  have hpo := hid (all_oneCell_toArray (bys_one one))
  obtain ⟨hA2, hC2⟩ := setAll2 hz (new := bys one) (by rw [bys_length, bys_length, hil]; rfl)
  have hBn : Below w2.heap.size w2 (w2.alloc (.cells (bys z64).toArray tB64)) := (Below.refl _ _).alloc (Nat.le_refl _) _
  have hBm : Below w2.heap.size w2 ((w2.alloc (.cells (bys z64).toArray tB64)).setCells w2.heap.size 0 (bys one)) := hBn.trans (hC2.below (M := w2.heap.size) (by simp) (fun k hk => by simp at hk; omega))
  obtain ⟨w3, hw3⟩ : ∃ w3, (w2.alloc (.cells (bys z64).toArray tB64)).setCells w2.heap.size 0 (bys one) = w3 := ⟨_, rfl⟩
  rw [hw3] at hA2 hBm
  have ha3 := ha2.below hBm
  have hx3 := hx2.below hBm
  have hB3' := hB2'.trans (hBm.mono hB2'.size)
  have HW3 := hid hw3
  have hrow := hA2.range 0 32
  have e32 : ((bys one).drop 0).take 32 = bys (one.take 32) := by simp [bys]
  rw [e32] at hrow
  have hl32 : (one.take 32).length = 32 := by rw [List.length_take]; omega
  have hs32 : (Tryz.prog.info? tA32).map (·.size) = some (bys (one.take 32)).length := by rw [size32b, bys_length, hl32]
  have harr := arr32 w2.heap.size 0 32 64 (by omega)
  clear hz hA2 hC2 hBn hBm hB2' hw3 ha1 hx1 ha2 hx2 hr1 hr2 hB2 e32
  go_upto_region 2 with (refine wpList_store_mid rfl tB64 (.tmp 7) (.tmp 16) rfl w2.heap.size 0 (bys one).toArray rfl rfl hst.out hszR hpo.out ?_)
  change Code.wp _ _ _ _ ((w2.alloc (.cells (bys z64).toArray tB64)).setCells w2.heap.size 0 (bys one))
  rw [HW3.out]
  clear HW3
  go_wp2_with (refine wpList_load_mid rfl tA32 (.tmp 18) rfl w2.heap.size 0 rfl (bys (one.take 32)) _ hrow Tryz.underlying35 rfl hs32 ?_)
  refine (pnew_any w3 (one.take 32) hl32).mono ?_
  rintro e w4 ⟨p, rfl, hP4, hB4⟩
  have hR : okP (r0F (one.take 32)) := halfF_ok _
  have hS : okP (s0F (one.take 32)) := halfF_ok _
  generalize r0F (one.take 32) = R at *
  generalize s0F (one.take 32) = S at *
  clear hrow hst hszR hpo hs32 harr hl32 hil hB Hb hsK hsN
  go_wp2_with fail
  have ix0 : ∀ W, (Instr.index 224 (.agg #[.slice pa na ca, .slice ps ns cs]) (.int .i64 0)).run Tryz.prog W = .ok (.slice pa na ca) W := fun W => by kernel_rfl
  have ix1 : ∀ W, (Instr.index 224 (.agg #[.slice pa na ca, .slice ps ns cs]) (.int .i64 1)).run Tryz.prog W = .ok (.slice ps ns cs) W := fun W => by kernel_rfl
  refine wp_loop_rounds 3 ?_
  rw [rounds_succ]
  go_wp2_with fail
  refine (pwrite_any w3.heap.size w4 p R S _ hP4 hR pa na ca A (ha3.below hB4) Hal.out (by omega) (by have := hB4.size; omega)).mono ?_
  rintro e w5 ⟨rfl, hP5, hD⟩
  have hB5 := hB4.trans hD
  clear hD hP4
  go_wp2_with fail
  have hz4 := Blk.new w5 (bys (List.replicate da 0)) 5
  have hB5a := hB5.alloc hB5.size (.cells (bys (List.replicate da 0)).toArray 5)
  have hPa := hP5.below ((Below.refl _ _).alloc (Nat.le_refl _) (.cells (bys (List.replicate da 0)).toArray 5))
  change Calls _ _ _ (w5.alloc (.cells (bys (List.replicate da 0)).toArray 5)) _
  refine (pwrite_any w3.heap.size _ p R S _ hPa hR _ da da (List.replicate da 0) hz4.rowAt0 (by simp) (by omega) (by have := hB5a.size; omega)).mono ?_
  rintro e w6 ⟨rfl, hP6, hD⟩
  have hB6 := hB5a.trans hD
  clear hD hPa hB5a hz4 hP5 hB5 hB4
  go_wp2_with fail
  rw [rounds_succ]
  go_wp2_with fail
  refine (pwrite_any w3.heap.size w6 p R S _ hP6 hR ps ns cs X (hx3.below hB6) Hxl.out (by omega) (by have := hB6.size; omega)).mono ?_
  rintro e w7 ⟨rfl, hP7, hD⟩
  have hB7 := hB6.trans hD
  clear hD hP6
  go_wp2_with fail
  have hz6 := Blk.new w7 (bys (List.replicate ds 0)) 5
  have hB7a := hB7.alloc hB7.size (.cells (bys (List.replicate ds 0)).toArray 5)
  have hPa := hP7.below ((Below.refl _ _).alloc (Nat.le_refl _) (.cells (bys (List.replicate ds 0)).toArray 5))
  change Calls _ _ _ (w7.alloc (.cells (bys (List.replicate ds 0)).toArray 5)) _
  refine (pwrite_any w3.heap.size _ p R S _ hPa hR _ ds ds (List.replicate ds 0) hz6.rowAt0 (by simp) (by omega) (by have := hB7a.size; omega)).mono ?_
  rintro e w8 ⟨rfl, hP8, hD⟩
  have hB8 := hB7a.trans hD
  clear hD hPa hB7a hz6 hP7 hB7 hB6
  go_wp2_with fail
  rw [rounds_succ]
  go_wp2_with fail
  refine (putlittle_any w8 na 8 (by omega) (by decide)).mono ?_
  rintro e w9 ⟨rfl, hz, hD⟩
  have hPa := hP8.below hD
  have hB9 := hB8.trans (hD.mono hB8.size)
  have hrw := hz.rowAt0
  generalize w8.heap.size + 1 = zb8 at *
  clear hD hz hP8 hB8
  go_wp2_with fail
  refine (pwrite_any w3.heap.size w9 p R S _ hPa hR _ 8 8 (leF 8 na) hrw (leF_len' 8 _) (by omega) (by have := hB9.size; omega)).mono ?_
  rintro e w10 ⟨rfl, hP10, hD⟩
  have hB10 := hB9.trans hD
  clear hD hPa hrw hB9
  go_wp2_with fail
  refine (putlittle_any w10 ns 8 (by omega) (by decide)).mono ?_
  rintro e w11 ⟨rfl, hz, hD⟩
  have hPa := hP10.below hD
  have hB11 := hB10.trans (hD.mono hB10.size)
  have hrw := hz.rowAt0
  generalize w10.heap.size + 1 = zb10 at *
  clear hD hz hP10 hB10
  go_wp2_with fail
  refine (pwrite_any w3.heap.size w11 p R S _ hPa hR _ 8 8 (leF 8 ns) hrw (leF_len' 8 _) (by omega) (by have := hB11.size; omega)).mono ?_
  rintro e w12 ⟨rfl, hP12, hD⟩
  have hB12 := hB11.trans hD
  clear hD hPa hrw hB11
  go_wp2_with fail
  refine (psumS_any w3.heap.size w12 p R S _ hP12 hR hS).mono ?_
  rintro e w13 ⟨rfl, hD⟩
  rw [← hdef.out]
  have hB13 := hB3'.trans ((hB12.trans (hD.mono hB12.size)).mono hB3'.size)
  clear hD hP12 hB12 hdef
  have htl := atagF_len key nonce A X
  obtain ⟨Tg, hTg⟩ : ∃ T, atagF key nonce A X = T := ⟨_, rfl⟩
  rw [hTg] at htl ⊢
  have HTg := hid hTg
  clear hTg
  have hz := Blk.new w13 (bys z16) tA16
  have hst := hid (hz.there 0 (bys Tg).toArray.size (by rw [List.size_toArray, bys_length, bys_length, htl]; decide))
  have hszR : (Tryz.prog.info? tA16).map (·.size) = some (bys Tg).toArray.size := by rw [size16p, List.size_toArray, bys_length, htl]
  have hpo := hid (all_oneCell_toArray (bys_one Tg))
  obtain ⟨hA2, hC2⟩ := setAll2 hz (new := bys Tg) (by rw [bys_length, bys_length, htl]; rfl)
  have hBn : Below w13.heap.size w13 (w13.alloc (.cells (bys z16).toArray tA16)) := (Below.refl _ _).alloc (Nat.le_refl _) _
  have hBm : Below w13.heap.size w13 ((w13.alloc (.cells (bys z16).toArray tA16)).setCells w13.heap.size 0 (bys Tg)) := hBn.trans (hC2.below (M := w13.heap.size) (by simp) (fun k hk => by simp at hk; omega))
  obtain ⟨w14, hw14⟩ : ∃ w14, (w13.alloc (.cells (bys z16).toArray tA16)).setCells w13.heap.size 0 (bys Tg) = w14 := ⟨_, rfl⟩
  rw [hw14] at hA2 hBm
  have hB14 := hB13.trans (hBm.mono hB13.size)
  have HW14 := hid hw14
  clear hz hC2 hBn hBm hw14
  go_upto_region 12 with (refine wpList_store_mid rfl tA16 (.tmp 11) (.tmp 52) rfl w13.heap.size 0 (bys Tg).toArray rfl rfl hst.out hszR hpo.out ?_)
  change Code.wp _ _ _ _ ((w13.alloc (.cells (bys z16).toArray tA16)).setCells w13.heap.size 0 (bys Tg))
  rw [HW14.out]
  clear HW14
  have hge := hB13.size
  generalize w13.heap.size = g at *
  go_wp2_with fail
  go_ret
  exact ⟨g, hge, rfl, by rw [HTg.out]; exact hA2, hB14⟩
end Go.Proofs.YtnmmnlffobnbfaaGreatDoor

/- aead: does, Seal, Open, walked (printed by gen_ae.py) -/
namespace Go.Proofs.YtnmmnlffobnbfaaGreatDoor
open Go.RowKit

theorem len32 {l : List UInt8} (h : l.length = 32) : ∃ k0 k1 k2 k3 k4 k5 k6 k7 k8 k9 k10 k11 k12 k13 k14 k15 k16 k17 k18 k19 k20 k21 k22 k23 k24 k25 k26 k27 k28 k29 k30 k31, l = [k0, k1, k2, k3, k4, k5, k6, k7, k8, k9, k10, k11, k12, k13, k14, k15, k16, k17, k18, k19, k20, k21, k22, k23, k24, k25, k26, k27, k28, k29, k30, k31] := by
  match l, h with
  | [k0, k1, k2, k3, k4, k5, k6, k7, k8, k9, k10, k11, k12, k13, k14, k15, k16, k17, k18, k19, k20, k21, k22, k23, k24, k25, k26, k27, k28, k29, k30, k31], _ => exact ⟨k0, k1, k2, k3, k4, k5, k6, k7, k8, k9, k10, k11, k12, k13, k14, k15, k16, k17, k18, k19, k20, k21, k22, k23, k24, k25, k26, k27, k28, k29, k30, k31, rfl⟩
theorem len12 {l : List UInt8} (h : l.length = 12) : ∃ n0 n1 n2 n3 n4 n5 n6 n7 n8 n9 n10 n11, l = [n0, n1, n2, n3, n4, n5, n6, n7, n8, n9, n10, n11] := by
  match l, h with
  | [n0, n1, n2, n3, n4, n5, n6, n7, n8, n9, n10, n11], _ => exact ⟨n0, n1, n2, n3, n4, n5, n6, n7, n8, n9, n10, n11, rfl⟩
theorem arr12 (b o n c : Nat) (hn : 12 ≤ n) (W : World) : (Instr.arrayAt tN12 (.slice (some ⟨b, o, none⟩) n c)).run Tryz.prog W = .ok (.pointer (some ⟨b, o, none⟩)) W := run_arrayAt W tN12 5 12 (some ⟨b, o, none⟩) n c Tryz.underlying183 hn
set_option maxRecDepth 100000 in
set_option maxHeartbeats 4000000 in
theorem adoes_one (w : World) (k0 k1 k2 k3 k4 k5 k6 k7 k8 k9 k10 k11 k12 k13 k14 k15 k16 k17 k18 k19 k20 k21 k22 k23 k24 k25 k26 k27 k28 k29 k30 k31 n0 n1 n2 n3 n4 n5 n6 n7 n8 n9 n10 n11 : UInt8) (pk pn : Option Addr) (ck cn : Nat) (hrk : RowAt w pk [k0, k1, k2, k3, k4, k5, k6, k7, k8, k9, k10, k11, k12, k13, k14, k15, k16, k17, k18, k19, k20, k21, k22, k23, k24, k25, k26, k27, k28, k29, k30, k31]) (hrn : RowAt w pn [n0, n1, n2, n3, n4, n5, n6, n7, n8, n9, n10, n11]) (F : Nat) (caps : Array Value) (R : Value → Value → World → Prop) (hcf : ∀ args w, (callFunc F args).run Tryz.prog w = .ok (.enter F args) w)
    (hF : ∀ W, Below w.heap.size w W → Calls Tryz.prog F (#[.agg ([B k0, B k1, B k2, B k3, B k4, B k5, B k6, B k7, B k8, B k9, B k10, B k11, B k12, B k13, B k14, B k15, B k16, B k17, B k18, B k19, B k20, B k21, B k22, B k23, B k24, B k25, B k26, B k27, B k28, B k29, B k30, B k31, B n0, B n1, B n2, B n3, B n4, B n5, B n6, B n7, B n8, B n9, B n10, B n11] : List Value).toArray] ++ caps) W fun e W' => ∃ a b, e = .returned (.tuple #[a, b]) ∧ R a b W') :
    Calls Tryz.prog 140 #[.slice pk 32 ck, .slice pn 12 cn, .func (.func F) #[] caps] w fun e w' => ∃ a b, e = .returned (.tuple #[a, b]) ∧ R a b w' := by
  obtain ⟨kb, ko, rfl, _, _⟩ := hrk 0 (by simp)
  obtain ⟨nb, no, rfl, _, _⟩ := hrn 0 (by simp)
  have ha1 := arr32 kb ko 32 ck (Nat.le_refl _)
  have ha2 := arr12 nb no 12 cn (Nat.le_refl _)
  have hsK : (Tryz.prog.info? tA32).map (·.size) = some ([B k0, B k1, B k2, B k3, B k4, B k5, B k6, B k7, B k8, B k9, B k10, B k11, B k12, B k13, B k14, B k15, B k16, B k17, B k18, B k19, B k20, B k21, B k22, B k23, B k24, B k25, B k26, B k27, B k28, B k29, B k30, B k31] : List Value).length := by rw [size32b]; rfl
  have hsN : (Tryz.prog.info? tN12).map (·.size) = some ([B n0, B n1, B n2, B n3, B n4, B n5, B n6, B n7, B n8, B n9, B n10, B n11] : List Value).length := by rw [size12b]; rfl
  have HF := hid hF
  have HK := hid hrk
  have HN := hid hrn
  have hBz := fun o => (Below.refl w.heap.size w).alloc (Nat.le_refl _) o
  clear hF hrk hrn
  go_enter Tryz.func140, Tryz.ntmps140
  go_wp2_with fail
  try simp only [Act.put]
  refine tkR (fun w' => Below w.heap.size w w') [8] (by kernel_rfl) (fun c a d v w h => by cases d <;> exact h) ((hBz _).drew) (fun hPF hHeld => ?_)
  refine tkB 0 (.some 17) _ _ rfl rfl (by kernel_rfl) (by kernel_rfl) (by kernel_rfl) (by kernel_rfl) hPF rfl (fun w' => by (go_simp; try with_reducible rfl)) hHeld (fun hHeld => ?_)
  simp only [Act.put, List.setIfInBounds_toArray, List.set_cons_zero, List.set_cons_succ]
  refine tkB 1 (.some 18) _ _ rfl rfl (by kernel_rfl) (by kernel_rfl) (by kernel_rfl) (by kernel_rfl) hPF rfl (fun w' => by (go_simp; try with_reducible rfl)) hHeld (fun hHeld => ?_)
  simp only [Act.put, List.setIfInBounds_toArray, List.set_cons_zero, List.set_cons_succ]
  refine tkA 2 (.some 19) _ (.pointer (some ⟨kb, ko, none⟩)) rfl rfl (by kernel_rfl) (by kernel_rfl) (by kernel_rfl) (by kernel_rfl) (by kernel_rfl) hPF rfl (fun w' hw' => by (go_simp)) hHeld (fun hHeld => ?_)
  simp only [Act.put, List.setIfInBounds_toArray, List.set_cons_zero, List.set_cons_succ]
  refine tkL 3 (.some 20) _ rfl rfl 35 (.tmp 19) rfl kb ko [B k0, B k1, B k2, B k3, B k4, B k5, B k6, B k7, B k8, B k9, B k10, B k11, B k12, B k13, B k14, B k15, B k16, B k17, B k18, B k19, B k20, B k21, B k22, B k23, B k24, B k25, B k26, B k27, B k28, B k29, B k30, B k31] _ (by kernel_rfl) (by kernel_rfl) (by kernel_rfl) (by kernel_rfl) (by kernel_rfl) hPF rfl rfl (fun w' hw' => (HK.out.below hw').range) Tryz.underlying35 rfl hsK hHeld (fun hHeld => ?_)
  simp only [Act.put, List.setIfInBounds_toArray, List.set_cons_zero, List.set_cons_succ]
  refine tkB 4 (.some 21) _ _ rfl rfl (by kernel_rfl) (by kernel_rfl) (by kernel_rfl) (by kernel_rfl) hPF rfl (fun w' => by (go_simp; try with_reducible rfl)) hHeld (fun hHeld => ?_)
  simp only [Act.put, List.setIfInBounds_toArray, List.set_cons_zero, List.set_cons_succ]
  refine tkA 5 (.some 22) _ (.pointer (some ⟨nb, no, none⟩)) rfl rfl (by kernel_rfl) (by kernel_rfl) (by kernel_rfl) (by kernel_rfl) (by kernel_rfl) hPF rfl (fun w' hw' => by (go_simp)) hHeld (fun hHeld => ?_)
  simp only [Act.put, List.setIfInBounds_toArray, List.set_cons_zero, List.set_cons_succ]
  refine tkL 6 (.some 23) _ rfl rfl 183 (.tmp 22) rfl nb no [B n0, B n1, B n2, B n3, B n4, B n5, B n6, B n7, B n8, B n9, B n10, B n11] _ (by kernel_rfl) (by kernel_rfl) (by kernel_rfl) (by kernel_rfl) (by kernel_rfl) hPF rfl rfl (fun w' hw' => (HN.out.below hw').range) Tryz.underlying183 rfl hsN hHeld (fun hHeld => ?_)
  simp only [Act.put, List.setIfInBounds_toArray, List.set_cons_zero, List.set_cons_succ]
  refine tkB 7 (.some 24) _ _ rfl rfl (by kernel_rfl) (by kernel_rfl) (by kernel_rfl) (by kernel_rfl) hPF rfl (fun w' => by (go_simp; try with_reducible rfl)) hHeld (fun hHeld => ?_)
  simp only [Act.put, List.setIfInBounds_toArray, List.set_cons_zero, List.set_cons_succ]
  refine tkW (rs := [8]) (by kernel_rfl) (by simp) (AllK.close (o := _) rfl (by kernel_rfl) (fun KC hKC => ?_) AllK.nil)
  go_simp
  have hS := hHeld (by kernel_rfl)
  refine (HF.out _ hS).mono ?_
  rintro e w2 ⟨a, b, rfl, hR⟩
  refine hKC.out _ _ (fun hHeld => ?_)
  clear hKC KC
  try simp only [Act.put, List.setIfInBounds_toArray, List.set_cons_zero, List.set_cons_succ]
  refine tkB 9 (.some 26) _ _ rfl rfl (by kernel_rfl) (by kernel_rfl) (by kernel_rfl) (by kernel_rfl) hPF rfl (fun w' => by (go_simp; try with_reducible rfl)) hHeld (fun hHeld => ?_)
  simp only [Act.put, List.setIfInBounds_toArray, List.set_cons_zero, List.set_cons_succ]
  refine tkB 10 (.some 27) _ _ rfl rfl (by kernel_rfl) (by kernel_rfl) (by kernel_rfl) (by kernel_rfl) hPF rfl (fun w' => by (go_simp; try with_reducible rfl)) hHeld (fun hHeld => ?_)
  simp only [Act.put, List.setIfInBounds_toArray, List.set_cons_zero, List.set_cons_succ]
  refine tkB 11 (.some 6) _ _ rfl rfl (by kernel_rfl) (by kernel_rfl) (by kernel_rfl) (by kernel_rfl) hPF rfl (fun w' => by (go_simp; try with_reducible rfl)) hHeld (fun hHeld => ?_)
  simp only [Act.put, List.setIfInBounds_toArray, List.set_cons_zero, List.set_cons_succ]
  refine tkB 12 (.some 7) _ _ rfl rfl (by kernel_rfl) (by kernel_rfl) (by kernel_rfl) (by kernel_rfl) hPF rfl (fun w' => by (go_simp; try with_reducible rfl)) hHeld (fun hHeld => ?_)
  simp only [Act.put, List.setIfInBounds_toArray, List.set_cons_zero, List.set_cons_succ]
  refine tkD (by kernel_rfl) ?_ _
  go_wp2_with fail
  go_ret2
  exact ⟨a, b, rfl, hR⟩
theorem adoes_any (w : World) (key nonce : List UInt8) (hk : key.length = 32) (hn : nonce.length = 12) (pk pn : Option Addr) (ck cn : Nat) (hrk : RowAt w pk key) (hrn : RowAt w pn nonce) (F : Nat) (caps : Array Value) (R : Value → Value → World → Prop) (hcf : ∀ args w, (callFunc F args).run Tryz.prog w = .ok (.enter F args) w)
    (hF : ∀ W, Below w.heap.size w W → Calls Tryz.prog F (#[.agg (bys (key ++ nonce)).toArray] ++ caps) W fun e W' => ∃ a b, e = .returned (.tuple #[a, b]) ∧ R a b W') :
    Calls Tryz.prog 140 #[.slice pk 32 ck, .slice pn 12 cn, .func (.func F) #[] caps] w fun e w' => ∃ a b, e = .returned (.tuple #[a, b]) ∧ R a b w' := by
  obtain ⟨k0, k1, k2, k3, k4, k5, k6, k7, k8, k9, k10, k11, k12, k13, k14, k15, k16, k17, k18, k19, k20, k21, k22, k23, k24, k25, k26, k27, k28, k29, k30, k31, rfl⟩ := len32 hk
  obtain ⟨n0, n1, n2, n3, n4, n5, n6, n7, n8, n9, n10, n11, rfl⟩ := len12 hn
  exact adoes_one w k0 k1 k2 k3 k4 k5 k6 k7 k8 k9 k10 k11 k12 k13 k14 k15 k16 k17 k18 k19 k20 k21 k22 k23 k24 k25 k26 k27 k28 k29 k30 k31 n0 n1 n2 n3 n4 n5 n6 n7 n8 n9 n10 n11 pk pn ck cn hrk hrn F caps R hcf hF

/-- What ChaCha20-Poly1305 seals to, and opens to. -/
def sealC (key nonce aad b : List UInt8) : List UInt8 := cryC key nonce 1 b ++ atagF key nonce aad (cryC key nonce 1 b)
def openC (key nonce aad b : List UInt8) : Option (List UInt8) := if b.drop (b.length - 16) = atagF key nonce aad (b.take (b.length - 16)) then some (cryC key nonce 1 (b.take (b.length - 16))) else none
theorem sealC_len (key nonce aad b : List UInt8) : (sealC key nonce aad b).length = b.length + 16 := by unfold sealC; rw [List.length_append, cryC_len, atagF_len]
theorem openC_seal (key nonce aad b : List UInt8) : openC key nonce aad (sealC key nonce aad b) = some b := by
  unfold openC
  rw [sealC_len]
  unfold sealC
  rw [show b.length + 16 - 16 = (cryC key nonce 1 b).length by rw [cryC_len]; omega, List.drop_left, List.take_left, if_pos rfl, cryC_back]
set_option maxRecDepth 100000 in
set_option maxHeartbeats 4000000 in
theorem aseal1_any (w : World) (key nonce : List UInt8) (hk : key.length = 32) (hn : nonce.length = 12) (bb ab : Nat) (pa : Option Addr) (na ca : Nat) (A : List UInt8) (ha : RowAt w pa A) (hal : A.length = na) (ha9 : na < 1000000)
    (pb : Option Addr) (m cb : Nat) (b : List UInt8) (hb : RowAt w pb b) (hm : b.length = m) (hm9 : m < 1000000) (h1 : Blk w bb [.slice pb m cb] tBytes) (h2 : Blk w ab [.slice pa na ca] tBytes) :
    Calls Tryz.prog 144 #[.agg (bys (key ++ nonce)).toArray, .pointer (some ⟨bb, 0, none⟩), .pointer (some ⟨ab, 0, none⟩)] w fun e w' => ∃ v, e = .returned (.tuple #[v, .int .i64 0]) ∧ OwnR w.heap.size w' v (sealC key nonce A b) ∧ Below w.heap.size w w' := by
  have h0 := Blk.new w (bys (key ++ nonce)) tSui
  have hB0 : Below w.heap.size w (w.alloc (.cells (bys (key ++ nonce)).toArray tSui)) := (Below.refl _ _).alloc (Nat.le_refl _) _
  have hsc : (Tryz.prog.info? tSui).map (·.size) = some (bys (key ++ nonce)).length := by rw [sizeSui, bys_length, List.length_append, hk, hn]
  have h1 := h1.below hB0 h1.lt
  have h2 := h2.below hB0 h2.lt
  have c1 := h1.cell 0
  have c2 := h2.cell 0
  simp only [List.getElem?_cons_zero] at c1 c2
  have Ha := hid (ha.below hB0)
  have Hb := hid (hb.below hB0)
  have Hm := hid hm
  have Hal := hid hal
  have hw0 := h0.whole
  obtain ⟨w1, hw1⟩ : ∃ w1, w.alloc (.cells (bys (key ++ nonce)).toArray tSui) = w1 := ⟨_, rfl⟩
  rw [hw1] at h0 hB0 h1 h2 c1 c2 Ha Hb hw0
  have HW1 := hid hw1
  clear ha hb hm hal hw1
  go_enter Tryz.func144, Tryz.ntmps144
  go_upto_region 1 with fail
  change Code.wp _ _ _ _ (w.alloc (.cells (bys (key ++ nonce)).toArray tSui))
  rw [HW1.out]
  clear HW1
  go_wp2_with (refine wpList_load_mid rfl tSui (.tmp 3) rfl w.heap.size 0 rfl (bys (key ++ nonce)) _ hw0 Tryz.underlying185 rfl hsc ?_)
  refine (crypted_any w1 key nonce pb m cb b Hb.out Hm.out hk hn hm9).mono ?_
  rintro e w2 ⟨g, hg, rfl, hA2, hB2⟩
  have h0 := h0.below hB2 h0.lt
  have h2 := h2.below hB2 h2.lt
  have Ha2 := hid (Ha.out.below hB2)
  have c2 := h2.cell 0
  simp only [List.getElem?_cons_zero] at c2
  have hw0 := h0.whole
  have hB3 := hB0.trans (hB2.mono hB0.size)
  have hXl := cryC_len key nonce 1 b
  rw [Hm.out] at hXl
  have hsg := hid (show sealC key nonce A b = cryC key nonce 1 b ++ atagF key nonce A (cryC key nonce 1 b) from rfl)
  generalize cryC key nonce 1 b = X at *
  have hown := OwnR.ofBlk (base := w.heap.size) hA2 (by have := hB0.size; omega) hXl (by omega)
  have hrX := hA2.rowAt0
  have hlt := hA2.lt
  clear hB2 h1 c1 Ha Hb hB0
  go_wp2_with (refine wpList_load_mid rfl tSui (.tmp 3) rfl w.heap.size 0 rfl (bys (key ++ nonce)) _ hw0 Tryz.underlying185 rfl hsc ?_)
  refine (atag_any w2 key nonce pa (some ⟨g, 0, none⟩) na ca m m A X Ha2.out hrX Hal.out hXl hk hn ha9 hm9).mono ?_
  rintro e w3 ⟨g3, hg3, rfl, hA3, hB4⟩
  have hO3 := hown.below hB4
  have hB5 := hB3.trans (hB4.mono hB3.size)
  have hr3 := hA3.rowAt0
  have htl := atagF_len key nonce A X
  generalize atagF key nonce A X = G at *
  clear hA3 hown hrX hA2
  have hlx : X.length + 16 ≤ 140737488355328 := by omega
  have hsz := hB5.size
  go_wp2_with (refine wpList_addO hO3 rfl (.tmp 10) (.tmp 14) rfl rfl (some ⟨g3, 0, none⟩) 16 16 G rfl hr3 htl hlx hsz ?_; intro v4 w4 hO4 hg4 _)
  have hB6 := hB5.trans (below_grown hg4 (N := w.heap.size) hsz (fun j e => (hO3.lt j e).1))
  go_ret2
  exact ⟨v4, rfl, by rw [hsg.out]; exact hO4, hB6⟩
theorem callaseal1 (args : Array Value) (w : World) : (callFunc 144 args).run Tryz.prog w = .ok (.enter 144 args) w := by kernel_rfl
theorem callaopen1 (args : Array Value) (w : World) : (callFunc 141 args).run Tryz.prog w = .ok (.enter 141 args) w := by kernel_rfl

set_option maxRecDepth 100000 in
set_option maxHeartbeats 4000000 in
theorem aopen1_any (w : World) (key nonce : List UInt8) (hk : key.length = 32) (hn : nonce.length = 12) (bb ab : Nat) (pa : Option Addr) (na ca : Nat) (A : List UInt8) (ha : RowAt w pa A) (hal : A.length = na) (ha9 : na < 1000000)
    (pb : Option Addr) (m cb : Nat) (b : List UInt8) (hb : RowAt w pb b) (hm : b.length = m) (hm9 : m < 1000000) (hmc : m ≤ cb) (h16 : 16 ≤ m) (h1 : Blk w bb [.slice pb m cb] tBytes) (h2 : Blk w ab [.slice pa na ca] tBytes) :
    Calls Tryz.prog 141 #[.agg (bys (key ++ nonce)).toArray, .pointer (some ⟨bb, 0, none⟩), .pointer (some ⟨ab, 0, none⟩)] w fun e w' => ∃ v er, e = .returned (.tuple #[v, er]) ∧ OpenA w.heap.size w' v er b (openC key nonce A b) ∧ Below w.heap.size w w' := by
  have h0 := Blk.new w (bys (key ++ nonce)) tSui
  have hB0 : Below w.heap.size w (w.alloc (.cells (bys (key ++ nonce)).toArray tSui)) := (Below.refl _ _).alloc (Nat.le_refl _) _
  have hsc : (Tryz.prog.info? tSui).map (·.size) = some (bys (key ++ nonce)).length := by rw [sizeSui, bys_length, List.length_append, hk, hn]
  have h1 := h1.below hB0 h1.lt
  have h2 := h2.below hB0 h2.lt
  have Ha := hid (ha.below hB0)
  have Hb := hid (hb.below hB0)
  have Hm := hid hm
  have Hal := hid hal
  clear ha hb hm hal
  obtain ⟨n', hn'⟩ : ∃ n', m - 16 = n' := ⟨_, rfl⟩
  have q1 : (m : Int) - 16 = (n' : Int) := by omega
  have q2 : ¬ ((n' : Int) < 0) := by omega
  obtain ⟨bo, oo, rfl, _, _⟩ := Hb.out 0 (by rw [Hm.out]; omega)
  have q3 : (n' : Int) ≤ (m : Int) := by omega
  have q4 : 0 ≤ (n' : Int) := by omega
  have q5 : ¬ cb = n' := by omega
  have q6 : m - n' = 16 := by omega
  have q7 : n' ≤ m := by omega
  have q8 : n' ≤ cb := by omega
  have q9 : (n' : Int) ≤ (cb : Int) := by omega
  have hwr : IntKind.i64.wrap (n' : Int) = (n' : Int) := by rw [IntKind.wrap_i64]; omega
  obtain ⟨t, ht⟩ : ∃ t, b.take n' = t := ⟨_, rfl⟩
  obtain ⟨d, hd⟩ : ∃ d, b.drop n' = d := ⟨_, rfl⟩
  have htl : t.length = n' := by rw [← ht, List.length_take, Hm.out]; omega
  have hdl : d.length = 16 := by rw [← hd, List.length_drop, Hm.out]; omega
  have hog : openC key nonce A b = if d = atagF key nonce A t then some (cryC key nonce 1 t) else none := by unfold openC; rw [Hm.out, hn', ht, hd]
  have hTl := atagF_len key nonce A t
  obtain ⟨T, hT⟩ : ∃ T, atagF key nonce A t = T := ⟨_, rfl⟩
  rw [hT] at hog hTl
  have HT := hid hT
  have Hog := hid hog
  have Ht := hid ht
  have Hd := hid hd
  clear hT hog ht hd hn'
  have c1 := h1.cell 0
  simp only [List.getElem?_cons_zero] at c1
  go_enter Tryz.func141, Tryz.ntmps141
  go_wp2_with fail
  change Code.wp _ _ _ _ (w.alloc (.cells (bys (key ++ nonce)).toArray tSui))
  generalize w.alloc (.cells (bys (key ++ nonce)).toArray tSui) = w1 at *
  have hbd : Below w1.heap.size w1 w1.drew := (Below.refl _ _).drew
  try simp only [Act.put]
  refine tkR (fun w' => Below w1.heap.size w1 w') [] (by kernel_rfl) (fun c a d v w h => by cases d <;> exact h) (hbd) (fun hPF hHeld => ?_)
  refine tkA 0 (.some 14) _ _ rfl rfl (by kernel_rfl) (by kernel_rfl) (by kernel_rfl) (by kernel_rfl) (by kernel_rfl) hPF rfl (fun w' hw' => by (have q := (h1.below hw' h1.lt).cell 0; simp only [List.getElem?_cons_zero] at q; go_simp; try with_reducible rfl)) hHeld (fun hHeld => ?_)
  simp only [Act.put, List.setIfInBounds_toArray, List.set_cons_zero, List.set_cons_succ]
  refine tkB 1 (.some 15) _ _ rfl rfl (by kernel_rfl) (by kernel_rfl) (by kernel_rfl) (by kernel_rfl) hPF rfl (fun w' => by (go_simp; try with_reducible rfl)) hHeld (fun hHeld => ?_)
  simp only [Act.put, List.setIfInBounds_toArray, List.set_cons_zero, List.set_cons_succ]
  refine tkB 2 (.some 16) _ _ rfl rfl (by kernel_rfl) (by kernel_rfl) (by kernel_rfl) (by kernel_rfl) hPF rfl (fun w' => by (go_simp; try with_reducible rfl)) hHeld (fun hHeld => ?_)
  simp only [Act.put, List.setIfInBounds_toArray, List.set_cons_zero, List.set_cons_succ]
  refine tkL 3 (.some 17) _ rfl rfl 185 (.tmp 3) rfl w.heap.size 0 (bys (key ++ nonce)) _ (by kernel_rfl) (by kernel_rfl) (by kernel_rfl) (by kernel_rfl) (by kernel_rfl) hPF rfl rfl (fun w' hw' => (h0.below hw' h0.lt).whole) Tryz.underlying185 rfl hsc hHeld (fun hHeld => ?_)
  simp only [Act.put, List.setIfInBounds_toArray, List.set_cons_zero, List.set_cons_succ]
  refine tkA 4 (.some 18) _ _ rfl rfl (by kernel_rfl) (by kernel_rfl) (by kernel_rfl) (by kernel_rfl) (by kernel_rfl) hPF rfl (fun w' hw' => by (have q := (h2.below hw' h2.lt).cell 0; simp only [List.getElem?_cons_zero] at q; go_simp; try with_reducible rfl)) hHeld (fun hHeld => ?_)
  simp only [Act.put, List.setIfInBounds_toArray, List.set_cons_zero, List.set_cons_succ]
  refine tkA 5 (.some 19) _ _ rfl rfl (by kernel_rfl) (by kernel_rfl) (by kernel_rfl) (by kernel_rfl) (by kernel_rfl) hPF rfl (fun w' hw' => by (have q := (h1.below hw' h1.lt).cell 0; simp only [List.getElem?_cons_zero] at q; go_simp; try with_reducible rfl)) hHeld (fun hHeld => ?_)
  simp only [Act.put, List.setIfInBounds_toArray, List.set_cons_zero, List.set_cons_succ]
  refine tkB 6 (.some 20) _ _ rfl rfl (by kernel_rfl) (by kernel_rfl) (by kernel_rfl) (by kernel_rfl) hPF rfl (fun w' => by (go_simp; try with_reducible rfl)) hHeld (fun hHeld => ?_)
  simp only [Act.put, List.setIfInBounds_toArray, List.set_cons_zero, List.set_cons_succ]
  refine tkB 7 (.some 21) _ _ rfl rfl (by kernel_rfl) (by kernel_rfl) (by kernel_rfl) (by kernel_rfl) hPF rfl (fun w' => by (go_simp; try with_reducible rfl)) hHeld (fun hHeld => ?_)
  simp only [Act.put, List.setIfInBounds_toArray, List.set_cons_zero, List.set_cons_succ]
  have hS := hHeld (by kernel_rfl)
  refine tkW (rs := [8]) (by kernel_rfl) (by simp) (AllK.cons (o := _) rfl (fun KC hKC => ?_) AllK.nil)
  go_simp
  refine (atag_any _ key nonce pa (some ⟨bo, oo, none⟩) na ca n' cb A t (Ha.out.below hS) (((Hb.out.below hS).take n').congr Ht.out) Hal.out htl hk hn ha9 (by omega)).mono ?_
  rintro e w2 ⟨g, hg, rfl, hrT, hB2⟩
  rw [HT.out] at hrT
  have hS2 := hS.trans (hB2.mono hS.size)
  refine hKC.out _ _ (hS2) (fun hHeld => ?_)
  clear hKC KC
  try simp only [Act.put, List.setIfInBounds_toArray, List.set_cons_zero, List.set_cons_succ]
  have hS := hHeld (by kernel_rfl)
  refine tkW (rs := [9]) (by kernel_rfl) (by simp) (AllK.cons (o := _) rfl (fun KC hKC => ?_) AllK.nil)
  go_simp
  refine (equal_any _ (some ⟨bo, oo + n', none⟩) (some ⟨g, 0, none⟩) 16 (cb - n') 16 d T (((Hb.out.below hS2).drop n').congr Hd.out) hrT.rowAt0 hdl hTl (by omega)).mono ?_
  rintro e w3 ⟨rfl, hB3⟩
  have hS3 := hS2.trans (hB3.mono hS2.size)
  obtain ⟨eqb, heqb⟩ : ∃ z, decide (d = T) = z := ⟨_, rfl⟩
  rw [heqb]
  have Heqb := hid heqb
  clear heqb
  refine hKC.out _ _ (hS3) (fun hHeld => ?_)
  clear hKC KC
  try simp only [Act.put, List.setIfInBounds_toArray, List.set_cons_zero, List.set_cons_succ]
  refine tkB 10 (.some 24) _ _ rfl rfl (by kernel_rfl) (by kernel_rfl) (by kernel_rfl) (by kernel_rfl) hPF rfl (fun w' => by (go_simp; try with_reducible rfl)) hHeld (fun hHeld => ?_)
  simp only [Act.put, List.setIfInBounds_toArray, List.set_cons_zero, List.set_cons_succ]
  refine tkB 11 (.some 13) _ _ rfl rfl (by kernel_rfl) (by kernel_rfl) (by kernel_rfl) (by kernel_rfl) hPF rfl (fun w' => by (go_simp; try with_reducible rfl)) hHeld (fun hHeld => ?_)
  simp only [Act.put, List.setIfInBounds_toArray, List.set_cons_zero, List.set_cons_succ]
  refine tkD (by kernel_rfl) ?_ _
  have hBw := hB0.trans (hS3.mono hB0.size)
  have h16n : ¬ b.length < 16 := by rw [Hm.out]; omega
  cases eqb with
  | true =>
    have hdT : d = T := of_decide_eq_true Heqb.out
    have hog := Hog.out
    rw [if_pos hdT] at hog
    have Hog2 := hid hog
    have h0 := h0.below hS3 h0.lt
    have h1 := h1.below hS3 h1.lt
    have hb3 := Hb.out.below hS3
    have hs3 := hS3.size
    have ls := hBw.size
    clear hS2 hHeld hPF hbd hrT hog hdT
    go_wp2_with fail
    have hbd : Below w3.heap.size w3 w3.drew := (Below.refl _ _).drew
    try simp only [Act.put]
    refine tkR (fun w' => Below w3.heap.size w3 w') [] (by kernel_rfl) (fun c a d v w h => by cases d <;> exact h) (hbd) (fun hPF hHeld => ?_)
    refine tkL 0 (.some 25) _ rfl rfl 185 (.tmp 3) rfl w.heap.size 0 (bys (key ++ nonce)) _ (by kernel_rfl) (by kernel_rfl) (by kernel_rfl) (by kernel_rfl) (by kernel_rfl) hPF rfl rfl (fun w' hw' => (h0.below hw' h0.lt).whole) Tryz.underlying185 rfl hsc hHeld (fun hHeld => ?_)
    simp only [Act.put, List.setIfInBounds_toArray, List.set_cons_zero, List.set_cons_succ]
    refine tkA 1 (.some 26) _ _ rfl rfl (by kernel_rfl) (by kernel_rfl) (by kernel_rfl) (by kernel_rfl) (by kernel_rfl) hPF rfl (fun w' hw' => by (have q := (h1.below hw' h1.lt).cell 0; simp only [List.getElem?_cons_zero] at q; go_simp; try with_reducible rfl)) hHeld (fun hHeld => ?_)
    simp only [Act.put, List.setIfInBounds_toArray, List.set_cons_zero, List.set_cons_succ]
    refine tkB 2 (.some 27) _ _ rfl rfl (by kernel_rfl) (by kernel_rfl) (by kernel_rfl) (by kernel_rfl) hPF rfl (fun w' => by (go_simp; try with_reducible rfl)) hHeld (fun hHeld => ?_)
    simp only [Act.put, List.setIfInBounds_toArray, List.set_cons_zero, List.set_cons_succ]
    refine tkB 3 (.some 28) _ _ rfl rfl (by kernel_rfl) (by kernel_rfl) (by kernel_rfl) (by kernel_rfl) hPF rfl (fun w' => by (go_simp; try with_reducible rfl)) hHeld (fun hHeld => ?_)
    simp only [Act.put, List.setIfInBounds_toArray, List.set_cons_zero, List.set_cons_succ]
    have hS := hHeld (by kernel_rfl)
    refine tkW (rs := [4]) (by kernel_rfl) (by simp) (AllK.cons (o := _) rfl (fun KC hKC => ?_) AllK.nil)
    go_simp
    refine (crypted_any _ key nonce (some ⟨bo, oo, none⟩) n' cb t (((hb3.below hS).take n').congr Ht.out) htl hk hn (by omega)).mono ?_
    rintro e w4 ⟨g4, hg4, rfl, hA4, hB4⟩
    have hS4 := hS.trans (hB4.mono hS.size)
    have hsz4 := hS.size
    refine hKC.out _ _ (hS4) (fun hHeld => ?_)
    clear hKC KC
    try simp only [Act.put, List.setIfInBounds_toArray, List.set_cons_zero, List.set_cons_succ]
    refine tkB 5 (.some 4) _ _ rfl rfl (by kernel_rfl) (by kernel_rfl) (by kernel_rfl) (by kernel_rfl) hPF rfl (fun w' => by (go_simp; try with_reducible rfl)) hHeld (fun hHeld => ?_)
    simp only [Act.put, List.setIfInBounds_toArray, List.set_cons_zero, List.set_cons_succ]
    refine tkB 6 (.some 5) _ _ rfl rfl (by kernel_rfl) (by kernel_rfl) (by kernel_rfl) (by kernel_rfl) hPF rfl (fun w' => by (go_simp; try with_reducible rfl)) hHeld (fun hHeld => ?_)
    simp only [Act.put, List.setIfInBounds_toArray, List.set_cons_zero, List.set_cons_succ]
    refine tkD (by kernel_rfl) ?_ _
    have hXl := cryC_len key nonce 1 t
    rw [htl] at hXl
    have hown := OwnR.ofBlk (base := w.heap.size) hA4 (by omega) hXl (by omega)
    have Hown := hid hown
    clear hown hA4 hB4
    go_wp2_with fail
    go_ret2
    exact ⟨_, _, rfl, by unfold OpenA; rw [if_neg h16n, Hog2.out]; exact ⟨rfl, Hown.out⟩, hBw.trans (hS4.mono hBw.size)⟩
  | false =>
    have hdT : ¬ d = T := of_decide_eq_false Heqb.out
    have hog := Hog.out
    rw [if_neg hdT] at hog
    have Hog2 := hid hog
    clear hog hdT
    go_wp2_with fail
    go_ret2
    exact ⟨_, _, rfl, by unfold OpenA; rw [if_neg h16n, Hog2.out]; exact ⟨rfl, rfl⟩, hBw⟩
structure Box2 (w W : World) (x y : Value) : Prop where
  a : Blk W w.heap.size [x] tBytes
  b : Blk W (w.heap.size + 1) [y] tBytes
  B : Below w.heap.size w W
theorem box2_new (w : World) (x y : Value) : Box2 w ((w.alloc (.cells #[x] tBytes)).alloc (.cells #[y] tBytes)) x y :=
  ⟨(Blk.new w [x] tBytes).alloc _, by have := Blk.new (w.alloc (.cells #[x] tBytes)) [y] tBytes; simpa using this, ((Below.refl _ _).alloc (Nat.le_refl _) _).alloc (by simp) _⟩
set_option maxRecDepth 100000 in
set_option maxHeartbeats 4000000 in
theorem aseal_any (w : World) (key nonce : List UInt8) (hk : key.length = 32) (hn : nonce.length = 12) (pk pn : Option Addr) (ck cn : Nat) (hrk : RowAt w pk key) (hrn : RowAt w pn nonce) (pa : Option Addr) (na ca : Nat) (A : List UInt8) (ha : RowAt w pa A) (hal : A.length = na) (ha9 : na < 1000000)
    (pb : Option Addr) (m cb : Nat) (b : List UInt8) (hb : RowAt w pb b) (hm : b.length = m) (hm9 : m < 1000000) :
    Calls Tryz.prog 96 #[.slice pk 32 ck, .slice pn 12 cn, .slice pa na ca, .slice pb m cb] w fun e w' => ∃ v, e = .returned (.tuple #[v, .int .i64 0]) ∧ OwnR w.heap.size w' v (sealC key nonce A b) ∧ Below w.heap.size w w' := by
  have hX := box2_new w (.slice pa na ca) (.slice pb m cb)
  have Hrk := hid hrk
  have Hrn := hid hrn
  have Ha := hid ha
  have Hb := hid hb
  have Hm := hid hm
  have Hal := hid hal
  clear ha hb hm hal hrk hrn
  go_enter Tryz.func96, Tryz.ntmps96
  go_wp2_with fail
  change Calls _ _ _ ((w.alloc (.cells #[.slice pa na ca] tBytes)).alloc (.cells #[.slice pb m cb] tBytes)) _
  generalize ((w.alloc (.cells #[.slice pa na ca] tBytes)).alloc (.cells #[.slice pb m cb] tBytes)) = W at *
  refine (adoes_any W key nonce hk hn pk pn ck cn (Hrk.out.below hX.B) (Hrn.out.below hX.B) 144 _ (fun v e W' => e = .int .i64 0 ∧ OwnR w.heap.size W' v (sealC key nonce A b) ∧ Below w.heap.size w W') callaseal1 (fun W2 hB2 => ?_)).mono ?_
  · have hBB := hX.B.trans (hB2.mono hX.B.size)
    refine (aseal1_any W2 key nonce hk hn (w.heap.size + 1) w.heap.size pa na ca A (Ha.out.below hBB) Hal.out ha9 pb m cb b (Hb.out.below hBB) Hm.out hm9 (hX.b.below hB2 hX.b.lt) (hX.a.below hB2 hX.a.lt)).mono ?_
    rintro e W3 ⟨v, rfl, hown, hB3⟩
    exact ⟨v, _, rfl, rfl, hown.mono hBB.size, hBB.trans (hB3.mono hBB.size)⟩
  · rintro e w2 ⟨v, e2, rfl, rfl, hown, hB⟩
    go_wp2_with fail
    go_ret2
    exact ⟨v, rfl, hown, hB⟩
set_option maxRecDepth 100000 in
set_option maxHeartbeats 4000000 in
theorem aopen_any (w : World) (key nonce : List UInt8) (hk : key.length = 32) (hn : nonce.length = 12) (pk pn : Option Addr) (ck cn : Nat) (hrk : RowAt w pk key) (hrn : RowAt w pn nonce) (pa : Option Addr) (na ca : Nat) (A : List UInt8) (ha : RowAt w pa A) (hal : A.length = na) (ha9 : na < 1000000)
    (pb : Option Addr) (m cb : Nat) (b : List UInt8) (hb : RowAt w pb b) (hm : b.length = m) (hm9 : m < 1000000) (hmc : m ≤ cb) (h16 : 16 ≤ m) :
    Calls Tryz.prog 95 #[.slice pk 32 ck, .slice pn 12 cn, .slice pa na ca, .slice pb m cb] w fun e w' => ∃ v er, e = .returned (.tuple #[v, er]) ∧ OpenA w.heap.size w' v er b (openC key nonce A b) ∧ Below w.heap.size w w' := by
  have hX := box2_new w (.slice pa na ca) (.slice pb m cb)
  have Hrk := hid hrk
  have Hrn := hid hrn
  have Ha := hid ha
  have Hb := hid hb
  have Hm := hid hm
  have Hal := hid hal
  clear ha hb hm hal hrk hrn
  go_enter Tryz.func95, Tryz.ntmps95
  go_wp2_with fail
  change Calls _ _ _ ((w.alloc (.cells #[.slice pa na ca] tBytes)).alloc (.cells #[.slice pb m cb] tBytes)) _
  generalize ((w.alloc (.cells #[.slice pa na ca] tBytes)).alloc (.cells #[.slice pb m cb] tBytes)) = W at *
  refine (adoes_any W key nonce hk hn pk pn ck cn (Hrk.out.below hX.B) (Hrn.out.below hX.B) 141 _ (fun v e W' => OpenA w.heap.size W' v e b (openC key nonce A b) ∧ Below w.heap.size w W') callaopen1 (fun W2 hB2 => ?_)).mono ?_
  · have hBB := hX.B.trans (hB2.mono hX.B.size)
    refine (aopen1_any W2 key nonce hk hn (w.heap.size + 1) w.heap.size pa na ca A (Ha.out.below hBB) Hal.out ha9 pb m cb b (Hb.out.below hBB) Hm.out hm9 hmc h16 (hX.b.below hB2 hX.b.lt) (hX.a.below hB2 hX.a.lt)).mono ?_
    rintro e W3 ⟨v, er, rfl, hown, hB3⟩
    exact ⟨v, er, rfl, hown.mono hBB.size, hBB.trans (hB3.mono hBB.size)⟩
  · rintro e w2 ⟨v, e2, rfl, hown, hB⟩
    go_wp2_with fail
    go_ret2
    exact ⟨v, e2, rfl, hown, hB⟩
end Go.Proofs.YtnmmnlffobnbfaaGreatDoor
