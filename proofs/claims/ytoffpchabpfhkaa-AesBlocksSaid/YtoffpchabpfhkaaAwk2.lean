/- aes: the example, walked -/
import Derived.Test.YtoffpchabpfhkaaAwk
import Derived.Test.YtoffpchabpfhkaaReg
namespace Go.Proofs.Ytoffpchabpfhkaa
open Go.RowKit

theorem info5c : (Try.prog.info? 5).map (fun i => (i.zero, i.size, i.bytes)) = some (some (.int .u8 0), 1, 1) := by kernel_rfl
theorem guard54 : Try.prog.eqGuardType Try.prog.depth 54 = false := by kernel_rfl
theorem under5 : Try.prog.underlying 5 = some (.int .u8) := by kernel_rfl
theorem eql16 (X Y : List UInt8) (hX : X.length = 16) (hY : Y.length = 16) (_ _ : Operand) (w : World) :
    (binOp .eql 54 (.agg (bys X).toArray) (.agg (bys Y).toArray)).run Try.prog w = .ok (.bool (decide (X = Y))) w := by
  rw [run_eql_struct, run_equalIn_bytes (P := Try.prog) 9998 54 5 .u8 X Y (by rw [hX]; exact under54) under5 size5 (by omega) w]
  rfl
theorem KeysAt.below {w w' : World} {kb : Nat} {rk : List UInt8} (h : KeysAt w kb rk) (hB : Below w.heap.size w w') : KeysAt w' kb rk := by
  obtain ⟨tb, wb, n, cap, ex, h1, h2, h3, h4, h5⟩ := h
  exact ⟨tb, wb, n, cap, ex, h1.below hB h1.lt, h2.below hB h2.lt, h3.below hB h3.lt, h4, h5⟩

theorem KeysAt.drew {w : World} {kb : Nat} {rk : List UInt8} (h : KeysAt w kb rk) : KeysAt w.drew kb rk := by
  obtain ⟨tb, wb, n, cap, ex, h1, h2, h3, h4, h5⟩ := h
  exact ⟨tb, wb, n, cap, ex, h1.drew, h2.drew, h3.drew, h4, h5⟩
def b17 (k : Nat) : UInt8 := UInt8.ofNat (17 * k)
def first16 (k : Nat) : List UInt8 := (List.range k).map b17 ++ (List.replicate 16 0).drop k

theorem first16_len (k : Nat) (h : k ≤ 16) : (first16 k).length = 16 := by simp [first16]; omega
theorem first16_succ (k : Nat) (h : k < 16) : (first16 k).set k (b17 k) = first16 (k + 1) := by
  unfold first16
  rw [app_set 0 _ _ _ k (by simp) (by simpa using h), List.range_succ, List.map_append]; rfl

set_option maxRecDepth 100000 in
set_option maxHeartbeats 1000000 in
theorem awake03_any (w : World) :
    Calls Try.prog 36 #[] w fun e w' => e = .returned (.bool true) ∧ Below w.heap.size w w' := by
  obtain ⟨i0, hi0, hz0, hs0, hb0⟩ := info_parts info5c
  have Hi0 := hid hi0
  have Hz0 := hid hz0
  have Hs0 := hid hs0
  have Hb0 := hid hb0
  clear hi0 hz0 hs0 hb0
  go_enter Try.func36, Try.ntmps36
  go_wp2_with fail
  have hb0 := Blk.new w (bys (first16 0)) tA16
  have hB0 : Below w.heap.size w (w.alloc (.cells (bys (first16 0)).toArray tA16)) := (Below.refl _ _).alloc (Nat.le_refl _) _
  change Code.wp _ _ _ _ (w.alloc (.cells (bys (first16 0)).toArray tA16))
  generalize w.alloc (.cells (bys (first16 0)).toArray tA16) = w0 at *
  go_loopw [1, 3] (fun v i wr => ∃ k : Nat, k ≤ 16 ∧ i = .int .i64 k ∧ wr.ownsRow (w.heap.size + 1) tU8 1 v k (bys ((List.range k).map UInt8.ofNat)) ∧ Blk wr w.heap.size (bys (first16 k)) tA16 ∧ Below w.heap.size w wr ∧ w.heap.size < wr.heap.size) (fun _ i _ => 16 - (intOf i).toNat)
  case atStart => exact ⟨0, by omega, rfl, World.ownsRow_nil _ _ _ _, hb0, hB0, hb0.lt⟩
  case round =>
    obtain ⟨k, hk, rfl, hown, hb, hB, hlt0⟩ := hrel
    clear hb0 hB0
    by_cases hlt : k < 16
    · have hw1 : IntKind.u8.wrap (k : Int) = bv (UInt8.ofNat k) := by rw [IntWalk.u8_in _ (by omega)]; exact (bv_lit k (by omega)).symm
      have hw2 : IntKind.u8.wrap (17 * (k : Int)) = bv (b17 k) := by rw [IntWalk.u8_in _ (by omega)]; exact (bv_lit (17 * k) (by omega)).symm
      have Hown := hid hown
      clear hown
      have hfl := first16_len k (by omega)
      have hfs := first16_succ k hlt
      have Hfl := hid hfl
      have Hfs := hid hfs
      clear hfl hfs
      go_wp2_with (refine wpList_append_own _ rfl (.tmp 11) (.tmp 14) 33 rfl (w.heap.size + 1) 5 i0 (.int .u8 0) 1 1 under33 Hi0.out Hz0.out Hs0.out Hb0.out rfl (by decide) u1 k _ rfl (Hown.out.alloc _) ⟨wr.heap.size, 0, none⟩ 1 1 (bys [UInt8.ofNat k]) rfl rfl (fun a u hu => by rw [Addr.add_mid]; exact (Blk.new wr (bys [UInt8.ofNat k]) tU8).whole a u hu) (bys_one _) (by unfold maxLen; omega) (by omega) (by simp; omega) ?_; intro v' w1 hown1 hgrow _; have hne1 : some w.heap.size ≠ u1.ownBlock := fun e => by { have := (Hown.out.lt _ e.symm).1; omega }; have hb1 := (hb.alloc (.cells (bys [UInt8.ofNat k]).toArray tU8)).grown hgrow hne1; have hB1 := (hB.alloc hB.size (.cells (bys [UInt8.ofNat k]).toArray tU8)).grown hgrow (by simp; omega) (fun j e => by { have := (Hown.out.lt j e).1; omega }); have hc := hb1.cellAt (bys_get _ k (by rw [Hfl.out]; exact hlt)); have hf := hb1.frozen k; clear hne1; generalize (first16 k).getD k 0 = z at hc)
      go_roundw
      case rel =>
        refine ⟨k + 1, by omega, by go_num, own_setCell ?_ (fun e => by have := (hown1.lt _ e.symm).1; simp only at this; omega) _, ?_, hB1.setCell (Nat.le_refl _) _, ?_⟩
        · have e : bys ((List.range (k + 1)).map UInt8.ofNat) = bys ((List.range k).map UInt8.ofNat) ++ bys [UInt8.ofNat k] := by
            rw [List.range_succ, List.map_append]; simp [bys]
          rw [e]; exact hown1
        · rw [← Hfs.out, ← bys_set]; exact hb1.set _ _
        · have := hb1.lt; simpa [World.setCell] using this
      case measure => simp [intOf]; omega
    · obtain rfl : k = 16 := by omega
      have ek : (List.range 16).map UInt8.ofNat = akey := rfl
      have eb : first16 16 = abyt := by decide
      rw [ek] at hown
      rw [eb] at hb
      clear ek eb
      obtain ⟨g, cap, cur, rfl, hbg, hg, hgc, hcm, hcs, hct⟩ : ∃ g cap cur, u1 = .slice (some ⟨g, 0, none⟩) 16 cap ∧ w.heap.size + 1 ≤ g ∧ wr.heap[g]? = some (.cells cur tU8 (0, 0)) ∧ 16 ≤ cap ∧ cap ≤ maxLen ∧ cur.size = cap * 1 ∧ cur.toList.take (16 * 1) = bys akey := by
        rcases hown.2 with ⟨_, h0⟩ | h
        · omega
        · exact h
      have hR : RowAt wr (some ⟨g, 0, none⟩) akey := by
        have hq : Blk wr g (bys akey ++ cur.toList.drop 16) tU8 := by unfold Blk; rw [← hct, show 16 * 1 = 16 from rfl, List.take_append_drop]; exact hg
        have := rowAt_pre hq 0 16
        exact this
      clear hown hg hcm hcs hct
      have HR := hid hR
      clear hR
      go_wp2_with (first | (go_at_call 32; refine (expand_any wr g 0 16 cap 4 akey HR.out rfl (.inl rfl) rfl hgc).mono ?_; rintro e w1 ⟨kb, rfl, hK, hB1, hkb⟩; have hb1 := hb.below hB1 hb.lt; have hB2 := hB.trans (hB1.mono hB.size)) | (refine wpList_load_mid rfl 54 (.tmp 2) rfl w.heap.size 0 rfl (bys abyt) _ hb1.whole under54 rfl (by rw [size54]; rfl) ?_))
      refine (enc_any w1 kb _ abyt hK rfl).mono ?_
      rintro e w2 ⟨rfl, hB3⟩
      rw [aenc]
      have hK2 := hK.below hB3
      have hb2 := hb1.below hB3 hb1.lt
      have hB4 := hB2.trans (hB3.mono hB2.size)
      clear hK hb1 hB2 hB3 hB1 hkb hb hB HR hgc hbg
      have hc := Blk.new w2 (bys z16) tA16
      go_upto_region 10 with (first | (refine wpList_store_mid rfl 54 (.tmp 6) (.tmp 28) rfl w2.heap.size 0 (bys acry).toArray rfl rfl (hc.there 0 16 (by decide)) (by rw [size54]; rfl) (all_oneCell_toArray (bys_one _)) ?_))
      have hc3 := hc.setCells (bys acry) 0 (by decide)
      rw [splice_whole _ _ (by decide)] at hc3
      have hch := (Chg.refl (w2.alloc (.cells (bys z16).toArray tA16)).heap.size [w2.heap.size] (w2.alloc (.cells (bys z16).toArray tA16))).setCells (b := w2.heap.size) (.inl (by simp)) (bys acry) 0
      have hsz : (w2.alloc (.cells (bys z16).toArray tA16)).heap.size = w2.heap.size + 1 := by simp
      have hBw := hch.below (M := w2.heap.size) (by omega) (by simp)
      have hB5 : Below w2.heap.size w2 (w2.alloc (.cells (bys z16).toArray tA16)) := (Below.refl _ _).alloc (Nat.le_refl _) _
      have hB6 := hB5.trans hBw
      have hb3 := hb2.below hB6 hb2.lt
      have hK3 := hK2.below hB6
      have hB7 := hB4.trans (hB6.mono hB4.size)
      change Code.wp _ _ _ _ ((w2.alloc (.cells (bys z16).toArray tA16)).setCells w2.heap.size 0 (bys acry))
      generalize (w2.alloc (.cells (bys z16).toArray tA16)).setCells w2.heap.size 0 (bys acry) = w3 at *
      clear hch hBw hB5 hB6 hsz hc hb2 hK2 hB4
      have hr1 := hc3.whole
      have hr2 := hb3.whole
      have hu := under54
      have hi1 : (Try.prog.info? 54).map (·.size) = some (bys acry).length := by rw [size54]; rfl
      have hi2 : (Try.prog.info? 54).map (·.size) = some (bys abyt).length := by rw [size54]; rfl
      have hgd := guard54
      have he1 : ∀ w, (Op.equalIn 10000 54 (.agg (bys acry).toArray) (.agg #[.int .u8 105, .int .u8 196, .int .u8 224, .int .u8 216, .int .u8 106, .int .u8 123, .int .u8 4, .int .u8 48, .int .u8 216, .int .u8 205, .int .u8 183, .int .u8 128, .int .u8 112, .int .u8 180, .int .u8 197, .int .u8 90])).run Try.prog w = .ok true w := fun w =>
        run_equalIn_bytes (P := Try.prog) 9998 54 5 .u8 acry acry under54 under5 size5 rfl w
      have he2 : ∀ w, (Op.equalIn 10000 54 (.agg (bys abyt).toArray) (.agg (bys abyt).toArray)).run Try.prog w = .ok true w := fun w =>
        run_equalIn_bytes (P := Try.prog) 9998 54 5 .u8 abyt abyt under54 under5 size5 rfl w
      refine tk_region (fun w' => w'.rangeAt w2.heap.size 0 (bys acry) ∧ w'.rangeAt w.heap.size 0 (bys abyt)) (by kernel_rfl) (fun c a d v w h => by cases d <;> exact h) ⟨hr1, hr2⟩ (fun hPF hHeld => ?_)
      refine tk 0 (.some 29) _ _ rfl rfl (by kernel_rfl) (by kernel_rfl) (by kernel_rfl) hPF rfl (fun w' hw' => by (go_simp; try with_reducible rfl)) hHeld ?_
      simp only [Act.put, List.setIfInBounds_toArray, List.set_cons_zero, List.set_cons_succ]
      refine tk 1 (.some 30) _ _ rfl rfl (by kernel_rfl) (by kernel_rfl) (by kernel_rfl) hPF rfl (fun w' hw' => by (go_simp; try with_reducible rfl)) hHeld ?_
      simp only [Act.put, List.setIfInBounds_toArray, List.set_cons_zero, List.set_cons_succ]
      refine tk 2 (.some 31) _ _ rfl rfl (by kernel_rfl) (by kernel_rfl) (by kernel_rfl) hPF rfl (fun w' hw' => by (go_simp; try with_reducible rfl)) hHeld ?_
      simp only [Act.put, List.setIfInBounds_toArray, List.set_cons_zero, List.set_cons_succ]
      refine tkl 3 (.some 32) _ rfl rfl 54 (.tmp 6) rfl w2.heap.size 0 (bys acry) _ (by kernel_rfl) (by kernel_rfl) (by kernel_rfl) hPF rfl rfl (fun w' hw' => by first | exact hw'.1 | exact hw'.2 | exact hw'.2.1 | exact hw'.2.2) under54 rfl hi1 hHeld ?_
      simp only [Act.put, List.setIfInBounds_toArray, List.set_cons_zero, List.set_cons_succ]
      refine tk 4 (.some 33) _ _ rfl rfl (by kernel_rfl) (by kernel_rfl) (by kernel_rfl) hPF rfl (fun w' hw' => by (go_simp; try with_reducible rfl)) hHeld ?_
      simp only [Act.put, List.setIfInBounds_toArray, List.set_cons_zero, List.set_cons_succ]
      refine tk 5 (.some 34) _ _ rfl rfl (by kernel_rfl) (by kernel_rfl) (by kernel_rfl) hPF rfl (fun w' hw' => by (go_simp; try with_reducible rfl)) hHeld ?_
      simp only [Act.put, List.setIfInBounds_toArray, List.set_cons_zero, List.set_cons_succ]
      refine tk 6 (.some 35) _ _ rfl rfl (by kernel_rfl) (by kernel_rfl) (by kernel_rfl) hPF rfl (fun w' hw' => by (go_simp; try with_reducible rfl)) hHeld ?_
      simp only [Act.put, List.setIfInBounds_toArray, List.set_cons_zero, List.set_cons_succ]
      refine tk 7 (.some 36) _ _ rfl rfl (by kernel_rfl) (by kernel_rfl) (by kernel_rfl) hPF rfl (fun w' hw' => by (go_simp; try with_reducible rfl)) hHeld ?_
      simp only [Act.put, List.setIfInBounds_toArray, List.set_cons_zero, List.set_cons_succ]
      refine tk 8 (.some 37) _ _ rfl rfl (by kernel_rfl) (by kernel_rfl) (by kernel_rfl) hPF rfl (fun w' hw' => by (go_simp; try with_reducible rfl)) hHeld ?_
      simp only [Act.put, List.setIfInBounds_toArray, List.set_cons_zero, List.set_cons_succ]
      refine tkl 9 (.some 38) _ rfl rfl 54 (.tmp 6) rfl w2.heap.size 0 (bys acry) _ (by kernel_rfl) (by kernel_rfl) (by kernel_rfl) hPF rfl rfl (fun w' hw' => by first | exact hw'.1 | exact hw'.2 | exact hw'.2.1 | exact hw'.2.2) under54 rfl hi1 hHeld ?_
      simp only [Act.put, List.setIfInBounds_toArray, List.set_cons_zero, List.set_cons_succ]
      refine tkl 11 (.some 40) _ rfl rfl 54 (.tmp 2) rfl w.heap.size 0 (bys abyt) _ (by kernel_rfl) (by kernel_rfl) (by kernel_rfl) hPF rfl rfl (fun w' hw' => by first | exact hw'.1 | exact hw'.2 | exact hw'.2.1 | exact hw'.2.2) under54 rfl hi2 hHeld ?_
      simp only [Act.put, List.setIfInBounds_toArray, List.set_cons_zero, List.set_cons_succ]
      refine wpAnyH_ready (rs := [10]) (by kernel_rfl) (by simp) (AllReadyH.cons (o := _) rfl (fun K hK => ?_) AllReadyH.nil)
      go_simp
      refine (dec_any _ kb _ acry hK3.drew rfl).mono ?_
      rintro e w4 ⟨rfl, hB8⟩
      rw [adec]
      have hr3 := (hc3.drew.below hB8 hc3.lt).whole
      have hr4 := (hb3.drew.below hB8 hb3.lt).whole
      have hB9 := hB7.drew.trans (Below.mono hB8 hB7.size)
      refine hK.out _ _ ⟨hr3, hr4⟩ (fun hHeld => ?_)
      clear hK K
      try simp only [Act.put, List.setIfInBounds_toArray, List.set_cons_zero, List.set_cons_succ]
      refine tk 12 (.some 41) _ _ rfl rfl (by kernel_rfl) (by kernel_rfl) (by kernel_rfl) hPF rfl (fun w' hw' => by (go_simp; try with_reducible rfl)) hHeld ?_
      simp only [Act.put, List.setIfInBounds_toArray, List.set_cons_zero, List.set_cons_succ]
      refine tk 13 (.some 42) _ _ rfl rfl (by kernel_rfl) (by kernel_rfl) (by kernel_rfl) hPF rfl (fun w' hw' => by (go_simp; try with_reducible rfl)) hHeld ?_
      simp only [Act.put, List.setIfInBounds_toArray, List.set_cons_zero, List.set_cons_succ]
      refine tk 14 (.some 0) _ _ rfl rfl (by kernel_rfl) (by kernel_rfl) (by kernel_rfl) hPF rfl (fun w' hw' => by (go_simp; try with_reducible rfl)) hHeld ?_
      simp only [Act.put, List.setIfInBounds_toArray, List.set_cons_zero]
      refine wpAnyH_done (by kernel_rfl) ?_ _
      go_wp2_with fail
      go_ret
      exact ⟨rfl, hB9⟩

#print axioms awake03_any
end Go.Proofs.Ytoffpchabpfhkaa
