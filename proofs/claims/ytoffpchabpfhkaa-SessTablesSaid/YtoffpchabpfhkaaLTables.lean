/- sess: SessTables, walked -/
import Derived.Test.YtoffpchabpfhkaaUt4
import Derived.Test.YtoffpchabpfhkaaTb4
import Derived.Deep.DeepCutAuto
import Derived.Deep.CutRange
import Derived.Deep.CutBlock
namespace Go.Proofs.Ytoffpchabpfhkaa
open Go.RowKit

set_option maxRecDepth 100000 in
set_option maxHeartbeats 4000000 in
theorem sessTables_walk (room : Int) (w : World) (pa : Option Addr) (l : List ActV) (cap : Nat) (hl : ActsAt w pa l) (hwf : ∀ k (h : k < l.length), -9223372036854775808 ≤ l[k].h ∧ l[k].h ≤ 9223372036854775807) :
    Calls Try.prog 3 #[.int .i64 room, .slice pa l.length cap] w fun e w' => e = .returned (.bool true) ∧ Below w.heap.size w w' := by
  by_cases hlt : lightF l = true
  · have h100 : l.length ≤ 100 := by unfold lightF at hlt; simp at hlt; exact hlt.1
    have hli := light_any w pa l cap hl
    rw [hlt] at hli
    by_cases hr : 1 ≤ room ∧ room ≤ 64
    · obtain ⟨n, rfl⟩ : ∃ n : Nat, room = n := ⟨room.toNat, by omega⟩
      have hn1 : 1 ≤ n := by omega
      have hn64 : n ≤ 64 := by omega
      clear hr hlt
      go_enter Try.func3, Try.ntmps3
      go_wp2_with fail
      refine hli.mono ?_
      rintro e w0 ⟨rfl, rfl⟩
      clear hli
      go_wp2_with fail
      refine (newtable_any _ n hn1 hn64).mono ?_
      rintro e w1 ⟨t, rfl, hT, hB⟩
      obtain ⟨_, pb, hpb, hT1, hT2⟩ := hT
      have hT : TabIn w1 t pb (List.replicate n (false, 0)) := ⟨hT1, hT2⟩
      clear hT1 hT2
      go_wp2_with fail
      refine (refnew_any _ n hn1 hn64).mono ?_
      rintro e w2 ⟨rb, rcap, rest, rfl, hrb, hR, hB2⟩
      have hT := hT.below hB2
      have hrb : w.heap.size ≤ rb := Nat.le_trans hB.size hrb
      have hB := hB.trans (Below.mono hB2 hB.size)
      have hcs : ∀ j, j < n → cl (List.replicate n (false, 0)) j ≤ 0 := fun j hj => by simp [cl, List.getD, hj]
      clear hB2
      go_wp2_with fail
      go_loopw [9, 10] (fun tv i wr => ∃ (k : Nat) (told : List Int) (st : List Pl), k ≤ l.length ∧ i = .int .i64 k ∧ ST w wr n t pb rb tv rest told st k) (fun _ i _ => 101 - (intOf i).toNat)
      case atStart => exact ⟨0, [], _, by omega, rfl, World.ownsRow_nil _ _ _ _, hT, hR, by simp, hcs, Nat.le_refl _, by simp, hB⟩
      case round =>
        clear hB hT hR hcs
        obtain ⟨k, told, st, hk, rfl, hS⟩ := hrel
        by_cases hkl : k < l.length
        · have hSx := hid hS
          obtain ⟨tpa, tcap, rfl, hti⟩ := IntsAt.own hS.ht
          have htl := hS.htl
          have hlen := hS.hlen
          have hto := hS.hto
          obtain ⟨ab, ao, rfl, hab, hac⟩ := (hl.below (Below.mono hS.hB (Nat.le_refl _))) k hkl
          have hwk := hwf k hkl
          have a0 := hac 0 (by omega)
          have a1 := hac 1 (by omega)
          have a2 := hac 2 (by omega)
          have a3 := hac 3 (by omega)
          have a4 := hac 4 (by omega)
          clear hac hS hti
          generalize l[k] = z at *
          obtain ⟨what, h, nth, alg, ka, kn, kc⟩ := z
          simp only [actc, List.getElem?_cons_zero, List.getElem?_cons_succ, Nat.add_zero] at a0 a1 a2 a3 a4
          dsimp only at hwk
          have hh : ∀ (W : World) (hti : IntsAt W tpa told), Calls Try.prog 18 #[.agg #[.int .u8 (bv what), .int .i64 h, .bool nth, .int .i64 alg, .slice ka kn kc], .slice tpa told.length tcap] W fun e w' => e = .returned (.int .i64 (handF ⟨what, h, nth, alg, ka, kn, kc⟩ told)) ∧ Below W.heap.size W w' :=
            fun W hti => hand_any W ⟨what, h, nth, alg, ka, kn, kc⟩ tpa told tcap hti (by omega) hwk
          have hv1 := handF_range ⟨what, h, nth, alg, ka, kn, kc⟩ told hwk hto
          generalize handF ⟨what, h, nth, alg, ka, kn, kc⟩ told = hv at hh hv1
          have hbz := hSx.out.hB.size
          have hW := hid (Blk.new wr [.int .u8 (bv what), .int .i64 h, .bool nth, .int .i64 alg, .slice ka kn kc] 35)
          have hSW := hid (hSx.out.below ((Below.refl _ _).alloc (Nat.le_refl _) (.cells #[.int .u8 (bv what), .int .i64 h, .bool nth, .int .i64 alg, .slice ka kn kc] 35)))
          go_wp2_with fail
          obtain ⟨tp0, tc0, et0, hti⟩ := IntsAt.own hSW.out.ht
          injection et0 with e1 e2 e3
          subst e1 e3
          clear e2
          refine (hh _ hti).mono ?_
          rintro e w2 ⟨rfl, hB2⟩
          have hSy := hid (hSW.out.below hB2)
          have hY := (hW.out.below hB2 hW.out.lt).cell 0
          simp only [List.getElem?_cons_zero] at hY
          clear hh hti hB2 hW hSW hSx a0 a1 a2 a3 a4
          generalize wr.heap.size = xb at *
          have hw0 := bv_lo what
          go_upto_block 2 with fail
          go_cut [9] from 53 to 134 (fun tv wx => ∃ told' st', ST w wx n t pb rb tv rest told' st' (k + 1))
          case first =>
            by_cases hwh : bv what % 4 = 2
            · have b1 : (bv what % 4 == 2) = true := by rw [hwh]; rfl
              have hS := hSy.out
              have hcl := close_in w2 t pb st hv hS.hT (by omega) (by omega) (fun j hj => by have := hS.hcs j (by omega); unfold cl at this; omega) hv1
              rw [closeV_I] at hcl
              have hci : closeI st hv = 0 ∨ closeI st hv = 3 := by unfold closeI; cases lookF st hv <;> simp
              have hcs3 : ∀ j, j < n → cl (closeF st hv) j ≤ k + 1 := by
                unfold closeF
                cases hr : lookF st hv with
                | none => exact fun j hj => Nat.le_succ_of_le (hS.hcs j hj)
                | some i =>
                  have hi := lookF_lt st hv i (by omega) hr
                  have := hS.hcs i (by omega)
                  exact cl_set (i := i) (b := false) (c := (st.getD i (false, 0)).2 + 1) hS.hlen (by omega) hS.hcs (by unfold cl at this; omega)
              have hl3 : (closeF st hv).length = n := by
                unfold closeF
                cases lookF st hv <;> simp [hlen]
              have hrf := fun (w3 : World) (hR : Blk w3 rb (rpl (ref st) ++ rest) tRef) => refclose_any w3 rb rcap st rest hv hR (by omega) (by omega) (fun j hj => by have := hSy.out.hcs j (by omega); unfold cl at this; omega)
              have Hcs3 := hid hcs3
              clear hS hcs3
              generalize closeI st hv = ci at *
              generalize closeF st hv = st3 at *
              have b2 : (ci != ci) = false := by simp
              go_wp2_with fail
              refine hcl.mono ?_
              rintro e w3 ⟨rfl, hT3, hC3⟩
              obtain ⟨ht3, hR3, hB3⟩ := hSy.out.places hpb hC3
              have hrf := hrf w3 hR3
              rw [hlen] at hrf
              clear hcl hC3
              go_wp2_with fail
              refine hrf.mono ?_
              rintro e w4 ⟨rfl, hR4, hC4⟩
              obtain ⟨ht4, hT4, hB4⟩ := st_rows hrb ht3 hT3 hR3 hB3 hC4
              clear hrf hC4
              go_wp2_with fail
              go_meet
              exact ⟨told, st3, ht4, hT4, hR4, hl3, Hcs3.out, by omega, hto, hB4⟩
            · by_cases hwl : bv what % 4 = 3
              · have b1 : (bv what % 4 == 2) = false := by rw [hwl]; rfl
                have b2 : (bv what % 4 == 3) = true := by rw [hwl]; rfl
                have hS := hSy.out
                have hlk := look_any w2 0 t st hv hS.hT.tabAt (by omega) (by omega) (fun j hj => by have := hS.hcs j (by omega); unfold cl at this; omega) hv1
                have hrf := fun (w3 : World) (hR : Blk w3 rb (rpl (ref st) ++ rest) tRef) => reflook_any w3 rb rcap st rest hv hR (by omega) (by omega)
                obtain ⟨r, hr⟩ : ∃ r, lookF st hv = r := ⟨_, rfl⟩
                clear hS
                cases r with
                | none =>
                  have e1 : lookV st hv = .tuple #[.int .i64 0, .int .i64 3] := by unfold lookV; rw [hr]
                  have e2 : lookI st hv = -1 := by unfold lookI; rw [hr]
                  rw [e1] at hlk
                  rw [e2] at hrf
                  clear e1 e2 hr
                  go_wp2_with fail
                  refine hlk.mono ?_
                  rintro e w3 ⟨rfl, md, rfl⟩
                  have hS3 := hSy.out.below (below_drewN (Below.refl _ _) md)
                  have hrf := hrf _ hS3.hR
                  have hS3 := hid hS3
                  rw [hlen] at hrf
                  clear hlk
                  generalize w2.drewN md = w4 at *
                  go_wp2_with fail
                  refine hrf.mono ?_
                  rintro e w5 ⟨rfl, rfl⟩
                  clear hrf
                  go_wp2_with fail
                  go_meet
                  exact ⟨told, st, hS3.out.more⟩
                | some i =>
                  have e1 : lookV st hv = .tuple #[.int .i64 (i : Int), .int .i64 0] := by unfold lookV; rw [hr]
                  have e2 : lookI st hv = i := by unfold lookI; rw [hr]
                  rw [e1] at hlk
                  rw [e2] at hrf
                  clear e1 e2 hr
                  go_wp2_with fail
                  refine hlk.mono ?_
                  rintro e w3 ⟨rfl, md, rfl⟩
                  have hS3 := hSy.out.below (below_drewN (Below.refl _ _) md)
                  have hrf := hrf _ hS3.hR
                  have hS3 := hid hS3
                  rw [hlen] at hrf
                  clear hlk
                  generalize w2.drewN md = w4 at *
                  go_wp2_with fail
                  refine hrf.mono ?_
                  rintro e w5 ⟨rfl, rfl⟩
                  clear hrf
                  go_wp2_with fail
                  go_meet
                  exact ⟨told, st, hS3.out.more⟩
              · have b1 : (bv what % 4 == 2) = false := by rw [beq_eq_false_iff_ne]; exact hwh
                have b2 : (bv what % 4 == 3) = false := by rw [beq_eq_false_iff_ne]; exact hwl
                have hS := hSy.out
                obtain ⟨i0, hi0, hz0, hs0, hb0⟩ := info_parts info3
                have Hi0 := hid hi0
                have Hz0 := hid hz0
                have Hs0 := hid hs0
                have Hb0 := hid hb0
                clear hi0 hz0 hs0 hb0
                rcases idx_cases2 st with ⟨hix, hal⟩ | ⟨q, hq, hix, hqf, hal⟩
                · have hop := open_in_full w2 t pb st hS.hT (by omega) hix
                  have hrf := fun (w3 : World) (hR : Blk w3 rb (rpl (ref st) ++ rest) tRef) => refopen_full w3 rb rcap st rest hR (by omega) hal
                  have Hcs := hid hS.hcs
                  clear hS hix hal
                  go_wp2_with fail
                  refine hop.mono ?_
                  rintro e w3 ⟨rfl, hT3, hB3⟩
                  have hS3 := hSy.out.below hB3
                  have hrf := hrf _ hS3.hR
                  rw [hlen] at hrf
                  have ht3 := hid hS3.ht
                  have hR3 := hid hS3.hR
                  have hBB := hS3.hB
                  have hsz := hBB.size
                  clear hS3 hop
                  go_wp2_with fail
                  refine hrf.mono ?_
                  rintro e w5 ⟨rfl, rfl⟩
                  clear hrf
                  have htW := hid (ht3.out.alloc (.cells (ints [0]).toArray 3))
                  go_wp2_with (refine wpList_append_own _ rfl (.tmp 87) (.tmp 89) 32 rfl w.heap.size 3 i0 (.int .i64 0) 1 8 under32 Hi0.out Hz0.out Hs0.out Hb0.out rfl (by decide) (.slice tpa told.length tcap) told.length _ rfl htW.out ⟨w3.heap.size, 0, none⟩ 1 1 (ints [0]) rfl rfl (fun a u hu => by rw [Addr.add_mid]; exact (Blk.new w3 (ints [0]) 3).whole a u hu) (ints_one _) (by unfold maxLen; omega) (by omega) (by simp; omega) ?_; intro tv' w4 hown4 hgrow4 _)
                  go_meet
                  exact ⟨told ++ [0], st, st_told ht3.out hT3 hR3.out hBB rfl hown4 hgrow4 hlen (fun j hj => by have := Hcs.out j hj; omega) (by omega) hto (by omega)⟩
                · have hqc := hS.hcs q (by omega)
                  have hop := open_in w2 t pb st q hS.hT (by omega) hq hix (by unfold cl at hqc; omega)
                  have hrf := fun (w3 : World) (hR : Blk w3 rb (rpl (ref st) ++ rest) tRef) => refopen_some w3 rb rcap st rest q hR (by omega) hq hal hqf
                  have hzs := hnum_small hlen hn64 (by omega) (by omega) hqc
                  have hcs3 := cl_set (i := q) (b := true) (c := (st.getD q (false, 0)).2) hlen (by omega) hS.hcs (by unfold cl at hqc; omega)
                  have hl3 : (st.set q (true, (st.getD q (false, 0)).2)).length = n := by simp [hlen]
                  have Hcs3 := hid hcs3
                  clear hS hix hal hqf hqc hcs3
                  generalize hnum st q = z at *
                  generalize st.set q (true, (st.getD q (false, 0)).2) = st3 at *
                  go_wp2_with fail
                  refine hop.mono ?_
                  rintro e w3 ⟨rfl, hT3, hC3⟩
                  obtain ⟨ht3, hR3, hB3⟩ := hSy.out.places hpb hC3
                  have hrf := hrf _ hR3
                  rw [hlen] at hrf
                  clear hC3 hop
                  go_wp2_with fail
                  refine hrf.mono ?_
                  rintro e w4 ⟨rfl, hR4, hC4⟩
                  obtain ⟨ht4, hT4, hB4⟩ := st_rows hrb ht3 hT3 hR3 hB3 hC4
                  clear hrf hC4 ht3 hT3 hR3
                  have hsz := hB4.size
                  have Ht4 := hid ht4
                  have htW := hid (ht4.alloc (.cells (ints [z]).toArray 3))
                  clear ht4
                  have b3 : (z != z) = false := by simp
                  go_wp2_with (refine wpList_append_own _ rfl (.tmp 87) (.tmp 89) 32 rfl w.heap.size 3 i0 (.int .i64 0) 1 8 under32 Hi0.out Hz0.out Hs0.out Hb0.out rfl (by decide) (.slice tpa told.length tcap) told.length _ rfl htW.out ⟨w4.heap.size, 0, none⟩ 1 1 (ints [z]) rfl rfl (fun a u hu => by rw [Addr.add_mid]; exact (Blk.new w4 (ints [z]) 3).whole a u hu) (ints_one _) (by unfold maxLen; omega) (by omega) (by simp; omega) ?_; intro tv' w5 hown5 hgrow5 _)
                  go_meet
                  exact ⟨told ++ [z], st3, st_told Ht4.out hT4 hR4 hB4 rfl hown5 hgrow5 hl3 Hcs3.out (by omega) hto hzs⟩
          case rest =>
            obtain ⟨told', st', hS'⟩ := hcut
            clear hSy hY htl hto
            have hn' := hS'.hlen
            have hha := handles_any wc 0 t st' hS'.hT.tabAt (by omega) (fun j hj => by have := hS'.hcs j (by omega); unfold cl at this; omega)
            have HS' := hid hS'
            clear hS'
            go_wp2_with fail
            refine hha.mono ?_
            rintro e w3 ⟨v, rfl, hown, hB3⟩
            obtain ⟨hp, hc, rfl, hhi⟩ := IntsAt.own hown
            have hS3 := HS'.out.below hB3
            have hsm := same_any w3 hp hc rb rcap st' rest hS3.hR (by omega) hhi
            rw [hn'] at hsm
            have HS3 := hid hS3
            clear hha hown hhi hS3
            rw [hn']
            go_wp2_with fail
            refine hsm.mono ?_
            rintro e w4 ⟨rfl, md, rfl⟩
            have HS4 := hid (HS3.out.below (below_drewN (Below.refl _ _) md))
            generalize w3.drewN md = w5 at *
            clear hsm
            go_wp2_with fail
            go_roundw
            case rel => exact ⟨k + 1, told', st', by omega, by go_num, HS4.out⟩
            case measure => simp [intOf]; omega
        · obtain rfl : k = l.length := by omega
          have hB := hS.hB
          clear hS
          go_wp2_with fail
          refine (open_nil _).mono ?_
          rintro e w3 ⟨rfl, rfl⟩
          go_wp2_with fail
          refine (close_nil _ _).mono ?_
          rintro e w3 ⟨rfl, rfl⟩
          go_wp2_with fail
          refine (handles_nil _).mono ?_
          rintro e w3 ⟨rfl, rfl⟩
          go_wp2_with fail
          refine (awake19_any _).mono ?_
          rintro e w4 ⟨rfl, hB4⟩
          have hB := hB.trans (Below.mono hB4 hB.size)
          go_wp2_with fail
          go_ret
          exact ⟨rfl, hB⟩
    · clear hlt
      go_enter Try.func3, Try.ntmps3
      go_wp2_with fail
      refine hli.mono ?_
      rintro e w0 ⟨rfl, rfl⟩
      go_wp2_with fail
      refine (newtable_bad _ _ hr).mono ?_
      rintro e w1 ⟨rfl, rfl⟩
      go_wp2_with fail
      refine (refnew_bad _ _ hr).mono ?_
      rintro e w1 ⟨rfl, rfl⟩
      go_wp2_with fail
      refine (awake19_any _).mono ?_
      rintro e w4 ⟨rfl, hB4⟩
      go_wp2_with fail
      go_ret
      exact ⟨rfl, hB4⟩
  · have hlf : lightF l = false := by simpa using hlt
    have hli := light_any w pa l cap hl
    rw [hlf] at hli
    go_enter Try.func3, Try.ntmps3
    go_wp2_with fail
    refine hli.mono ?_
    rintro e w0 ⟨rfl, rfl⟩
    go_wp2_with fail
    go_ret
    exact ⟨rfl, Below.refl _ _⟩
end Go.Proofs.Ytoffpchabpfhkaa
