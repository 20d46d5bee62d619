/- sess: SessFresh, walked -/
import Derived.Test.YtoffpchabpfhkaaTb11
import Derived.Deep.DeepCutAuto
import Derived.Deep.CutRange
namespace Go.Proofs.Ytoffpchabpfhkaa
open Go.RowKit

set_option maxRecDepth 100000 in
set_option maxHeartbeats 4000000 in
theorem sessFresh_walk (x : UInt8) (w : World) (pa : Option Addr) (l : List ActV) (cap : Nat) (hl : ActsAt w pa l) (hwf : ∀ k (h : k < l.length), -9223372036854775808 ≤ l[k].h ∧ l[k].h ≤ 9223372036854775807) :
    Calls Try.prog 4 #[.int .u8 (bv x), .slice pa l.length cap] w fun e w' => e = .returned (.bool true) ∧ Below w.heap.size w w' := by
  obtain ⟨n, hn⟩ : ∃ n : Nat, n = x.toNat % 64 + 1 := ⟨_, rfl⟩
  have hx0 := bv_lo x
  have hx1 := bv_hi x
  have hr1 : bv x % (64 : Int) = (n : Int) - 1 := by unfold bv; omega
  have hr3 : (bv x).tmod (64 : Int) = (n : Int) - 1 := by rw [Int.tmod_eq_emod_of_nonneg hx0, hr1]
  have hn1 : 1 ≤ n := by omega
  have hn64 : n ≤ 64 := by omega
  clear hn
  by_cases hlt : lightF l = true
  · have h100 : l.length ≤ 100 := by unfold lightF at hlt; simp at hlt; exact hlt.1
    have hli := light_any w pa l cap hl
    rw [hlt] at hli
    go_enter Try.func4, Try.ntmps4
    go_wp2_with fail
    refine hli.mono ?_
    rintro e w0 ⟨rfl, rfl⟩
    go_wp2_with fail
    refine (newtable_any _ n hn1 hn64).mono ?_
    rintro e w1 ⟨t, rfl, hT, hB⟩
    obtain ⟨_, pb, hpb, hT1, hT2⟩ := hT
    have hT : TabIn w1 t pb (List.replicate n (false, 0)) := ⟨hT1, hT2⟩
    have hI : Inv (List.replicate n (false, 0)) n [] [] := ⟨by simp, by simp, by simp, by
      have := hands_none (List.replicate n (false, 0)) n (fun j hj => by simp [List.getD, hj])
      simp [this]⟩
    have hcs : ∀ j, j < n → cl (List.replicate n (false, 0)) j ≤ 0 := fun j hj => by simp [cl, List.getD, hj]
    clear hT1 hT2 hli
    go_wp2_with fail
    go_loopw [7, 8, 9] (fun tv gv i wr => ∃ (k : Nat) (told gone : List Int) (st : List Pl), k ≤ l.length ∧ i = .int .i64 k ∧ SF w wr n t pb tv gv told gone st k) (fun _ _ i _ => 101 - (intOf i).toNat)
    case atStart => exact ⟨0, [], [], _, by omega, rfl, World.ownsRow_nil _ _ _ _, World.ownsRow_nil _ _ _ _, .inl rfl, hT, hI, hcs, Nat.le_refl _, Nat.le_refl _, hB⟩
    case round =>
      obtain ⟨k, told, gone, st, hk, rfl, hS⟩ := hrel
      have hSx := hid hS
      obtain ⟨ht, hg, hd, hT, hI, hcs, htl, hgl, hB⟩ := hS
      by_cases hkl : k < l.length
      · obtain ⟨tpa, tcap, rfl, hti⟩ := IntsAt.own ht
        obtain ⟨gpa, gcap, rfl, hgi⟩ := IntsAt.own hg
        have hlr := hl.below (Below.mono hB (Nat.le_refl _))
        obtain ⟨ab, ao, rfl, hab, hac⟩ := hlr k hkl
        have hwk := hwf k hkl
        have hh := hand_any wr l[k] tpa told tcap hti (by omega) hwk
        have hblk := hB.size
        have a0 := hac 0 (by omega)
        have a1 := hac 1 (by omega)
        have a2 := hac 2 (by omega)
        have a3 := hac 3 (by omega)
        have a4 := hac 4 (by omega)
        clear hac hgi hti
        generalize l[k] = z at *
        obtain ⟨what, h, nth, alg, ka, kn, kc⟩ := z
        simp only [actc, List.getElem?_cons_zero, List.getElem?_cons_succ, Nat.add_zero] at a0 a1 a2 a3 a4
        dsimp only at hwk
        replace hh : Calls Try.prog 18 #[.agg #[.int .u8 (bv what), .int .i64 h, .bool nth, .int .i64 alg, .slice ka kn kc], .slice tpa told.length tcap] wr fun e w' => e = .returned (.int .i64 (handF ⟨what, h, nth, alg, ka, kn, kc⟩ told)) ∧ Below wr.heap.size wr w' := hh
        have hv1 := handF_range ⟨what, h, nth, alg, ka, kn, kc⟩ told hwk (fun y hy => isTold_small hn64 (by omega) hcs (hI.t y hy))
        generalize handF ⟨what, h, nth, alg, ka, kn, kc⟩ told = hv at hh hv1
        have hlen := hI.len
        clear ht hg hd hT hI hcs hB hlr
        go_wp2_with fail
        refine hh.mono ?_
        rintro e w2 ⟨rfl, hB2⟩
        have b0 : w2.cell? ⟨ab, ao + k * 5, none⟩ = some (.int .u8 (bv what)) := by rw [← a0]; simp [World.cell?, hB2.block ab hab]
        have hSy := hid (hSx.out.below hB2)
        clear hh hblk hB2 a0 a1 a2 a3 a4 hSx hab wr
        have hw0 := bv_lo what
        go_upto_if 52 with fail
        go_cut [7, 8] from 34 to 109 (fun tv gv wx => ∃ told' gone' st', SF w wx n t pb tv gv told' gone' st' (k + 1))
        case first =>
          by_cases hwh : bv what % 4 = 2
          · have b1 : (bv what % 4 == 2) = true := by rw [hwh]; rfl
            have hS := hSy.out
            have hcl := close_in w2 t pb st hv hS.hT (by omega) (by omega) (fun j hj => by have := hS.hcs j (by omega); unfold cl at this; omega) hv1
            clear hS
            go_wp2_with fail
            refine hcl.mono ?_
            rintro e w3 ⟨rfl, hT3, hC3⟩
            obtain ⟨ht3, hg3, hB3⟩ := hSy.out.turned hpb hC3
            obtain ⟨r, hr⟩ : ∃ r, lookF st hv = r := ⟨_, rfl⟩
            clear hcl hC3
            cases r with
            | none =>
              have e1 : closeV st hv = .int .i64 3 := by unfold closeV; rw [hr]
              have e2 : closeF st hv = st := by unfold closeF; rw [hr]
              rw [e1]
              rw [e2] at hT3
              clear e1 e2 hr
              go_wp2_with fail
              go_meet
              have hS := hSy.out
              exact ⟨told, gone, st, (SF.more ⟨ht3, hg3, hS.hd, hT3, hS.hI, hS.hcs, hS.htl, hS.hgl, hB3⟩)⟩
            | some i =>
              have e1 : closeV st hv = .int .i64 0 := by unfold closeV; rw [hr]
              have e2 : closeF st hv = st.set i (false, cl st i + 1) := by unfold closeF; rw [hr]
              rw [e1]
              rw [e2] at hT3
              have hI3 := hid (hSy.out.hI.closed (by omega) hr)
              have hgW := hid (hg3.alloc (.cells (ints [hv]).toArray 3))
              have Hg3 := hid hg3
              have Ht3 := hid ht3
              clear e1 e2 hr hg3 ht3
              obtain ⟨i0, hi0, hz0, hs0, hb0⟩ := info_parts info3
              have Hi0 := hid hi0
              have Hz0 := hid hz0
              have Hs0 := hid hs0
              have Hb0 := hid hb0
              clear hi0 hz0 hs0 hb0
              have hsz := hB3.size
              go_wp2_with (refine wpList_append_own_at _ rfl (.tmp 57) (.tmp 59) 32 rfl w.heap.size 3 i0 (.int .i64 0) 1 8 under32 Hi0.out Hz0.out Hs0.out Hb0.out rfl (by decide) (.slice gpa gone.length gcap) gone.length _ rfl hgW.out ⟨w3.heap.size, 0, none⟩ 1 1 (ints [hv]) rfl rfl (fun a u hu => by rw [Addr.add_mid]; exact (Blk.new w3 (ints [hv]) 3).whole a u hu) (ints_one _) (by unfold maxLen; omega) (by omega) (by simp; omega) ?_; intro gv' w4 hown4 hgrow4 _ hat4)
              go_meet
              have hS := hSy.out
              refine ⟨told, gone ++ [hv], _, SF.gone Ht3.out Hg3.out hS.hd hT3 hB3 rfl hown4 hgrow4 hat4 hI3.out (fun j hj => ?_) (by omega) (by omega)⟩
              have hj2 := hS.hcs j hj
              unfold cl at *
              by_cases e : j = i
              · subst e
                by_cases hjl : j < st.length
                · rw [getD_set_eq st j hjl]; dsimp only; omega
                · omega
              · rw [getD_set_ne st i j e]; omega
          · have b1 : (bv what % 4 == 2) = false := by rw [beq_eq_false_iff_ne]; exact hwh
            have hS := hSy.out
            rcases idx_cases st with hix | ⟨q, hq, hix, hqf⟩
            · have hop := open_in_full w2 t pb st hS.hT (by omega) hix
              clear hS hix
              go_wp2_with fail
              refine hop.mono ?_
              rintro e w3 ⟨rfl, hT3, hB3⟩
              clear hop
              go_wp2_with fail
              go_meet
              exact ⟨told, gone, st, (hSy.out.below hB3).more⟩
            · have hop := open_in w2 t pb st q hS.hT (by omega) hq hix (by have := hS.hcs q (by omega); unfold cl at this; omega)
              obtain ⟨hno, hI3⟩ := hS.hI.opened (by omega) hqf
              have hI3 := hid hI3
              have hcs3 : ∀ j, j < n → cl (st.set q (true, cl st q)) j ≤ k + 1 := fun j hj => by
                have := hS.hcs j hj
                unfold cl at *
                by_cases e : j = q
                · subst e; rw [getD_set_eq st j hq]; dsimp only; omega
                · rw [getD_set_ne st q j e]; omega
              have Hno := hid hno
              have Hcs3 := hid hcs3
              generalize hnum st q = z at *
              clear hS hix hno hcs3 hqf
              go_wp2_with fail
              refine hop.mono ?_
              rintro e w3 ⟨rfl, hT3, hC3⟩
              obtain ⟨ht3, hg3, hB3⟩ := hSy.out.turned hpb hC3
              clear hop hC3
              obtain ⟨tp3, tc3, et3, hti3⟩ := IntsAt.own ht3
              injection et3 with e1 e2 e3
              subst e1 e3
              clear e2
              have Ht3 := hid ht3
              have Hg3 := hid hg3
              clear ht3 hg3
              have hsz := hB3.size
              go_wp2_with fail
              go_loopw [13] (fun i wr => ∃ m : Nat, m ≤ told.length ∧ i = .int .i64 m ∧ w3 = wr) (fun i _ => told.length - (intOf i).toNat)
              case atStart => exact ⟨0, by omega, rfl, rfl⟩
              case round =>
                obtain ⟨m, hm, rfl, rfl⟩ := hrel
                by_cases hml : m < told.length
                · obtain ⟨tb, tof, rfl, htc⟩ := hti3 m hml
                  have hzn : (told[m] == z) = false := by
                    rw [beq_eq_false_iff_ne]; intro e
                    exact Hno.out (e ▸ List.getElem_mem hml)
                  generalize told[m] = y at *
                  clear hti3
                  go_wp2_with fail
                  go_roundw
                  case rel => exact ⟨m + 1, by omega, by go_num, trivial⟩
                  case measure => simp [intOf]; omega
                · obtain rfl : m = told.length := by omega
                  clear hti3
                  obtain ⟨i0, hi0, hz0, hs0, hb0⟩ := info_parts info3
                  have Hi0 := hid hi0
                  have Hz0 := hid hz0
                  have Hs0 := hid hs0
                  have Hb0 := hid hb0
                  clear hi0 hz0 hs0 hb0
                  have htW := hid (Ht3.out.alloc (.cells (ints [z]).toArray 3))
                  go_wp2_with (refine wpList_append_own_at _ rfl (.tmp 80) (.tmp 82) 32 rfl w.heap.size 3 i0 (.int .i64 0) 1 8 under32 Hi0.out Hz0.out Hs0.out Hb0.out rfl (by decide) (.slice tpa told.length tcap) told.length _ rfl htW.out ⟨w3.heap.size, 0, none⟩ 1 1 (ints [z]) rfl rfl (fun a u hu => by rw [Addr.add_mid]; exact (Blk.new w3 (ints [z]) 3).whole a u hu) (ints_one _) (by unfold maxLen; omega) (by omega) (by simp; omega) ?_; intro tv' w4 hown4 hgrow4 _ hat4)
                  go_meet
                  have hS := hSy.out
                  exact ⟨told ++ [z], gone, _, SF.told Ht3.out Hg3.out hS.hd hT3 hB3 rfl hown4 hgrow4 hat4 hI3.out Hcs3.out (by omega) (by omega)⟩
        case rest =>
          obtain ⟨told', gone', st', hS'⟩ := hcut
          clear hSy hgl htl hlen
          have hn' := hS'.hI.len
          obtain ⟨gp, gc, rfl, _⟩ := IntsAt.own hS'.hg
          obtain ⟨tp, tc, rfl, _⟩ := IntsAt.own hS'.ht
          have hgl' := hS'.hgl
          have HS' := hid hS'
          clear hS'
          go_wp2_with fail
          go_loopw [14] (fun i wr => ∃ m : Nat, m ≤ gone'.length ∧ i = .int .i64 m ∧ SF w wr n t pb (.slice tp told'.length tc) (.slice gp gone'.length gc) told' gone' st' (k + 1)) (fun i _ => gone'.length - (intOf i).toNat)
          case atStart => exact ⟨0, by omega, rfl, HS'.out⟩
          case round =>
            obtain ⟨m, hm, rfl, hS⟩ := hrel
            by_cases hml : m < gone'.length
            · obtain ⟨gp2, gc2, eg, hgi⟩ := IntsAt.own hS.hg
              injection eg with e1 e2 e3
              subst e1
              clear e2 e3
              obtain ⟨gb, gof, rfl, hgc⟩ := hgi m hml
              have hmem : gone'[m] ∈ gone' := List.getElem_mem hml
              have hr := hS.hI.stale (by omega) hmem
              obtain ⟨j0, q0, hj0, hz, _⟩ := hS.hI.g _ hmem
              have hzr := isTold_small hn64 (show k + 1 ≤ 100 by omega) hS.hcs ⟨j0, q0, hj0, hz, .inl (by assumption)⟩
              have hlk := look_any wr 0 t st' gone'[m] hS.hT.tabAt (by omega) (by omega) (fun j hj => by have := hS.hcs j (by omega); unfold cl at this; omega) (by omega)
              have e1 : lookV st' gone'[m] = .tuple #[.int .i64 0, .int .i64 3] := by unfold lookV; rw [hr]
              rw [e1] at hlk
              have Hr := hid hr
              have hSm := hid hS
              generalize gone'[m] = z at *
              clear hS hgi hj0 hz hmem e1 hr
              have hgc1 := hgc
              go_wp2_with fail
              refine hlk.mono ?_
              rintro e w5 ⟨rfl, md, rfl⟩
              have hS5 := hSm.out.below (below_drewN (Below.refl _ _) md)
              have hgc5 : (wr.drewN md).cell? ⟨gb, gof + m, none⟩ = some (.int .i64 z) := hgc1
              have hcl := close_in (wr.drewN md) t pb st' z hS5.hT (by omega) (by omega) (fun j hj => by have := hS5.hcs j (by omega); unfold cl at this; omega) (by omega)
              have e1 : closeV st' z = .int .i64 3 := by unfold closeV; rw [Hr.out]
              have e2 : closeF st' z = st' := by unfold closeF; rw [Hr.out]
              rw [e1, e2] at hcl
              have hS5 := hid hS5
              clear e1 e2 hgc hgc1 hSm hlk
              generalize wr.drewN md = w6 at *
              go_wp2_with fail
              refine hcl.mono ?_
              rintro e w7 ⟨rfl, hT7, hC7⟩
              obtain ⟨ht7, hg7, hB7⟩ := hS5.out.turned hpb hC7
              have hS := hS5.out
              have hS7 := hid (⟨ht7, hg7, hS.hd, hT7, hS.hI, hS.hcs, hS.htl, hS.hgl, hB7⟩ : SF w w7 n t pb _ _ told' gone' st' (k + 1))
              clear hS hcl ht7 hg7 hC7
              go_wp2_with fail
              go_roundw
              case rel => exact ⟨m + 1, by omega, by go_num, hS7.out⟩
              case measure => simp [intOf]; omega
            · obtain rfl : m = gone'.length := by omega
              go_wp2_with fail
              go_roundw
              case rel => exact ⟨k + 1, told', gone', st', by omega, by go_num, hS⟩
              case measure => simp [intOf]; omega
      · obtain rfl : k = l.length := by omega
        obtain ⟨tpa, tcap, rfl, _⟩ := IntsAt.own ht
        obtain ⟨gpa, gcap, rfl, _⟩ := IntsAt.own hg
        have hhl := handles_len wr 0 t st hT.tabAt (by rw [hI.len]; exact hn64) (fun j hj => by rw [hI.len] at hj; have := hcs j hj; unfold cl at this; omega)
        rw [hI.len] at hhl
        have hcnt : ((hands st n).length : Int) = (told.length : Int) - (gone.length : Int) := by have := hI.cnt; omega
        go_wp2_with fail
        refine hhl.mono ?_
        rintro e w3 ⟨a, c, rfl, hB3⟩
        have hB := hB.trans (Below.mono hB3 hB.size)
        clear hhl
        go_wp2_with fail
        refine (awake19_any _).mono ?_
        rintro e w4 ⟨rfl, hB4⟩
        have hB := hB.trans (Below.mono hB4 hB.size)
        go_wp2_with fail
        go_ret
        exact ⟨rfl, hB⟩
  · have hlf : lightF l = false := by simpa using hlt
    have hli := light_any w pa l cap hl
    rw [hlf] at hli
    go_enter Try.func4, Try.ntmps4
    go_wp2_with fail
    refine hli.mono ?_
    rintro e w0 ⟨rfl, rfl⟩
    go_wp2_with fail
    go_ret
    exact ⟨rfl, Below.refl _ _⟩
end Go.Proofs.Ytoffpchabpfhkaa
