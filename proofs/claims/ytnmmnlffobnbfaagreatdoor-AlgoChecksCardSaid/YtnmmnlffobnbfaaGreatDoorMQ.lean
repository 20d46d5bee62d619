/- Tz · Sr (joined by merge4.py) -/
import Derived.Test.YtnmmnlffobnbfaaGreatDoorMF
import Derived.Lib.AppendZerosOnto
import Derived.ArgAppend
import Derived.Test.YtnmmnlffobnbfaaGreatDoorMP
import Derived.Deep.DeepCutAuto
/- append of noughts to an own row of bytes -/
namespace Go.Proofs.YtnmmnlffobnbfaaGreatDoor
open Go.RowKit

theorem wpList_append_got {P : Program} {w w' : World} {ops : Array Oper} {rest : List Oper} {o : Oper} {a : Act} {Q : Exit → Act → World → Prop} (hgd : o.guard = none) (s x : Operand) (t1 t2 : TypeId)
    (ho : o.op = .call { callee := .builtin .append, args := #[s, x], argTypes := #[t1, t2] }) (v u r : Value) (hs : a.eval s = v) (hx : a.eval x = u)
    (hr : (Builtin.append_ #[t1, t2] o.type #[v, u]).run P w = .ok r w') (h : wpList P ops Q rest (a.put o.dst r) w') : wpList P ops Q (o :: rest) a w := by
  refine wpList_plain hgd fun K hK => ?_
  unfold Oper.wp execOp
  simp only [ho, resolve, invoke, builtin, Sem.run_bind, Sem.run_pure, Result.andThen_ok, List.map_toArray, List.map_cons, List.map_nil, hs, hx, hr]
  exact hK _ _ h
theorem below_grown {N : Nat} {w w' : World} {row : Option Nat} (hg : w.grownBy w' row) (hN : N ≤ w.heap.size) (hr : ∀ k, row = some k → N ≤ k) : Below N w w' :=
  ⟨hg.os, hg.tape, hg.output, hg.size, fun k hk => hg.block k (by omega) (fun e => by have := hr k e.symm; omega)⟩
theorem zeroCells_u8 (k : Nat) : (Builtin.zeroCells (Value.int .u8 0).cells k).toList = bys (List.replicate k 0) := by
  show (Builtin.zeroCells #[Value.int .u8 0] k).toList = _
  simp only [Builtin.zeroCells]
  apply List.ext_getElem
  · simp [bys]
  · intro i h1 h2
    simp [bys, Nat.mod_one]
    rfl
theorem underIntZ : Tryz.prog.underlying 3 = some (.int .i64) := by kernel_rfl
theorem run_append_zeros (w : World) (base : Nat) (ty : TypeId) (v : Value) (l : List UInt8) (h : OwnR base w v l) (hl0 : 0 < l.length) (k : Nat) (hk : k < 1000000) (h9 : l.length < 1000000000) (hbase : base ≤ w.heap.size) :
    ∃ v' w', (Builtin.append_ #[23, 3] ty #[v, .int .i64 (k : Int)]).run Tryz.prog w = .ok v' w' ∧ OwnR base w' v' (l ++ List.replicate k 0) ∧ w.grownBy w' v.ownBlock := by
  obtain ⟨i, hi, hz, hs, hby⟩ := info_parts info5
  have hw : IntKind.i64.wrap (k : Int) = k := by rw [IntKind.wrap_i64]; omega
  have hneg : ¬ ((k : Int) < 0) := by omega
  rcases h.2 with ⟨_, h0⟩ | ⟨g, cap, cur, rfl, hb, hh, hc, hcm, hsz, ht⟩
  · omega
  · rw [Nat.mul_one] at hsz ht
    have hB : Blk w g cur.toList tU8 := by unfold Blk; simpa using hh
    have hcl : cur.toList.length = cap := by simp; exact hsz
    have h48i : ¬ (281474976710656 < (k : Int) * (i.bytes : Int)) := by rw [hby]; omega
    by_cases hr : l.length + k ≤ cap
    · have hcell : ∀ j, j < (bys (List.replicate k (0 : UInt8))).length → (w.cell? ⟨g, l.length + 0 + j, none⟩).isSome = true := fun j hj => by
        rw [bys_length, List.length_replicate] at hj
        rw [hB.cell, List.getElem?_eq_getElem (by simp; omega)]; rfl
      have hst := run_storeCells_cells (P := Tryz.prog) g l.length (bys (List.replicate k 0)) 0 w hcell (fun j _ => hB.frozen _) (bys_one _)
      rw [Nat.add_zero] at hst
      have hrun : (Builtin.append_ #[23, 3] ty #[.slice (some ⟨g, 0, none⟩) l.length cap, .int .i64 (k : Int)]).run Tryz.prog w = .ok (.slice (some ⟨g, 0, none⟩) (l.length + k) cap) (w.setCells g l.length (bys (List.replicate k 0))) := by
        by_cases hk0 : k = 0
        · subst hk0
          have hw0 : IntKind.i64.wrap 0 = 0 := by decide
          simp [hw0, Addr.add_mid, Builtin.append_, run_underlying under33b, run_underlying underIntZ, sizeOf, typeInfo, hi, asInt, asIntOf, Builtin.lenOf, hc, bys, storeCells, World.setCells]
        · have hk1 : ¬ k * i.size = 0 := by rw [hs, Nat.mul_one]; exact hk0
          have hzc := zeroCells_u8 k
          simp only [hs, Nat.mul_one] at hk1
          simp [Builtin.append_, run_underlying under33b, run_underlying underIntZ, sizeOf, typeInfo, zeroValue, hi, hz, hs, asInt, asIntOf, hw, hneg, h48i, hk1, hr, Addr.add_mid, hzc, hst]
      have hB' := hB.setCells (bys (List.replicate k 0)) l.length (by rw [bys_length, List.length_replicate, hcl]; exact hr)
      have hC : Chg w.heap.size [g] w (w.setCells g l.length (bys (List.replicate k 0))) := (Chg.refl _ _ w).setCells (.inl (by simp)) _ _
      refine ⟨_, _, hrun, ⟨by rw [bys_length, Nat.mul_one], .inr ⟨g, cap, (splice cur.toList l.length (bys (List.replicate k 0))).toArray, by rw [List.length_append, List.length_replicate], hb, hB', by rw [List.length_append, List.length_replicate]; exact hr, hcm, by rw [List.size_toArray, length_splice _ _ _ (by rw [bys_length, List.length_replicate, hcl]; exact hr), hcl, Nat.mul_one], ?_⟩⟩, ⟨hC.os, hC.tape, hC.output, hC.size, fun j hj hne => hC.block j hj (fun e => hne (by simp at e; rw [e]; rfl))⟩⟩
      rw [Nat.mul_one, List.length_append, List.length_replicate]
      unfold splice
      show (cur.toList.take l.length ++ (bys (List.replicate k 0) ++ _)).take (l.length + k) = _
      rw [ht, ← List.append_assoc, List.take_left' (by rw [List.length_append, bys_length, bys_length, List.length_replicate])]
      simp [bys]
    · have hk0 : 0 < k := by omega
      have hf := run_firstCells_some (P := Tryz.prog) w.drew i.size l.length ⟨g, 0, none⟩ l.length cap (bys l) (by rw [bys_length, hs, Nat.mul_one]) (fun j u hu => by
        have hj : j < l.length := by
          rcases Nat.lt_or_ge j l.length with hh2 | hh2
          · exact hh2
          · rw [List.getElem?_eq_none (by rw [bys_length]; exact hh2)] at hu; cases hu
        rw [Addr.add_mid, Nat.zero_add, hB.drew.cell, ← hu, ← ht, List.getElem?_take, if_pos hj])
      have hr0 := Lib.run_append_grow_zeros (P := Tryz.prog) w 23 3 ty 5 i (.int .u8 0) .i64 .i64 under33b underIntZ hi hz (some ⟨g, 0, none⟩) l.length cap (bys l) hf k hk0 (by omega) (by omega) (by omega) (by rw [hby]; omega)
        (by rw [hby]; have := growslice_fits (need := l.length + k) (old := cap) (bytes := 1) (by omega) (by omega); omega)
      have hge := grownCap_ge w (l.length + k) cap 5
      have hle := grownCap_le_maxLen w (l.length + k) cap 5 (by unfold maxLen; omega)
      refine ⟨_, _, hr0, ⟨by rw [bys_length, Nat.mul_one], .inr ⟨w.heap.size, _, _, by rw [List.length_append, List.length_replicate], hbase, heap_alloc_new w.drew _, by rw [List.length_append, List.length_replicate]; exact hge, hle, ?_, ?_⟩⟩, ⟨rfl, rfl, rfl, by simp, fun j hj _ => heap_alloc_old w.drew _ hj⟩⟩
      · simp only [Array.size_append, List.size_toArray, size_zeroCells, bys_length]
        show l.length + k * 1 + (grownCap w (l.length + k) cap 5 - (l.length + k)) * 1 = _
        omega
      · rw [Nat.mul_one, List.length_append, List.length_replicate]
        simp only [Array.toList_append]
        rw [zeroCells_u8, List.take_left' (by rw [List.length_append, bys_length, bys_length, List.length_replicate])]
        simp [bys]
end Go.Proofs.YtnmmnlffobnbfaaGreatDoor

/- chacha: Stream, Crypt, walked -/
namespace Go.Proofs.YtnmmnlffobnbfaaGreatDoor
open Go.RowKit

def ksC (key nonce : List UInt8) (n : UInt32) : Nat → List UInt8
  | 0 => []
  | k + 1 => ksC key nonce n k ++ blockF key nonce (n + UInt32.ofNat k)
theorem ksC_len (key nonce : List UInt8) (n : UInt32) : ∀ k, (ksC key nonce n k).length = 64 * k
  | 0 => rfl
  | k + 1 => by rw [ksC, List.length_append, ksC_len key nonce n k, blockF_len]; omega
theorem setAll2 {w : World} {b : Nat} {old new : List Value} {T : TypeId} (h : Blk w b old T) (ho : new.length = old.length) : Blk (w.setCells b 0 new) b new T ∧ Chg w.heap.size [b] w (w.setCells b 0 new) := by
  have h1 := h.setCells new 0 (by omega)
  rw [splice_whole _ _ (by omega)] at h1
  exact ⟨h1, (Chg.refl _ _ w).setCells (.inl (by simp)) _ _⟩

set_option maxRecDepth 100000 in
set_option maxHeartbeats 4000000 in
theorem cstream_any (w : World) (key nonce : List UInt8) (n : UInt32) (many : Nat) (hk : key.length = 32) (hn : nonce.length = 12) (h9 : many < 1000000) :
    Calls Tryz.prog 210 #[.agg (bys key).toArray, .agg (bys nonce).toArray, W32 n, .int .i64 many] w fun e w' => ∃ pa cap, e = .returned (.slice pa many cap) ∧ many ≤ cap ∧ RowAt w' pa ((ksC key nonce n ((many + 63) / 64)).take many) ∧ Below w.heap.size w w' := by
  have hK := (Blk.new w (bys key) tA32).alloc (.cells (bys nonce).toArray tN12)
  have hN := Blk.new (w.alloc (.cells (bys key).toArray tA32)) (bys nonce) tN12
  rw [show (w.alloc (.cells (bys key).toArray tA32)).heap.size = w.heap.size + 1 from by simp] at hN
  have hB : Below w.heap.size w ((w.alloc (.cells (bys key).toArray tA32)).alloc (.cells (bys nonce).toArray tN12)) := ((Below.refl _ _).alloc (Nat.le_refl _) _).alloc (by simp) _
  have hs : ((w.alloc (.cells (bys key).toArray tA32)).alloc (.cells (bys nonce).toArray tN12)).heap.size = w.heap.size + 1 + 1 := by simp
  obtain ⟨w1, hw1⟩ : ∃ w1, (w.alloc (.cells (bys key).toArray tA32)).alloc (.cells (bys nonce).toArray tN12) = w1 := ⟨_, rfl⟩
  rw [hw1] at hK hN hB hs
  have HW1 := hid hw1
  obtain ⟨K, hKd⟩ : ∃ K, (many + 63) / 64 = K := ⟨_, rfl⟩
  rw [hKd]
  have k1 : ((many : Int) + 64 - 1) / 64 = (K : Int) := by omega
  have k1t : ((many : Int) + 64 - 1).tdiv 64 = (K : Int) := by rw [Int.tdiv_eq_ediv_of_nonneg (by omega)]; exact k1
  have hK64 : many ≤ 64 * K := by omega
  have hKs : K < 100000 := by omega
  have hmx : max (many : Int) 0 = (many : Int) := by omega
  have HK := hid hKd
  have hsK : (Tryz.prog.info? tA32).map (·.size) = some (bys key).length := by rw [size32b, bys_length, hk]
  have hsN : (Tryz.prog.info? tN12).map (·.size) = some (bys nonce).length := by rw [size12b, bys_length, hn]
  clear hw1 hKd
  go_enter Tryz.func210, Tryz.ntmps210
  go_upto_region 1 with (fail)
  change Code.wp _ _ _ _ ((w.alloc (.cells (bys key).toArray tA32)).alloc (.cells (bys nonce).toArray tN12))
  rw [HW1.out]
  clear HW1
  go_wp2_with fail
  go_loopw [9, 18] (fun v i wr => ∃ k : Nat, k ≤ K ∧ i = .int .i64 k ∧ OwnR w1.heap.size wr v (ksC key nonce n k) ∧ Below w1.heap.size w1 wr) (fun _ i _ => K - (intOf i).toNat)
  case atStart => exact ⟨0, by omega, rfl, OwnR.nil _ _, Below.refl _ _⟩
  case round =>
    obtain ⟨k, hkK, rfl, hown, hB1⟩ := hrel
    have hqw : IntKind.u32.wrap (k : Int) = wv (UInt32.ofNat k) := by rw [w_lit k (by omega), IntKind.wrap_u32]; omega
    have hqw2 : (k : Int) % 4294967296 = wv (UInt32.ofNat k) := by rw [w_lit k (by omega)]; omega
    have hsuc := hid (show ksC key nonce n (k + 1) = ksC key nonce n k ++ blockF key nonce (n + UInt32.ofNat k) from rfl)
    generalize UInt32.ofNat k = uk at *
    have Hown := hid hown
    clear hown
    by_cases hlt : k < K
    · have hltI : (k : Int) < (K : Int) := by omega
      have haw : IntKind.u32.wrap (wv n + wv uk) = wv (n + uk) := by rw [← w_add]; rfl
      have hK2 := hK.below hB1 (by omega)
      have hN2 := hN.below hB1 (by omega)
      have hwk := hid hK2.whole
      have hwn := hid hN2.whole
      clear hK2 hN2
      go_wp2_with (first | (refine wpList_load_mid rfl tA32 (.tmp 4) rfl w.heap.size 0 rfl (bys key) _ hwk.out Tryz.underlying35 rfl hsK ?_) | (refine wpList_load_mid rfl tN12 (.tmp 5) rfl (w.heap.size + 1) 0 rfl (bys nonce) _ hwn.out Tryz.underlying183 rfl hsN ?_))
      refine (chblock_any wr key nonce (n + uk) hk hn).mono ?_
      rintro e w2 ⟨rfl, hB2⟩
      have hO2 := Hown.out.below hB2
      have hB3 := hB1.trans (hB2.mono hB1.size)
      have hl1 := ksC_len key nonce n k
      have hil := blockF_len key nonce (n + uk)
      generalize blockF key nonce (n + uk) = R at *
      generalize ksC key nonce n k = S at *
      clear Hown hwk hwn hB1 hB2
      have hz := Blk.new w2 (bys z64) tB64
      have hst := hid (hz.there 0 (bys R).toArray.size (by rw [List.size_toArray, bys_length, bys_length, hil]; decide))
      have hszR : (Tryz.prog.info? tB64).map (·.size) = some (bys R).toArray.size := by rw [size64, List.size_toArray, bys_length, hil]
      have hpo := hid (all_oneCell_toArray (bys_one R))
      obtain ⟨hA2, hC2⟩ := setAll2 hz (new := bys R) (by rw [bys_length, bys_length, hil]; rfl)
      have hBn : Below w2.heap.size w2 (w2.alloc (.cells (bys z64).toArray tB64)) := (Below.refl _ _).alloc (Nat.le_refl _) _
      have hBm : Below w2.heap.size w2 ((w2.alloc (.cells (bys z64).toArray tB64)).setCells w2.heap.size 0 (bys R)) := hBn.trans (hC2.below (M := w2.heap.size) (by simp) (fun k hk => by simp at hk; omega))
      obtain ⟨w3, hw3⟩ : ∃ w3, (w2.alloc (.cells (bys z64).toArray tB64)).setCells w2.heap.size 0 (bys R) = w3 := ⟨_, rfl⟩
      have hs3 : w3.heap.size = w2.heap.size + 1 := by rw [← hw3, size_setCells]; simp
      rw [hw3] at hA2 hBm
      have hO3 := hO2.below hBm
      have hB4 := hB3.trans (hBm.mono hB3.size)
      have HW3 := hid hw3
      have hrow := hA2.rowAt0
      have hls : S.length + 64 ≤ 140737488355328 := by omega
      clear hz hA2 hC2 hBn hBm hO2 hB3 hw3
      go_upto_region 7 with (refine wpList_store_mid rfl tB64 (.tmp 11) (.tmp 27) rfl w2.heap.size 0 (bys R).toArray rfl rfl hst.out hszR hpo.out ?_)
      change Code.wp _ _ _ _ ((w2.alloc (.cells (bys z64).toArray tB64)).setCells w2.heap.size 0 (bys R))
      rw [HW3.out]
      clear HW3
      go_upto_region 8 with (refine wpList_addO hO3 rfl (.tmp 28) (.tmp 29) rfl rfl (some ⟨w2.heap.size, 0, none⟩) 64 64 R rfl hrow hil hls (by have := hB4.size; omega) ?_; intro v4 w4 hO4 hg4 _)
      have hB5 := hB4.trans (below_grown hg4 (N := w1.heap.size) (by have := hB4.size; omega) (fun j e => (hO3.lt j e).1))
      rw [← hsuc.out] at hO4
      clear hg4 hO3 hB4 hrow hsuc
      go_wp2_with fail
      go_roundw
      case rel => exact ⟨k + 1, by omega, by go_num, hO4, hB5⟩
      case measure => (simp [intOf]; try omega)
    · obtain rfl : k = K := by omega
      have q1 : ¬ ((k : Int) < (k : Int)) := by omega
      have hl1 := ksC_len key nonce n k
      obtain ⟨pa, cap, rfl, hcap, hrow⟩ := Hown.out.row
      have hBf := hB.trans (hB1.mono hB.size)
      rw [hl1] at hcap ⊢

      have hIn : (many : Int) ≤ (cap : Int) := by omega
      generalize 64 * k = t at *

      go_wp2_with fail
      go_ret
      exact ⟨_, _, rfl, by omega, hrow.take _, hBf⟩

def cryC (key nonce : List UInt8) (n : UInt32) (b : List UInt8) : List UInt8 := List.zipWith (· ^^^ ·) b ((ksC key nonce n ((b.length + 63) / 64)).take b.length)
theorem cryC_len (key nonce : List UInt8) (n : UInt32) (b : List UInt8) : (cryC key nonce n b).length = b.length := by
  unfold cryC
  rw [List.length_zipWith, List.length_take, ksC_len]
  omega
theorem cryC_back (key nonce : List UInt8) (n : UInt32) (b : List UInt8) : cryC key nonce n (cryC key nonce n b) = b := by
  have h := cryC_len key nonce n b
  unfold cryC at *
  rw [h]
  have hl : ((ksC key nonce n ((b.length + 63) / 64)).take b.length).length = b.length := by rw [List.length_take, ksC_len]; omega
  generalize (ksC key nonce n ((b.length + 63) / 64)).take b.length = Y at *
  apply List.ext_getElem
  · simp [hl]
  · intro i h1 h2
    simp [UInt8.xor_assoc]
set_option maxRecDepth 100000 in
set_option maxHeartbeats 4000000 in
theorem ccrypt_any (w : World) (key nonce : List UInt8) (n : UInt32) (pa : Option Addr) (many cap : Nat) (b : List UInt8) (hb : RowAt w pa b) (hbl : b.length = many) (hk : key.length = 32) (hn : nonce.length = 12) (h9 : many < 1000000) :
    Calls Tryz.prog 186 #[.agg (bys key).toArray, .agg (bys nonce).toArray, W32 n, .slice pa many cap] w fun e w' => ∃ g, w.heap.size ≤ g ∧ e = .returned (.slice (some ⟨g, 0, none⟩) many many) ∧ Blk w' g (bys (cryC key nonce n b)) tU8 ∧ Below w.heap.size w w' := by
  have hK := (Blk.new w (bys key) tA32).alloc (.cells (bys nonce).toArray tN12)
  have hN := Blk.new (w.alloc (.cells (bys key).toArray tA32)) (bys nonce) tN12
  rw [show (w.alloc (.cells (bys key).toArray tA32)).heap.size = w.heap.size + 1 from by simp] at hN
  have hB : Below w.heap.size w ((w.alloc (.cells (bys key).toArray tA32)).alloc (.cells (bys nonce).toArray tN12)) := ((Below.refl _ _).alloc (Nat.le_refl _) _).alloc (by simp) _
  obtain ⟨w1, hw1⟩ : ∃ w1, (w.alloc (.cells (bys key).toArray tA32)).alloc (.cells (bys nonce).toArray tN12) = w1 := ⟨_, rfl⟩
  rw [hw1] at hK hN hB
  have hb1 := hb.below hB
  have HW1 := hid hw1
  have hsK : (Tryz.prog.info? tA32).map (·.size) = some (bys key).length := by rw [size32b, bys_length, hk]
  have hsN : (Tryz.prog.info? tN12).map (·.size) = some (bys nonce).length := by rw [size12b, bys_length, hn]
  have hwk := hid hK.whole
  have hwn := hid hN.whole
  have hdef := hid (show cryC key nonce n b = List.zipWith (· ^^^ ·) b ((ksC key nonce n ((many + 63) / 64)).take many) by unfold cryC; rw [hbl])
  clear hw1 hK hN
  go_enter Tryz.func186, Tryz.ntmps186
  go_upto_region 1 with (fail)
  change Code.wp _ _ _ _ ((w.alloc (.cells (bys key).toArray tA32)).alloc (.cells (bys nonce).toArray tN12))
  rw [HW1.out]
  clear HW1
  go_wp2_with (first | (refine wpList_load_mid rfl tA32 (.tmp 4) rfl w.heap.size 0 rfl (bys key) _ hwk.out Tryz.underlying35 rfl hsK ?_) | (refine wpList_load_mid rfl tN12 (.tmp 5) rfl (w.heap.size + 1) 0 rfl (bys nonce) _ hwn.out Tryz.underlying183 rfl hsN ?_))
  refine (cstream_any w1 key nonce n many hk hn h9).mono ?_
  rintro e w2 ⟨ps, cs, rfl, _, hrow, hB2⟩
  have hb2 := hb1.below hB2
  have hB3 := hB.trans (hB2.mono hB.size)
  have hl1 : ((ksC key nonce n ((many + 63) / 64)).take many).length = many := by rw [List.length_take, ksC_len]; omega
  generalize (ksC key nonce n ((many + 63) / 64)).take many = Y at *
  clear hB2 hb1
  go_wp2_with fail
  refine (xor_any w2 pa ps many cap many cs many b Y hb2 hrow hbl hl1 (by omega) (by omega)).mono ?_
  rintro e w3 ⟨rfl, hA3, hB4⟩
  rw [← hdef.out] at hA3
  have hB5 := hB3.trans (hB4.mono hB3.size)
  have hge : w.heap.size ≤ w2.heap.size + 2 := by have := hB3.size; omega
  generalize w2.heap.size + 2 = g at *
  go_wp2_with fail
  go_ret
  exact ⟨g, hge, rfl, hA3, hB5⟩
end Go.Proofs.YtnmmnlffobnbfaaGreatDoor
