/- Ax (joined by merge4.py) -/
import Derived.Test.YtnmmnlffobnbfaaGreatDoorMZ
import Derived.Test.YtnmmnlffobnbfaaGreatDoorNB
/- what an algorithm does with bytes, plainly (printed by gen_ax.py) -/
namespace Go.Proofs.YtnmmnlffobnbfaaGreatDoor
open Go.RowKit

theorem blkAt_len (b : List UInt8) (q k : Nat) (h : q < k) (hb : 16 * k ≤ b.length) : (blkAt b q).length = 16 := by
  unfold blkAt; rw [List.length_take, List.length_drop]; omega
theorem openO_len (D : List UInt8 → List UInt8) (iv b : List UInt8) (k : Nat) (hD : ∀ s : List UInt8, s.length = 16 → (D s).length = 16) (hiv : iv.length = 16) (hb : 16 * k ≤ b.length) : ∀ j, j ≤ k → (openO D iv b j).length = 16 * j
  | 0, _ => rfl
  | j + 1, h => by
    have h1 : (prevO iv b j).length = 16 := by
      cases j with
      | zero => exact hiv
      | succ j => exact blkAt_len b j k (by omega) hb
    rw [openO, List.length_append, openO_len D iv b k hD hiv hb j (by omega), List.length_zipWith, hD _ (blkAt_len b j k (by omega) hb), h1]; omega
theorem unpadF_bounds {l : List UInt8} {m : Nat} (h : unpadF l = some m) : m < l.length ∧ l.length ≤ m + 16 := by
  unfold unpadF at h
  split at h
  · cases h
  · split at h
    · cases h
    · split at h
      · injection h with h; omega
      · cases h
theorem xor_back (a b : List UInt8) (n : Nat) (ha : a.length = n) (hb : b.length = n) : List.zipWith (· ^^^ ·) (List.zipWith (· ^^^ ·) a b) a = b := by
  apply List.ext_getElem
  · simp; omega
  · intro i h1 h2
    simp only [List.getElem_zipWith]
    rw [UInt8.xor_comm (a[i]'_) (b[i]'_), UInt8.xor_assoc, UInt8.xor_self, UInt8.xor_zero]
theorem blkAt_seal (E : List UInt8 → List UInt8) (iv p : List UInt8) (k : Nat) (hE : ∀ s : List UInt8, s.length = 16 → (E s).length = 16) (hiv : iv.length = 16) (hp : 16 * k ≤ p.length) : ∀ j q, j ≤ k → q < j → blkAt (sealF E iv p j) q = lastF E iv p (q + 1)
  | 0, _, _, h => absurd h (Nat.not_lt_zero _)
  | j + 1, q, hj, hq => by
    have hl := sealF_len E iv p k hE hiv hp j (by omega)
    have hll := lastF_len E iv p k hE hiv hp (j + 1) hj
    unfold blkAt
    rw [sealF]
    by_cases h : q < j
    · rw [List.drop_append_of_le_length (by omega), List.take_append_of_le_length (by rw [List.length_drop]; omega)]
      exact blkAt_seal E iv p k hE hiv hp j q (by omega) h
    · obtain rfl : q = j := by omega
      rw [← hl, List.drop_left, List.take_of_length_le (by omega)]
theorem openO_seal (D E : List UInt8 → List UInt8) (iv p : List UInt8) (k : Nat) (hE : ∀ s : List UInt8, s.length = 16 → (E s).length = 16) (hDE : ∀ s : List UInt8, s.length = 16 → D (E s) = s) (hiv : iv.length = 16) (hp : 16 * k ≤ p.length) :
    ∀ j, j ≤ k → openO D iv (sealF E iv p k) j = p.take (16 * j)
  | 0, _ => by simp [openO]
  | j + 1, hj => by
    have hpr : prevO iv (sealF E iv p k) j = lastF E iv p j := by
      cases j with
      | zero => rfl
      | succ j => exact blkAt_seal E iv p k hE hiv hp k j (Nat.le_refl _) (by omega)
    have hcl : ((p.drop (16 * j)).take 16).length = 16 := by rw [List.length_take, List.length_drop]; omega
    have hlj := lastF_len E iv p k hE hiv hp j (by omega)
    rw [openO, openO_seal D E iv p k hE hDE hiv hp j (by omega), blkAt_seal E iv p k hE hiv hp k j (Nat.le_refl _) (by omega), hpr, lastF,
      hDE _ (by rw [List.length_zipWith, hlj, hcl]; rfl), xor_back _ _ 16 hlj hcl, ← List.take_add]
    rfl
theorem unpad_pad (b : List UInt8) : unpadF (b ++ padF b.length) = some b.length := by
  obtain ⟨m, hm⟩ : ∃ m, 16 - b.length % 16 = m := ⟨_, rfl⟩
  have hm1 : 1 ≤ m := by omega
  have hm16 : m ≤ 16 := by omega
  have hpf : padF b.length = List.replicate m (UInt8.ofNat m) := by unfold padF; rw [hm]
  have hl : (b ++ padF b.length).length = b.length + m := by rw [hpf]; simp
  have hlast : lastB (b ++ padF b.length) = UInt8.ofNat m := by
    unfold lastB
    rw [hl, hpf, List.getD, List.getElem?_append_right (by omega), List.getElem?_replicate, if_pos (by omega)]
    rfl
  have hn : (UInt8.ofNat m).toNat = m := by simp; omega
  unfold unpadF
  rw [hlast, hn, hl, if_neg (by omega), if_neg (by omega), if_pos]
  · congr 1; omega
  · rw [Nat.add_sub_cancel, List.drop_left, hpf]
theorem copen_seal (D E : List UInt8 → List UInt8) (iv b : List UInt8) (hE : ∀ s : List UInt8, s.length = 16 → (E s).length = 16) (hDE : ∀ s : List UInt8, s.length = 16 → D (E s) = s) (hiv : iv.length = 16) :
    openF D iv (sealF E iv (b ++ padF b.length) (b.length / 16 + 1)) = some b := by
  have hpl : (b ++ padF b.length).length = 16 * (b.length / 16 + 1) := by rw [List.length_append, padF_len]; omega
  have hsl := sealF_len E iv (b ++ padF b.length) (b.length / 16 + 1) hE hiv (by omega) (b.length / 16 + 1) (Nat.le_refl _)
  unfold openF
  rw [hsl, if_neg (by omega), Nat.mul_div_cancel_left _ (by omega), openO_seal D E iv _ _ hE hDE hiv (by omega) _ (Nat.le_refl _), ← hpl, List.take_length, unpad_pad]
  simp
theorem dec_len (rk s : List UInt8) (h : 16 ≤ rk.length) (h2 : 16 * roundsOf rk + 16 ≤ rk.length) (hs : s.length = 16) : (dec rk s).length = 16 := by
  unfold dec; exact addK_len _ _ _ (by omega) (decTo_len _ _ _ _ h2 hs)
theorem sealG_len (E : List UInt8 → List UInt8) (c aad b : List UInt8) (hE : ∀ s : List UInt8, s.length = 16 → (E s).length = 16) (hc : c.length = 16) : (sealG E c aad b).length = b.length + 16 := by
  unfold sealG
  rw [List.length_append, gtagF_len _ _ _ _ (hE c hc), List.length_zipWith, streamF_len E c _ hE hc, Nat.min_self]
theorem sealG_take (E : List UInt8 → List UInt8) (c aad b : List UInt8) (hE : ∀ s : List UInt8, s.length = 16 → (E s).length = 16) (hc : c.length = 16) :
    (sealG E c aad b).take b.length = List.zipWith (· ^^^ ·) b (streamF E c b.length) ∧ (sealG E c aad b).drop b.length = gtagF E c aad (List.zipWith (· ^^^ ·) b (streamF E c b.length)) := by
  have h : (List.zipWith (· ^^^ ·) b (streamF E c b.length)).length = b.length := by rw [List.length_zipWith, streamF_len E c _ hE hc, Nat.min_self]
  unfold sealG
  generalize List.zipWith (· ^^^ ·) b (streamF E c b.length) = X at *
  rw [← h]
  exact ⟨List.take_left, List.drop_left⟩
theorem xor_twice {X S : List UInt8} (h : X.length = S.length) : List.zipWith (· ^^^ ·) (List.zipWith (· ^^^ ·) X S) S = X := by
  apply List.ext_getElem
  · simp; omega
  · intro i h1 h2
    simp only [List.getElem_zipWith]
    rw [UInt8.xor_assoc, UInt8.xor_self, UInt8.xor_zero]
theorem gopen_seal (E : List UInt8 → List UInt8) (c aad b : List UInt8) (hE : ∀ s : List UInt8, s.length = 16 → (E s).length = 16) (hc : c.length = 16) : openG E c aad (sealG E c aad b) = some b := by
  have hl := sealG_len E c aad b hE hc
  obtain ⟨h1, h2⟩ := sealG_take E c aad b hE hc
  unfold openG
  rw [hl, Nat.add_sub_cancel, h1, h2, if_pos rfl, xor_twice (by rw [streamF_len E c _ hE hc])]
/-- A good key: its blocks are as long, and go back. -/
theorem key_good (key : List UInt8) (h : key.length = 16 ∨ key.length = 32) :
    (∀ s : List UInt8, s.length = 16 → (enc (rkD key) s).length = 16) ∧ (∀ s : List UInt8, s.length = 16 → (dec (rkD key) s).length = 16) ∧ (∀ s : List UInt8, s.length = 16 → dec (rkD key) (enc (rkD key) s) = s) := by
  obtain ⟨h1, h2⟩ := rk_len (key.length / 4) key (by omega) (by omega)
  refine ⟨fun s hs => ?_, fun s hs => ?_, fun s hs => dec_enc _ s h1 h2 hs⟩
  · unfold enc; exact encTo_len _ _ _ _ h1 hs
  · exact dec_len _ _ (show 16 ≤ (rkOf (key.length / 4) key).length by omega) h1 hs
theorem openF_len (D : List UInt8 → List UInt8) (iv b l : List UInt8) (hD : ∀ s : List UInt8, s.length = 16 → (D s).length = 16) (hiv : iv.length = 16) (h : openF D iv b = some l) : l.length < b.length ∧ b.length ≤ l.length + 16 := by
  unfold openF at h
  split at h
  · cases h
  · rename_i hm
    have ho := openO_len D iv b (b.length / 16) hD hiv (by omega) (b.length / 16) (Nat.le_refl _)
    cases hu : unpadF (openO D iv b (b.length / 16)) with
    | none => rw [hu] at h; cases h
    | some m =>
      rw [hu] at h
      injection h with h
      have := unpadF_bounds hu
      rw [← h, List.length_take, ho]
      omega
theorem openG_len (E : List UInt8 → List UInt8) (c aad b l : List UInt8) (hE : ∀ s : List UInt8, s.length = 16 → (E s).length = 16) (hc : c.length = 16) (h : openG E c aad b = some l) : l.length = b.length - 16 := by
  unfold openG at h
  split at h
  · injection h with h
    rw [← h, List.length_zipWith, streamF_len E c _ hE hc, List.length_take]; omega
  · cases h
theorem openC_len (key nonce aad b l : List UInt8) (h : openC key nonce aad b = some l) : l.length = b.length - 16 := by
  unfold openC at h
  split at h
  · injection h with h
    rw [← h, cryC_len, List.length_take]; omega
  · cases h
theorem firstF_len' (E : List UInt8 → List UInt8) (iv : List UInt8) : (firstF E iv).length = 16 := firstF_len E iv
/-- An error, and nothing; or how many bytes come out. -/
theorem algF_ans (alg : Int) (op : Bool) (key iv aad b : List UInt8) :
    ((algF alg op key iv aad b).1 ≠ 0 ∧ (algF alg op key iv aad b).2 = []) ∨
    ((algF alg op key iv aad b).1 = 0 ∧ checkF alg op key.length iv.length aad.length = 0 ∧ (roomF alg op b.length).2 = 0 ∧
      if alg = 4 ∧ op = true then (algF alg op key iv aad b).2.length < (roomF alg op b.length).1 ∧ (roomF alg op b.length).1 ≤ (algF alg op key iv aad b).2.length + 16
      else (algF alg op key iv aad b).2.length = (roomF alg op b.length).1) := by
  unfold algF
  by_cases hck : checkF alg op key.length iv.length aad.length ≠ 0
  · rw [if_pos hck]; exact .inl ⟨hck, rfl⟩
  have hck : checkF alg op key.length iv.length aad.length = 0 := by omega
  rw [if_neg (fun h => h hck)]
  by_cases hrm : (roomF alg op b.length).2 ≠ 0
  · rw [if_pos hrm]; exact .inl ⟨hrm, rfl⟩
  have hrm : (roomF alg op b.length).2 = 0 := by omega
  rw [if_neg (fun h => h hrm)]
  obtain ⟨h6, ho2, k2, k3, v3, v5, k7, _⟩ := check_ok hck
  rcases h6 with rfl | rfl | rfl | rfl | rfl | rfl
  · exact .inr ⟨rfl, hck, hrm, by rw [if_neg (fun h => absurd h.1 (by decide)), if_pos rfl]; exact sumS_len b⟩
  · exact .inr ⟨rfl, hck, hrm, by rw [if_neg (fun h => absurd h.1 (by decide)), if_neg (by decide), if_pos rfl]; exact sumS_len _⟩
  · exact .inr ⟨rfl, hck, hrm, by rw [if_neg (fun h => absurd h.1 (by decide)), if_neg (by decide), if_neg (by decide)]; exact xk_len _ _ _ _⟩
  · obtain ⟨hE, hD, _⟩ := key_good key (k3 (.inr (.inl rfl)))
    have hiv := v3 (.inr rfl)
    rw [if_neg (by decide), if_neg (by decide)]
    cases op
    · refine .inr ⟨rfl, hck, hrm, ?_⟩
      rw [if_neg (by decide)]
      show (sealF (enc (rkD key)) iv (b ++ padF b.length) (b.length / 16 + 1)).length = b.length / 16 * 16 + 16
      rw [sealF_len _ iv _ (b.length / 16 + 1) hE hiv (by rw [List.length_append, padF_len]; omega) _ (Nat.le_refl _)]; omega
    · have e : doF 4 true key iv aad b = (match openF (dec (rkD key)) iv b with | some l => (0, l) | none => (16, [])) := rfl
      rw [e]
      cases ho : openF (dec (rkD key)) iv b with
      | none => exact .inl ⟨by decide, rfl⟩
      | some l =>
        refine .inr ⟨rfl, hck, hrm, ?_⟩
        have := openF_len _ iv b l hD hiv ho
        rw [if_pos ⟨rfl, rfl⟩]
        have hr : (roomF 4 true b.length).1 = b.length := by
          unfold roomF at hrm ⊢
          simp at hrm ⊢
          split at hrm
          · rename_i h; rw [if_pos h]
          · cases hrm
        rw [hr]; exact this
  · obtain ⟨hE, _, _⟩ := key_good key (k3 (.inr (.inr rfl)))
    have hc := firstF_len (enc (rkD key)) iv
    rw [if_neg (by decide), if_neg (by decide)]
    cases op
    · refine .inr ⟨rfl, hck, hrm, ?_⟩
      rw [if_neg (by decide)]
      exact sealG_len _ _ aad b hE hc
    · have e : doF 5 true key iv aad b = (match openG (enc (rkD key)) (firstF (enc (rkD key)) iv) aad b with | some l => (0, l) | none => (7, [])) := rfl
      rw [e]
      cases ho : openG (enc (rkD key)) (firstF (enc (rkD key)) iv) aad b with
      | none => exact .inl ⟨by decide, rfl⟩
      | some l =>
        refine .inr ⟨rfl, hck, hrm, ?_⟩
        have := openG_len _ _ aad b l hE hc ho
        rw [if_neg (by decide)]
        have hr : (roomF 5 true b.length).1 = b.length - 16 := by
          unfold roomF at hrm ⊢
          simp at hrm ⊢
          split at hrm
          · rename_i h; rw [if_pos h]
          · cases hrm
        rw [hr]; exact this
  · rw [if_neg (by decide), if_neg (by decide)]
    cases op
    · refine .inr ⟨rfl, hck, hrm, ?_⟩
      rw [if_neg (by decide)]
      exact sealC_len _ _ aad b
    · have e : doF 6 true key iv aad b = (match openC key iv aad b with | some l => (0, l) | none => (7, [])) := rfl
      rw [e]
      cases ho : openC key iv aad b with
      | none => exact .inl ⟨by decide, rfl⟩
      | some l =>
        refine .inr ⟨rfl, hck, hrm, ?_⟩
        have := openC_len _ _ aad b l ho
        rw [if_neg (by decide)]
        have hr : (roomF 6 true b.length).1 = b.length - 16 := by
          unfold roomF at hrm ⊢
          simp at hrm ⊢
          split at hrm
          · rename_i h; rw [if_pos h]
          · cases hrm
        rw [hr]; exact this
theorem checkF_way {alg : Int} (h : 2 < alg) (op op' : Bool) (k v a : Nat) : checkF alg op k v a = checkF alg op' k v a := by
  have e : ∀ o : Bool, (alg < 1 ∨ 6 < alg ∨ (o = true ∧ alg ≤ 2)) ↔ (alg < 1 ∨ 6 < alg) := fun o => by constructor <;> (intro h2; omega)
  unfold checkF
  simp only [e]
/-- Sealing has room. -/
theorem roomF_seal (alg : Int) (n : Nat) : (roomF alg false n).2 = 0 := by
  unfold roomF
  (repeat' split) <;> simp_all
/-- What is sealed is opened to what it was. -/
theorem algF_back (alg : Int) (h2 : 2 < alg) (key iv aad b : List UInt8) (h : (algF alg false key iv aad b).1 = 0) : algF alg true key iv aad (algF alg false key iv aad b).2 = (0, b) := by
  rcases algF_ans alg false key iv aad b with ⟨h0, _⟩ | ⟨_, hck, hrm, hlen⟩
  · exact absurd h h0
  rw [if_neg (by simp)] at hlen
  have hck' : checkF alg true key.length iv.length aad.length = 0 := by rw [checkF_way h2 true false]; exact hck
  obtain ⟨h6, ho2, k2, k3, v3, v5, k7, _⟩ := check_ok hck
  have hsf : algF alg false key iv aad b = doF alg false key iv aad b := by
    unfold algF
    rw [if_neg (fun h => h hck), if_neg (fun h => h hrm), if_neg (by omega), if_neg (by omega)]
  rw [hsf] at hlen ⊢
  obtain ⟨X, hX⟩ : ∃ X, (doF alg false key iv aad b).2 = X := ⟨_, rfl⟩
  rw [hX] at hlen ⊢
  have hro : (roomF alg true X.length).2 = 0 := by
    rw [hlen]
    rcases h6 with rfl | rfl | rfl | rfl | rfl | rfl
    · omega
    · omega
    · rfl
    · show (roomF 4 true (b.length / 16 * 16 + 16)).2 = 0
      unfold roomF
      rw [if_neg (by decide), if_neg (by decide), if_pos rfl, if_pos rfl, if_pos (by omega)]
    · show (roomF 5 true (b.length + 16)).2 = 0
      unfold roomF
      rw [if_neg (by decide), if_neg (by decide), if_neg (by decide), if_pos rfl, if_pos (by omega)]
    · show (roomF 6 true (b.length + 16)).2 = 0
      unfold roomF
      rw [if_neg (by decide), if_neg (by decide), if_neg (by decide), if_pos rfl, if_pos (by omega)]
  unfold algF
  rw [if_neg (fun h => h hck'), if_neg (fun h => h hro), if_neg (by omega), if_neg (by omega), ← hX]
  rcases h6 with rfl | rfl | rfl | rfl | rfl | rfl
  · omega
  · omega
  · show (0, xk _ iv 0 (xk _ iv 0 b)) = _
    rw [xk_xk]
  · obtain ⟨hE, _, hDE⟩ := key_good key (k3 (.inr (.inl rfl)))
    show (match openF (dec (rkD key)) iv (sealF (enc (rkD key)) iv (b ++ padF b.length) (b.length / 16 + 1)) with | some l => (0, l) | none => (16, [])) = _
    rw [copen_seal _ _ iv b hE hDE (v3 (.inr rfl))]
  · obtain ⟨hE, _, _⟩ := key_good key (k3 (.inr (.inr rfl)))
    show (match openG (enc (rkD key)) (firstF (enc (rkD key)) iv) aad (sealG (enc (rkD key)) (firstF (enc (rkD key)) iv) aad b) with | some l => (0, l) | none => (7, [])) = _
    rw [gopen_seal _ _ aad b hE (firstF_len _ _)]
  · show (match openC key iv aad (sealC key iv aad b) with | some l => (0, l) | none => (7, [])) = _
    rw [openC_seal]
/-- With a byte of the tag turned what is sealed is not opened. -/
theorem algF_turned (alg : Int) (h5 : 5 ≤ alg) (key iv aad b : List UInt8) (h : (algF alg false key iv aad b).1 = 0) (X : List UInt8) (hX : X.length = b.length + 16) (ht : X.take b.length = (algF alg false key iv aad b).2.take b.length) (hd : X.drop b.length ≠ (algF alg false key iv aad b).2.drop b.length) :
    algF alg true key iv aad X = (7, []) := by
  rcases algF_ans alg false key iv aad b with ⟨h0, _⟩ | ⟨_, hck, hrm, hlen⟩
  · exact absurd h h0
  have hck' : checkF alg true key.length iv.length aad.length = 0 := by rw [checkF_way (by omega) true false]; exact hck
  obtain ⟨h6, ho2, k2, k3, v3, v5, k7, _⟩ := check_ok hck
  have hsf : algF alg false key iv aad b = doF alg false key iv aad b := by
    unfold algF
    rw [if_neg (fun h => h hck), if_neg (fun h => h hrm), if_neg (by omega), if_neg (by omega)]
  rw [hsf] at ht hd
  have hr : (roomF alg true X.length).2 = 0 := by
    rw [hX]
    unfold roomF
    rw [if_neg (by omega), if_neg (by omega), if_neg (by omega), if_pos rfl, if_pos (by omega)]
  have hx16 : X.length - 16 = b.length := by omega
  unfold algF
  rw [if_neg (fun h => h hck'), if_neg (fun h => h hr), if_neg (by omega), if_neg (by omega)]
  have h56 : alg = 5 ∨ alg = 6 := by omega
  rcases h56 with rfl | rfl
  · obtain ⟨hE, _, _⟩ := key_good key (k3 (.inr (.inr rfl)))
    have hs := sealG_take (enc (rkD key)) (firstF (enc (rkD key)) iv) aad b hE (firstF_len _ _)
    have e : (doF 5 false key iv aad b).2 = sealG (enc (rkD key)) (firstF (enc (rkD key)) iv) aad b := rfl
    rw [e, hs.1] at ht
    rw [e, hs.2] at hd
    show (match openG (enc (rkD key)) (firstF (enc (rkD key)) iv) aad X with | some l => (0, l) | none => (7, [])) = _
    have : openG (enc (rkD key)) (firstF (enc (rkD key)) iv) aad X = none := by
      unfold openG
      rw [hx16, ht, if_neg hd]
    rw [this]
  · have e : (doF 6 false key iv aad b).2 = cryC key iv 1 b ++ atagF key iv aad (cryC key iv 1 b) := rfl
    have hl := cryC_len key iv 1 b
    rw [e, ← hl, List.take_left] at ht
    rw [e, ← hl, List.drop_left] at hd
    rw [hl] at ht hd
    show (match openC key iv aad X with | some l => (0, l) | none => (7, [])) = _
    have : openC key iv aad X = none := by
      unfold openC
      rw [hx16, ht, if_neg hd]
    rw [this]
end Go.Proofs.YtnmmnlffobnbfaaGreatDoor
