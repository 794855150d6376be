/- IWords: a part of the proofs of this seat. -/
import Derived.Test.YtgcemkpinmjaeaaProg
import Derived.Test.YtgcemkpinmjaeaaWordsT
namespace Go.Proofs.Ytgcemkpinmjaeaa
open Go.RowKit
set_option linter.all false
theorem letter_int {k i : Nat} (hk : 1 ≤ k) (hk3 : k ≤ 3) : (((97 + UInt8.ofNat (i % k)).toNat : Nat) : Int) = 97 + (i : Int) % (k : Int) := by
  have hm : i % k < k := Nat.mod_lt _ (by omega)
  have e : (i : Int) % (k : Int) = ((i % k : Nat) : Int) := by simp
  rw [e]
  have h3 : i % k = 0 ∨ i % k = 1 ∨ i % k = 2 := by omega
  rcases h3 with h | h | h <;> rw [h] <;> decide
theorem set_last {t : Nat} {b : UInt8} {S : List UInt8} : (List.replicate (t + 1) 0 ++ S).set t b = List.replicate t 0 ++ ([b] ++ S) := by
  rw [List.replicate_succ', List.append_assoc]
  exact set_mid (by simp)
theorem get_last {t : Nat} {S : List UInt8} : (List.replicate (t + 1) (0 : UInt8) ++ S)[t]? = some 0 := by
  rw [List.replicate_succ', List.append_assoc]
  exact at_mid (by simp)
set_option maxRecDepth 20000 in
set_option maxHeartbeats 3200000 in
theorem iWordAt_any (k n i : Nat) (w : World) (hk : 1 ≤ k) (hk3 : k ≤ 3) (hn : n ≤ 16) (hi : i ≤ 100000) :
    Calls Try.prog 178 #[.int .i64 k, .int .i64 n, .int .i64 i] w fun e w' => e = .returned (.string (wordN k n i)) ∧ Below w.heap.size w w' := by
  have hmk := make_bytes n (by omega) w
  have HM := Lib.hid (OB.made w n (by omega))
  have hk0 : ((k : Int) == 0) = false := by rw [beq_eq_false_iff_ne]; omega
  go_enter Try.func178, Try.ntmps178
  go_wp2_with fail
  clear hmk
  go_loopw [2, 8] (fun x y wr => ∃ (t j : Nat) (S : List UInt8), t ≤ n ∧ j ≤ 100000 ∧ x = .int .i64 j ∧ y = .int .i64 ((t : Int) - 1) ∧ OB wr w.heap.size (.slice (some ⟨w.heap.size, 0, none⟩) n n) (List.replicate t 0 ++ S) ∧ Hid (wdB k t j ++ S = wdB k n i) ∧ Below w.heap.size w wr) (fun _ y _ => (intOf y + 1).toNat)
  case atStart => exact ⟨n, i, [], Nat.le_refl _, hi, rfl, rfl, by simpa using HM.out, by show _ = _; simp, belowA _ _⟩
  case round =>
    obtain ⟨t, j, S, ht, hj, rfl, rfl, hown, hr, hbl⟩ := hrel
    have HB := Lib.hid hbl
    clear hbl HM
    rcases Nat.eq_zero_or_pos t with h0 | h0
    · subst h0
      have e : S = wdB k n i := by have := hr.out; simpa [wdB] using this
      have hl : S.length = n := by rw [e]; exact wdB_len k n i
      have ho : OB wr w.heap.size (.slice (some ⟨w.heap.size, 0, none⟩) n n) S := by simpa using hown
      have hcv := conv_u8 _ _ _ _ ho
      have HE : Hid ((⟨S.toArray⟩ : ByteArray) = wordN k n i) := by show _ = _; rw [e]; rfl
      rw [show (((0 : Nat) : Int) - 1) = -1 from rfl]
      clear hown hr hl ho e
      go_wp2_with fail
      go_ret
      exact ⟨ret_text HE.out, HB.out⟩
    · obtain ⟨t, rfl⟩ : ∃ q, t = q + 1 := ⟨t - 1, by omega⟩
      have HN := Lib.hid (wdB_step hr.out)
      have hs := hown.set t (97 + UInt8.ofNat (j % k))
      rw [letter_int hk hk3, set_last] at hs
      have hc := hown.cell (get_last (t := t) (S := S))
      have hf := hown.frozen t
      have HS := Lib.hid hs
      have HB2 := Lib.hid (HB.out.setCell (p := ⟨w.heap.size, t, none⟩) (Nat.le_refl _) (.int .u8 (97 + (j : Int) % (k : Int))))
      have hm1 : 0 ≤ (j : Int) % (k : Int) := Int.emod_nonneg _ (by omega)
      have hm2 : (j : Int) % (k : Int) < 3 := by have := Int.emod_lt_of_pos (j : Int) (show (0 : Int) < k by omega); omega
      have htn : t < n := by omega
      have hjd : j / k ≤ 100000 := Nat.le_trans (Nat.div_le_self _ _) hj
      have HWD : Hid (wrap64 ((j : Int) / (k : Int)) = ((j / k : Nat) : Int)) := by
        show _ = _
        have e : (j : Int) / (k : Int) = ((j / k : Nat) : Int) := by simp
        obtain ⟨q, hq⟩ : ∃ q, j / k = q := ⟨_, rfl⟩
        have hq2 : q ≤ 100000 := by rw [← hq]; exact hjd
        rw [e, hq]; unfold wrap64; clear hm1 hm2 e; omega
      rw [show (((t + 1 : Nat) : Int) - 1) = (t : Int) from by omega]
      clear hr hs hown
      go_wp2_with fail
      go_roundw
      case rel => exact ⟨t, j / k, _, by omega, hjd, by rw [HWD.out], rfl, HS.out, HN.out, HB2.out⟩
      case measure => (simp [intOf] <;> omega)
theorem wrap_small {x : Int} (h : 0 ≤ x) (h2 : x ≤ 1000000) : wrap64 x = x := by unfold wrap64; omega
set_option maxRecDepth 20000 in
set_option maxHeartbeats 1600000 in
theorem iPower_any (k n : Nat) (w : World) (hk3 : k ≤ 3) (hn : n ≤ 8) :
    Calls Try.prog 177 #[.int .i64 k, .int .i64 n] w fun e w' => e = .returned (.int .i64 ((k ^ n : Nat) : Int)) ∧ w = w' := by
  go_enter Try.func177, Try.ntmps177
  go_wp2_with fail
  go_loop [5, 7] (fun u x => ∃ (i : Nat) (v : Int), i ≤ n ∧ x = .int .i64 i ∧ u = .int .i64 v ∧ Hid (v = ((k ^ i : Nat) : Int))) (fun _ x => n - (intOf x).toNat)
  case atStart => exact ⟨0, 1, Nat.zero_le _, rfl, rfl, by show _ = _; simp⟩
  case round =>
    obtain ⟨i, v, hi, rfl, rfl, hv⟩ := hrel
    by_cases hlt : i < n
    · have HN : Hid (wrap64 (v * (k : Int)) = ((k ^ (i + 1) : Nat) : Int)) := by
        show _ = _
        have h1 : v * (k : Int) = ((k ^ (i + 1) : Nat) : Int) := by rw [hv.out, Nat.pow_succ]; simp
        have h2 := pow_le_of (k := k) (n := i + 1) hk3 (by omega)
        rw [h1]
        exact wrap_small (by omega) (by omega)
      clear hv
      go_wp2_with fail
      go_round
      case rel => exact ⟨i + 1, _, hlt, by go_num, rfl, HN.out⟩
      case measure => (simp [intOf] <;> omega)
    · have e : i = n := by omega
      subst e
      have HV := Lib.hid hv.out
      clear hv
      go_wp2_with fail
      go_ret
      exact ⟨ret_int HV.out, rfl⟩
set_option maxRecDepth 20000 in
set_option maxHeartbeats 1600000 in
theorem iWordsOf_any (k n : Nat) (w : World) (hk : 1 ≤ k) (hk3 : k ≤ 3) (hn : n ≤ 8) :
    Calls Try.prog 153 #[.int .i64 k, .int .i64 n] w fun e w' => ∃ v, e = .returned v ∧ OStrs w' w.heap.size v (allW k n).length (allW k n) ∧ Below w.heap.size w w' := by
  have HE := Lib.hid (OStrs.empty w w.heap.size (Nat.le_refl _))
  obtain ⟨M, hM⟩ : ∃ M, k ^ n = M := ⟨_, rfl⟩
  have hMb : M ≤ 6561 := by rw [← hM]; exact pow_le_of hk3 hn
  have HML : Hid ((allW k n).length = M) := by show _ = _; rw [allW_len, hM]
  have HM := Lib.hid hM
  clear hM
  rw [HML.out]
  go_enter Try.func153, Try.ntmps153
  go_wp2_with (go_at_call 177; refine (iPower_any k n _ hk3 hn).mono ?_; rw [HM.out]; rintro e w' ⟨rfl, rfl⟩)
  go_loopw [5, 11] (fun v x wr => ∃ i : Nat, i ≤ M ∧ x = .int .i64 i ∧ OStrs wr w.heap.size v i ((allW k n).take i) ∧ Below w.heap.size w wr) (fun _ x _ => M - (intOf x).toNat)
  case atStart => exact ⟨0, Nat.zero_le _, rfl, by simpa using HE.out, belowA _ _⟩
  case round =>
    obtain ⟨i, hi, rfl, hown, hbl⟩ := hrel
    obtain ⟨a5, c5, rfl, _⟩ := hown.form
    have HO := Lib.hid hown
    have HB := Lib.hid hbl
    clear hown hbl HE
    by_cases hlt : i < M
    · have HG : Hid ((allW k n)[i]? = some (wordN k n i)) := allW_get (by rw [HM.out]; exact hlt)
      go_wp2_with (first
        | (go_at_call 178; refine (iWordAt_any k n i _ hk hk3 (by omega) (by omega)).mono ?_; rintro e w1 ⟨rfl, hb1⟩; have HO1 := Lib.hid (HO.out.keep hb1); have HB1 := Lib.hid (step2 HB.out hb1); clear hb1)
        | (refine wpList_push_str _ _ rfl (.tmp 14) (.tmp 19) rfl w.heap.size _ _ _ rfl HO1.out (by omega) HB1.out.size _ rfl rfl ?_; intro v2 w2 ho2 hb2; have HO2 := Lib.hid ho2; have HB2 := Lib.hid (HB1.out.trans hb2); clear ho2 hb2))
      go_roundw
      case rel => exact ⟨i + 1, hlt, by go_num, by have h := HO2.out; rw [push_take HG.out] at h; exact h, HB2.out⟩
      case measure => (simp [intOf] <;> omega)
    · have e : i = M := by omega
      subst e
      have ho := HO.out
      rw [List.take_of_length_le (by rw [HML.out]; omega)] at ho
      have HO2 := Lib.hid ho
      clear ho
      go_wp2_with fail
      go_ret
      exact ⟨_, rfl, HO2.out, HB.out⟩
end Go.Proofs.Ytgcemkpinmjaeaa
