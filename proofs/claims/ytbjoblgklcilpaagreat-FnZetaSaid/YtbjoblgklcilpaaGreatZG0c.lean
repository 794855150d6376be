/- Parts of the proof of a law, joined: IWords SHas SWordsS. -/
import Derived.Test.YtbjoblgklcilpaaGreatProg
import Derived.BigQuiet
import Derived.Test.YtbjoblgklcilpaaGreatZG0b
namespace Go.Proofs.YtbjoblgklcilpaaGreat
open Go.RowKit
set_option linter.all false
theorem letter_int {k i : Nat} (hk : 1 ≤ k) (hk3 : k ≤ 3) : (((97 + UInt8.ofNat (i % k)).toNat : Nat) : Int) = 97 + (i : Int) % (k : Int) := by
  have hm : i % k < k := Nat.mod_lt _ (by omega)
  have e : (i : Int) % (k : Int) = ((i % k : Nat) : Int) := by simp
  rw [e]
  have h3 : i % k = 0 ∨ i % k = 1 ∨ i % k = 2 := by omega
  rcases h3 with h | h | h <;> rw [h] <;> decide
theorem set_last {t : Nat} {b : UInt8} {S : List UInt8} : (List.replicate (t + 1) 0 ++ S).set t b = List.replicate t 0 ++ ([b] ++ S) := by
  rw [List.replicate_succ', List.append_assoc]
  exact set_mid (by simp)
theorem get_last {t : Nat} {S : List UInt8} : (List.replicate (t + 1) (0 : UInt8) ++ S)[t]? = some 0 := by
  rw [List.replicate_succ', List.append_assoc]
  exact at_mid (by simp)
set_option maxRecDepth 20000 in
set_option maxHeartbeats 3200000 in
theorem iWordAt_any (k n i : Nat) (w : World) (hk : 1 ≤ k) (hk3 : k ≤ 3) (hn : n ≤ 16) (hi : i ≤ 100000) :
    Calls Tryz.prog 88 #[.int .i64 k, .int .i64 n, .int .i64 i] w fun e w' => e = .returned (.string (wordN k n i)) ∧ Below w.heap.size w w' := by
  have hmk := make_bytes n (by omega) w
  have HM := Lib.hid (OB.made w n (by omega))
  have hk0 : ((k : Int) == 0) = false := by rw [beq_eq_false_iff_ne]; omega
  go_enter Tryz.func88, Tryz.ntmps88
  go_wp2_with fail
  clear hmk
  go_loopw [2, 8] (fun x y wr => ∃ (t j : Nat) (S : List UInt8), t ≤ n ∧ j ≤ 100000 ∧ x = .int .i64 j ∧ y = .int .i64 ((t : Int) - 1) ∧ OB wr w.heap.size (.slice (some ⟨w.heap.size, 0, none⟩) n n) (List.replicate t 0 ++ S) ∧ Hid (wdB k t j ++ S = wdB k n i) ∧ Below w.heap.size w wr) (fun _ y _ => (intOf y + 1).toNat)
  case atStart => exact ⟨n, i, [], Nat.le_refl _, hi, rfl, rfl, by simpa using HM.out, by show _ = _; simp, belowA _ _⟩
  case round =>
    obtain ⟨t, j, S, ht, hj, rfl, rfl, hown, hr, hbl⟩ := hrel
    have HB := Lib.hid hbl
    clear hbl HM
    rcases Nat.eq_zero_or_pos t with h0 | h0
    · subst h0
      have e : S = wdB k n i := by have := hr.out; simpa [wdB] using this
      have hl : S.length = n := by rw [e]; exact wdB_len k n i
      have ho : OB wr w.heap.size (.slice (some ⟨w.heap.size, 0, none⟩) n n) S := by simpa using hown
      have hcv := conv_u8 _ _ _ _ ho
      have HE : Hid ((⟨S.toArray⟩ : ByteArray) = wordN k n i) := by show _ = _; rw [e]; rfl
      rw [show (((0 : Nat) : Int) - 1) = -1 from rfl]
      clear hown hr hl ho e
      go_wp2_with fail
      go_ret
      exact ⟨ret_text HE.out, HB.out⟩
    · obtain ⟨t, rfl⟩ : ∃ q, t = q + 1 := ⟨t - 1, by omega⟩
      have HN := Lib.hid (wdB_step hr.out)
      have hs := hown.set t (97 + UInt8.ofNat (j % k))
      rw [letter_int hk hk3, set_last] at hs
      have hc := hown.cell (get_last (t := t) (S := S))
      have hf := hown.frozen t
      have HS := Lib.hid hs
      have HB2 := Lib.hid (HB.out.setCell (p := ⟨w.heap.size, t, none⟩) (Nat.le_refl _) (.int .u8 (97 + (j : Int) % (k : Int))))
      have hm1 : 0 ≤ (j : Int) % (k : Int) := Int.emod_nonneg _ (by omega)
      have hm2 : (j : Int) % (k : Int) < 3 := by have := Int.emod_lt_of_pos (j : Int) (show (0 : Int) < k by omega); omega
      have htn : t < n := by omega
      have hjd : j / k ≤ 100000 := Nat.le_trans (Nat.div_le_self _ _) hj
      have HWD : Hid (wrap64 ((j : Int) / (k : Int)) = ((j / k : Nat) : Int)) := by
        show _ = _
        have e : (j : Int) / (k : Int) = ((j / k : Nat) : Int) := by simp
        obtain ⟨q, hq⟩ : ∃ q, j / k = q := ⟨_, rfl⟩
        have hq2 : q ≤ 100000 := by rw [← hq]; exact hjd
        rw [e, hq]; unfold wrap64; clear hm1 hm2 e; omega
      rw [show (((t + 1 : Nat) : Int) - 1) = (t : Int) from by omega]
      clear hr hs hown
      go_wp2_with fail
      go_roundw
      case rel => exact ⟨t, j / k, _, by omega, hjd, by rw [HWD.out], rfl, HS.out, HN.out, HB2.out⟩
      case measure => (simp [intOf] <;> omega)
theorem wrap_small {x : Int} (h : 0 ≤ x) (h2 : x ≤ 1000000) : wrap64 x = x := by unfold wrap64; omega
set_option maxRecDepth 20000 in
set_option maxHeartbeats 1600000 in
theorem iPower_any (k n : Nat) (w : World) (hk3 : k ≤ 3) (hn : n ≤ 8) :
    Calls Tryz.prog 87 #[.int .i64 k, .int .i64 n] w fun e w' => e = .returned (.int .i64 ((k ^ n : Nat) : Int)) ∧ w = w' := by
  go_enter Tryz.func87, Tryz.ntmps87
  go_wp2_with fail
  go_loop [5, 7] (fun u x => ∃ (i : Nat) (v : Int), i ≤ n ∧ x = .int .i64 i ∧ u = .int .i64 v ∧ Hid (v = ((k ^ i : Nat) : Int))) (fun _ x => n - (intOf x).toNat)
  case atStart => exact ⟨0, 1, Nat.zero_le _, rfl, rfl, by show _ = _; simp⟩
  case round =>
    obtain ⟨i, v, hi, rfl, rfl, hv⟩ := hrel
    by_cases hlt : i < n
    · have HN : Hid (wrap64 (v * (k : Int)) = ((k ^ (i + 1) : Nat) : Int)) := by
        show _ = _
        have h1 : v * (k : Int) = ((k ^ (i + 1) : Nat) : Int) := by rw [hv.out, Nat.pow_succ]; simp
        have h2 := pow_le_of (k := k) (n := i + 1) hk3 (by omega)
        rw [h1]
        exact wrap_small (by omega) (by omega)
      clear hv
      go_wp2_with fail
      go_round
      case rel => exact ⟨i + 1, _, hlt, by go_num, rfl, HN.out⟩
      case measure => (simp [intOf] <;> omega)
    · have e : i = n := by omega
      subst e
      have HV := Lib.hid hv.out
      clear hv
      go_wp2_with fail
      go_ret
      exact ⟨ret_int HV.out, rfl⟩
set_option maxRecDepth 20000 in
set_option maxHeartbeats 1600000 in
theorem iWordsOf_any (k n : Nat) (w : World) (hk : 1 ≤ k) (hk3 : k ≤ 3) (hn : n ≤ 8) :
    Calls Tryz.prog 63 #[.int .i64 k, .int .i64 n] w fun e w' => ∃ v, e = .returned v ∧ OStrs w' w.heap.size v (allW k n).length (allW k n) ∧ Below w.heap.size w w' := by
  have HE := Lib.hid (OStrs.empty w w.heap.size (Nat.le_refl _))
  obtain ⟨M, hM⟩ : ∃ M, k ^ n = M := ⟨_, rfl⟩
  have hMb : M ≤ 6561 := by rw [← hM]; exact pow_le_of hk3 hn
  have HML : Hid ((allW k n).length = M) := by show _ = _; rw [allW_len, hM]
  have HM := Lib.hid hM
  clear hM
  rw [HML.out]
  go_enter Tryz.func63, Tryz.ntmps63
  go_wp2_with (go_at_call 87; refine (iPower_any k n _ hk3 hn).mono ?_; rw [HM.out]; rintro e w' ⟨rfl, rfl⟩)
  go_loopw [5, 11] (fun v x wr => ∃ i : Nat, i ≤ M ∧ x = .int .i64 i ∧ OStrs wr w.heap.size v i ((allW k n).take i) ∧ Below w.heap.size w wr) (fun _ x _ => M - (intOf x).toNat)
  case atStart => exact ⟨0, Nat.zero_le _, rfl, by simpa using HE.out, belowA _ _⟩
  case round =>
    obtain ⟨i, hi, rfl, hown, hbl⟩ := hrel
    obtain ⟨a5, c5, rfl, _⟩ := hown.form
    have HO := Lib.hid hown
    have HB := Lib.hid hbl
    clear hown hbl HE
    by_cases hlt : i < M
    · have HG : Hid ((allW k n)[i]? = some (wordN k n i)) := allW_get (by rw [HM.out]; exact hlt)
      go_wp2_with (first
        | (go_at_call 88; refine (iWordAt_any k n i _ hk hk3 (by omega) (by omega)).mono ?_; rintro e w1 ⟨rfl, hb1⟩; have HO1 := Lib.hid (HO.out.keep hb1); have HB1 := Lib.hid (step2 HB.out hb1); clear hb1)
        | (refine wpList_push_str _ _ rfl (.tmp 14) (.tmp 19) rfl w.heap.size _ _ _ rfl HO1.out (by omega) HB1.out.size _ rfl rfl ?_; intro v2 w2 ho2 hb2; have HO2 := Lib.hid ho2; have HB2 := Lib.hid (HB1.out.trans hb2); clear ho2 hb2))
      go_roundw
      case rel => exact ⟨i + 1, hlt, by go_num, by have h := HO2.out; rw [push_take HG.out] at h; exact h, HB2.out⟩
      case measure => (simp [intOf] <;> omega)
    · have e : i = M := by omega
      subst e
      have ho := HO.out
      rw [List.take_of_length_le (by rw [HML.out]; omega)] at ho
      have HO2 := Lib.hid ho
      clear ho
      go_wp2_with fail
      go_ret
      exact ⟨_, rfl, HO2.out, HB.out⟩
end Go.Proofs.YtbjoblgklcilpaaGreat

namespace Go.Proofs.YtbjoblgklcilpaaGreat
open Go.RowKit
set_option linter.all false
set_option maxHeartbeats 800000 in
theorem sHas_any (ao : Option Addr) (n cap : Nat) (P : List ByteArray) (x : ByteArray) (w : World) (h : Strs w ao n P) :
    Calls Tryz.prog 117 #[.slice ao n cap, .string x] w fun e w' => e = .returned (.bool (hasT P x)) ∧ w = w' := by
  have hn := h.1
  have hm := h.2.1
  have H := Lib.hid h
  clear h
  go_enter Tryz.func117, Tryz.ntmps117
  go_wp2_with fail
  go_loop [5] (fun v => ∃ k : Nat, k ≤ n ∧ v = .int .i64 k ∧ Hid ((P.drop k).any (fun p => p.toList == x.toList) = hasT P x)) (fun v => n - (intOf v).toNat)
  case atStart => exact ⟨0, Nat.zero_le _, rfl, rfl⟩
  case round =>
    obtain ⟨k, hk, rfl, hr⟩ := hrel
    by_cases hlt : k < n
    · obtain ⟨b, o, p, rfl, hc, hp⟩ := H.out.at_ hlt
      have HST := Lib.hid (any_step hp.out hr.out)
      clear hp hr
      cases ho : (p.toList == x.toList)
      · have HN := Lib.hid (HST.out.2 ho)
        clear HST
        go_wp2_with fail
        go_round
        case rel => exact ⟨k + 1, hlt, by go_num, HN.out⟩
        case measure => simp [intOf]; omega
      · have HN := Lib.hid (HST.out.1 ho)
        clear HST
        go_wp2_with fail
        go_ret
        exact ⟨ret_bool HN.out.symm, rfl⟩
    · have HE := Lib.hid (any_end (by omega) hr.out)
      clear hr
      go_wp2_with fail
      go_ret
      exact ⟨ret_bool HE.out.symm, rfl⟩
end Go.Proofs.YtbjoblgklcilpaaGreat

namespace Go.Proofs.YtbjoblgklcilpaaGreat
open Go.RowKit
set_option linter.all false
set_option maxRecDepth 20000 in
set_option maxHeartbeats 6400000 in
theorem sWordsS_any (K : Nat) (aF : Option Addr) (nF cF : Nat) (F : List ByteArray) (m : Nat) (w : World) (h : Strs w aF nF F) (hF : ∀ f ∈ F, f.size ≤ 100) (hK1 : 1 ≤ K) (hK3 : K ≤ 3) (hm8 : m ≤ 8) :
    Calls Tryz.prog 115 #[.agg #[.int .i64 K, .slice aF nF cF], .int .i64 m] w fun e w' => ∃ v, e = .returned v ∧ OStrs w' w.heap.size v ((allW K m).filter (avB F)).length ((allW K m).filter (avB F)) ∧ Below w.heap.size w w' := by
  have HB1 := Lib.hid (below1 w (.cells #[.int .i64 K, .slice aF nF cF] 32))
  have HA1 := Lib.hid (h.keep HB1.out)
  have HK1 := Lib.hid (Blk.new w 32 #[.int .i64 K, .slice aF nF cF])
  have H := Lib.hid h
  clear h
  have HBE := Lib.hid (belowA (w.alloc (.cells #[.int .i64 K, .slice aF nF cF] 32)) (.cells #[] 9))
  have HE0 := Lib.hid (OStrs.empty (w.alloc (.cells #[.int .i64 K, .slice aF nF cF] 32)) (w.alloc (.cells #[.int .i64 K, .slice aF nF cF] 32)).heap.size (Nat.le_refl _))
  have HK2 := Lib.hid (HK1.out.keep HBE.out)
  have k0 : ((w.alloc (.cells #[.int .i64 K, .slice aF nF cF] 32)).alloc (.cells #[] 9)).cell? ⟨w.heap.size, 0, none⟩ = some (.int .i64 K) := HK2.out.cell 0
  obtain ⟨R, hR⟩ : ∃ R, allW K m = R := ⟨_, rfl⟩
  have HC := fun W => sAllW_any K m W hK1 hK3 hm8
  have hLB : R.length ≤ 6561 := by rw [← hR, allW_len]; exact pow_le_of hK3 hm8
  have HSZ : Hid (∀ s ∈ R, s.size ≤ 100) := by
    show ∀ s ∈ R, _
    intro s hs
    rw [← hR] at hs
    obtain ⟨i, _, rfl⟩ := allW_mem hs
    rw [wordN_size]
    omega
  rw [hR] at HC ⊢
  have HC := Lib.hid HC
  have HZ : Hid ((w.alloc (.cells #[.int .i64 K, .slice aF nF cF] 32)).heap.size = w.heap.size + 1) := by show _ = _; simp
  clear hR HK2
  go_enter Tryz.func115, Tryz.ntmps115
  go_wp2_with fail
  generalize w.alloc (.cells #[.int .i64 K, .slice aF nF cF] 32) = w1 at HB1 HA1 HK1 HBE HE0 HZ k0 ⊢
  generalize w1.alloc (.cells #[] 9) = w2 at HBE HE0 k0 ⊢
  refine (HC.out _).mono ?_
  rintro e w4 ⟨v4, rfl, ho4, hb4⟩
  obtain ⟨a4, c4, rfl, _⟩ := ho4.form
  have HAp : Hid (Apart (.slice a4 R.length c4) (.slice (some ⟨w1.heap.size, 0, none⟩) 0 0)) := by
    show Apart _ _
    intro b hb e
    have h1 := (ho4.ownlt b hb).1
    injection e with e
    simp at e
    have h2 := HE0.out.lt.2
    omega
  have HO4 := Lib.hid (ho4.mono HBE.out.size)
  have HB4 := Lib.hid (HBE.out.trans (hb4.mono HBE.out.size))
  have HE4 := Lib.hid (HE0.out.keep hb4)
  clear ho4 hb4 k0 HE0 HBE
  go_wp2_with fail
  go_loopw [5, 7] (fun v x wr => ∃ (i : Nat) (acc : List ByteArray), i ≤ R.length ∧ acc.length ≤ i ∧ x = .int .i64 i ∧ OStrs wr w1.heap.size v acc.length acc ∧ OStrs wr w1.heap.size (.slice a4 R.length c4) R.length R ∧ Apart (.slice a4 R.length c4) v ∧ Hid (acc ++ (R.drop i).filter (avB F) = R.filter (avB F)) ∧ Below w1.heap.size w1 wr) (fun _ x _ => R.length - (intOf x).toNat)
  case atStart => exact ⟨0, [], Nat.zero_le _, Nat.le_refl _, rfl, (by have q := HE4.out; rw [HZ.out] at q ⊢; exact q), HO4.out, (by have q := HAp.out; rw [HZ.out] at q; exact q), rfl, HB4.out⟩
  case round =>
    obtain ⟨i, acc, hi, hal, rfl, hown, hst, hap, hr, hbl⟩ := hrel
    obtain ⟨a7, c7, rfl, _⟩ := hown.form
    have HO := Lib.hid hown
    have HB := Lib.hid hbl
    have HST := Lib.hid hst
    have HAP := Lib.hid hap
    have HFr := Lib.hid (HA1.out.keep hbl)
    have k1 : wr.cell? ⟨w.heap.size, 1, none⟩ = some (.slice aF nF cF) := (HK1.out.keep hbl).cell 1
    clear hown hbl hst hap HE4 HO4 HAp
    by_cases hlt : i < R.length
    · obtain ⟨b, o, s, rfl, hc, hs⟩ := HST.out.read.at_ hlt
      have HFI := Lib.hid (filt_step (p := avB F) hs.out hr.out)
      have hs100 := HSZ.out s (List.mem_of_getElem? hs.out)
      clear hs hr
      cases ha : avB F s
      · have HN := Lib.hid (HFI.out.2 ha)
        have HAV := fun W (q : Strs W aF nF F) => sAvoids_any aF nF cF F s W q hs100 hF
        rw [ha] at HAV
        have HAV := Lib.hid HAV
        clear HFI ha
        go_wp2_with fail
        go_quiet ((go_at_call 50; first | exact quiet_La (HAV.out _ (HFr.out.drewN _)) | exact quiet_L (HAV.out _ (HFr.out.drewN _))))
        go_wp2_with fail
        go_roundw
        case rel => exact ⟨i + 1, acc, hlt, by omega, by go_num, HO.out.drewN _, HST.out.drewN _, HAP.out, HN.out, below_drewN HB.out _⟩
        case measure => (simp [intOf] <;> omega)
      · have HN := Lib.hid (HFI.out.1 ha)
        have HAV := fun W (q : Strs W aF nF F) => sAvoids_any aF nF cF F s W q hs100 hF
        rw [ha] at HAV
        have HAV := Lib.hid HAV
        clear HFI ha
        go_wp2_with fail
        go_quiet ((go_at_call 50; first | exact quiet_La (HAV.out _ (HFr.out.drewN _)) | exact quiet_L (HAV.out _ (HFr.out.drewN _))))
        go_wp2_with (at_builtin; refine wpList_push_strAt (wr.drewN nq) _ rfl (.tmp 26) (.tmp 31) rfl w1.heap.size _ _ _ rfl (by exact HO.out.drewN _) (by omega) (by exact HB.out.size) _ rfl rfl ?_; intro v3 w3 ho3 hg3 hn3; have HO3 := Lib.hid ho3; have HB6 := Lib.hid ((below_drewN HB.out _).grown hg3 HB.out.size (fun b hb => (HO.out.ownlt b hb).1)); have HST3 := Lib.hid ((HST.out.drewN _).far hg3 HAP.out); have HAP3 := Lib.hid (hn3.apart HAP.out (fun b hb => (HST.out.ownlt b hb).2)); clear ho3 hg3 hn3)
        go_roundw
        case rel => exact ⟨i + 1, _, hlt, by simp; omega, by go_num, by simpa using HO3.out, HST3.out, HAP3.out, HN.out, HB6.out⟩
        case measure => (simp [intOf] <;> omega)
    · have HFI := Lib.hid (filt_end (by omega) hr.out)
      clear hr
      go_wp2_with fail
      go_ret
      rw [← HFI.out]
      exact ⟨_, rfl, HO.out.mono HB1.out.size, HB1.out.trans (HB.out.mono HB1.out.size)⟩
end Go.Proofs.YtbjoblgklcilpaaGreat
