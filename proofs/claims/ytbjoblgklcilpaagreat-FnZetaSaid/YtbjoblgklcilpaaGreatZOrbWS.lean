/- OrbWS: a part of the proofs of this seat. -/
import Derived.BigQuiet
import Derived.Test.YtbjoblgklcilpaaGreatProg
import Derived.Test.YtbjoblgklcilpaaGreatZOrbW
namespace Go.Proofs.YtbjoblgklcilpaaGreat
open Go.RowKit
set_option linter.all false
set_option maxRecDepth 20000 in
set_option maxHeartbeats 6400000 in
theorem sOrbitWords_any (K : Int) (ao : Option Addr) (n cap : Nat) (F : List ByteArray) (nn : Int) (w : World) (h : Strs w ao n F) (hF : ∀ f ∈ F, f.size ≤ 1048576) :
    Calls Tryz.prog 24 #[.agg #[.int .i64 K, .slice ao n cap], .int .i64 nn] w fun e w' => ∃ v, e = .returned v ∧ OStrs w' w.heap.size v (orbWV K F nn).length (orbWV K F nn) ∧ Below w.heap.size w w' := by
  have HB1 := Lib.hid (below1 w (.cells #[.int .i64 K, .slice ao n cap] 32))
  have HA1 := Lib.hid (h.keep HB1.out)
  have HK1 := Lib.hid (Blk.new w 32 #[.int .i64 K, .slice ao n cap])
  have H := Lib.hid h
  clear h
  have hz1 : w.heap.size ≤ (w.alloc (.cells #[.int .i64 K, .slice ao n cap] 32)).heap.size := HB1.out.size
  have HE0 := Lib.hid (OStrs.empty (w.alloc (.cells #[.int .i64 K, .slice ao n cap] 32)) w.heap.size hz1)
  have hz2 : (w.alloc (.cells #[.int .i64 K, .slice ao n cap] 32)).heap.size = w.heap.size + 1 := by simp
  rw [hz2] at HE0
  have HBE := Lib.hid (belowA (w.alloc (.cells #[.int .i64 K, .slice ao n cap] 32)) (.cells #[] 9))
  have HB2 := Lib.hid (step2 HB1.out HBE.out)
  have HA2 := Lib.hid (HA1.out.keep HBE.out)
  have HK2 := Lib.hid (HK1.out.keep HBE.out)
  have k0 : ((w.alloc (.cells #[.int .i64 K, .slice ao n cap] 32)).alloc (.cells #[] 9)).cell? ⟨w.heap.size, 0, none⟩ = some (.int .i64 K) := HK2.out.cell 0
  have k1 : ((w.alloc (.cells #[.int .i64 K, .slice ao n cap] 32)).alloc (.cells #[] 9)).cell? ⟨w.heap.size, 1, none⟩ = some (.slice ao n cap) := HK2.out.cell 1
  clear hz1 hz2 HBE
  go_enter Tryz.func24, Tryz.ntmps24
  go_wp2_with fail
  generalize (w.alloc (.cells #[.int .i64 K, .slice ao n cap] 32)).alloc (.cells #[] 9) = w1 at HE0 HB2 HA2 HK2 k0 k1 ⊢
  clear HB1 HA1 HK1
  refine (sIsShift_any K ao n cap F _ HA2.out hF).mono ?_
  rintro e w2 ⟨rfl, hb2⟩
  have HB3 := Lib.hid (step2 HB2.out hb2)
  have HK3 := Lib.hid (HK2.out.keep hb2)
  have k0 : w2.cell? ⟨w.heap.size, 0, none⟩ = some (.int .i64 K) := HK3.out.cell 0
  have k1 : w2.cell? ⟨w.heap.size, 1, none⟩ = some (.slice ao n cap) := HK3.out.cell 1
  have HE3 := Lib.hid (HE0.out.keep hb2)
  clear hb2
  cases hs : isSh K F
  · have HR : Hid (orbWV K F nn = []) := by show _ = _; simp [orbWV, hs]
    clear hs k0 k1
    go_wp2_with fail
    go_ret
    rw [HR.out]
    exact ⟨_, rfl, HE3.out, HB3.out⟩
  have hsg := isSh_get hs
  obtain ⟨K, rfl⟩ : ∃ m : Nat, K = m := ⟨K.toNat, by omega⟩
  have hK1 : 1 ≤ K := by omega
  have hK3 : K ≤ 3 := by omega
  have HFF := Lib.hid hsg.2.2
  have HF1 : Hid (∀ f ∈ F, f.size ≤ 100) := fun f hf => by have := (hsg.2.2 f hf).2; omega
  have HSH := Lib.hid hs
  clear hs hsg
  go_wp2_with fail
  refine (l1In_any _ _ _ _).mono ?_
  rintro e w' ⟨rfl, rfl⟩
  cases hn : inR nn 1 6
  · have HR : Hid (orbWV K F nn = []) := by show _ = _; simp [orbWV, hn]
    clear hn k0 k1
    go_wp2_with fail
    go_ret
    rw [HR.out]
    exact ⟨_, rfl, HE3.out, HB3.out⟩
  have hnn := inR_true hn
  obtain ⟨m, rfl⟩ : ∃ m : Nat, nn = m := ⟨nn.toNat, by omega⟩
  have hm1 : 1 ≤ m := by omega
  have hm6 : m ≤ 6 := by omega
  have HR : Hid (orbWV K F m = (allW K m).filter (orbP F)) := by show _ = _; simp [orbWV, HSH.out, hn]
  clear hn hnn
  obtain ⟨R, hR⟩ : ∃ R, allW K m = R := ⟨_, rfl⟩
  have HC := fun W => sAllW_any K m W hK1 hK3 (by omega)
  have hLB : R.length ≤ 6561 := by rw [← hR, allW_len]; exact pow_le_of hK3 (by omega)
  have HKB : Hid (∀ (i : Nat) (s : ByteArray), R[i]? = some s → 0 < s.size ∧ isWd 3 s = true) := by
    show ∀ (i : Nat) (s : ByteArray), _
    intro i s hs
    rw [← hR] at hs
    have hil : i < K ^ m := by have := (List.getElem?_eq_some_iff.1 hs).1; rw [allW_len] at this; exact this
    rw [allW_get hil] at hs
    injection hs with hs
    subst hs
    exact ⟨by rw [wordN_size]; omega, isWd_three hK1 hK3 (by omega)⟩
  rw [hR] at HC HR
  have HC := Lib.hid HC
  clear hR
  go_wp2_with fail
  refine (HC.out _).mono ?_
  rintro e w4 ⟨v4, rfl, ho4, hb4⟩
  obtain ⟨a4, c4, rfl, _⟩ := ho4.form
  have HA := Lib.hid (apart_newO HE3.out hb4 ho4)
  have HO4 := Lib.hid (ho4.mono HB3.out.size)
  have HB4 := Lib.hid (step2 HB3.out hb4)
  have HE4 := Lib.hid (HE3.out.keep hb4)
  have HK4 := Lib.hid (HK3.out.keep hb4)
  clear ho4 hb4 k0 k1 HE3 HK3 HA2 HK2 HE0
  go_wp2_with fail
  go_loopw [5, 7] (fun v x wr => ∃ (i : Nat) (acc : List ByteArray), i ≤ R.length ∧ acc.length ≤ i ∧ x = .int .i64 i ∧ OStrs wr w.heap.size v acc.length acc ∧ OStrs wr w.heap.size (.slice a4 R.length c4) R.length R ∧ Apart (.slice a4 R.length c4) v ∧ v.ownBlock ≠ some w.heap.size ∧ Hid (acc ++ (R.drop i).filter (orbP F) = R.filter (orbP F)) ∧ Blk wr w.heap.size 32 #[.int .i64 K, .slice ao n cap] ∧ Below w.heap.size w wr) (fun _ x _ => R.length - (intOf x).toNat)
  case atStart => exact ⟨0, [], Nat.zero_le _, Nat.le_refl _, rfl, HE4.out, HO4.out, HA.out, by simp [Value.ownBlock], rfl, HK4.out, HB4.out⟩
  case round =>
    obtain ⟨i, acc, hi, hal, rfl, hown, hst, hap, hnb, hr, hkb, hbl⟩ := hrel
    obtain ⟨a7, c7, rfl, _⟩ := hown.form
    have HO := Lib.hid hown
    have HB := Lib.hid hbl
    have HST := Lib.hid hst
    have HAP := Lib.hid hap
    have HNB := Lib.hid hnb
    have HKB2 := Lib.hid hkb
    have HFr := Lib.hid (H.out.keep hbl)
    have k1 : wr.cell? ⟨w.heap.size, 1, none⟩ = some (.slice ao n cap) := hkb.cell 1
    clear hown hbl hst hap hnb hkb HE4 HK4 HO4
    by_cases hlt : i < R.length
    · obtain ⟨b, o, s, rfl, hc, hs⟩ := HST.out.read.at_ hlt
      have HFI := Lib.hid (filt_step (p := orbP F) hs.out hr.out)
      have hsz := HKB.out i s hs.out
      have HW := Lib.hid hsz.2
      have h0 := hsz.1
      have h16 := (isWd_get hsz.2).1
      have hs100 : s.size ≤ 100 := by omega
      have hr100 : (repB s 5).size ≤ 100 := by rw [repB_size]; omega
      clear hs hr hsz
      go_wp2_with fail
      refine (sRoot_any s _ HW.out h0).mono ?_
      rintro e w5 ⟨r, hr, rfl, ⟨m5, rfl⟩⟩
      have hpr := prim_root hr
      clear hr
      cases hl : ((leastB s).toList == s.toList)
      · have HN := Lib.hid (HFI.out.2 (by simp [orbP, hl]))
        clear HFI hpr
        go_wp2_with fail
        go_quiet ((go_at_call 49; exact quiet_Da (sLeast_any s _ HW.out h0)))
        go_wp2_with fail
        go_roundw
        case rel => exact ⟨i + 1, acc, hlt, by omega, by go_num, HO.out.drewN _, HST.out.drewN _, HAP.out, HNB.out, HN.out, HKB2.out.drewN _, below_drewN HB.out _⟩
        case measure => (simp [intOf] <;> omega)
      cases hp : primB s
      · have HN := Lib.hid (HFI.out.2 (by simp [orbP, hp]))
        rw [hp] at hpr
        clear HFI hp
        go_wp2_with fail
        go_quiet ((go_at_call 49; exact quiet_Da (sLeast_any s _ HW.out h0)))
        go_wp2_with fail
        go_roundw
        case rel => exact ⟨i + 1, acc, hlt, by omega, by go_num, HO.out.drewN _, HST.out.drewN _, HAP.out, HNB.out, HN.out, HKB2.out.drewN _, below_drewN HB.out _⟩
        case measure => (simp [intOf] <;> omega)
      have HP := Lib.hid hp
      rw [hp] at hpr
      clear hp
      cases ha : avB F (repB s 5)
      · have HN := Lib.hid (HFI.out.2 (by simp [orbP, ha]))
        have HA5 := Lib.hid ha
        have HAV := fun W (q : Strs W ao n F) => sAvoids_any ao n cap F (repB s 5) W q hr100 HF1.out
        rw [HA5.out] at HAV
        have HAV := Lib.hid HAV
        clear HFI ha
        go_wp2_with fail
        go_quiet (first
          | (go_at_call 49; exact quiet_Da (sLeast_any s _ HW.out h0))
          | (go_at_call 51; exact quiet_La (l2Times_any s 5 _ hs100 (by omega)))
          | (go_at_call 50; exact quiet_La (HAV.out _ (HFr.out.drewN _))))
        go_wp2_with fail
        go_roundw
        case rel => exact ⟨i + 1, acc, hlt, by omega, by go_num, HO.out.drewN _, HST.out.drewN _, HAP.out, HNB.out, HN.out, HKB2.out.drewN _, below_drewN HB.out _⟩
        case measure => (simp [intOf] <;> omega)
      · have HN := Lib.hid (HFI.out.1 (by simp [orbP, ha, hl, HP.out]))
        have HA5 := Lib.hid ha
        have HAV := fun W (q : Strs W ao n F) => sAvoids_any ao n cap F (repB s 5) W q hr100 HF1.out
        rw [HA5.out] at HAV
        have HAV := Lib.hid HAV
        clear HFI ha
        go_wp2_with fail
        go_quiet (first
          | (go_at_call 49; exact quiet_Da (sLeast_any s _ HW.out h0))
          | (go_at_call 51; exact quiet_La (l2Times_any s 5 _ hs100 (by omega)))
          | (go_at_call 50; exact quiet_La (HAV.out _ (HFr.out.drewN _))))
        go_wp2_with (at_builtin; refine wpList_push_strAt (wr.drewN (m5 + nq)) _ rfl (.tmp 56) (.tmp 58) rfl w.heap.size _ _ _ rfl (by exact HO.out.drewN _) (by omega) (by exact HB.out.size) _ rfl rfl ?_; intro v3 w3 ho3 hg3 hn3; have HO3 := Lib.hid ho3; have HB6 := Lib.hid ((below_drewN HB.out _).grown hg3 HB.out.size (fun b hb => (HO.out.ownlt b hb).1)); have HST3 := Lib.hid ((HST.out.drewN _).far hg3 HAP.out); have HAP3 := Lib.hid (hn3.apart HAP.out (fun b hb => (HST.out.ownlt b hb).2)); have hnb3 : v3.ownBlock ≠ some w.heap.size := (by intro e; rcases hn3 with h1 | ⟨d, h1, h2⟩; (· exact HNB.out (h1 ▸ e)); (· rw [h1] at e; injection e with e; have := HKB2.out.lt; simp at h2; omega)); have HNB3 := Lib.hid hnb3; have HK6 := Lib.hid ((HKB2.out.drewN _).grown hg3 (Ne.symm HNB.out)); clear ho3 hg3 hn3 hnb3)
        go_roundw
        case rel => exact ⟨i + 1, _, hlt, by simp; omega, by go_num, by simpa using HO3.out, HST3.out, HAP3.out, HNB3.out, HN.out, HK6.out, HB6.out⟩
        case measure => (simp [intOf] <;> omega)
    · have HFI := Lib.hid (filt_end (by omega) hr.out)
      clear hr
      go_wp2_with fail
      go_ret
      rw [HR.out, ← HFI.out]
      exact ⟨_, rfl, HO.out, HB.out⟩
end Go.Proofs.YtbjoblgklcilpaaGreat
