/- SLang: a part of the proofs of this seat. -/
import Derived.BigQuiet
import Derived.Deep.RegionLaw
import Derived.Test.YtdmpokanfnlbgaaGreatDoorProg
import Derived.Test.YtdmpokanfnlbgaaGreatDoorBG1b
namespace Go.Proofs.YtdmpokanfnlbgaaGreatDoor
open Go.RowKit
set_option linter.all false
set_option maxRecDepth 20000 in
set_option maxHeartbeats 6400000 in
theorem sLang_any (K : Int) (aF : Option Addr) (nF cF : Nat) (F : List ByteArray) (nn : Int) (w : World) (h : Strs w aF nF F) (hF : ∀ f ∈ F, f.size ≤ 1048576) :
    Calls Tryz.prog 52 #[.agg #[.int .i64 K, .slice aF nF cF], .int .i64 nn] w fun e w' => ∃ v, e = .returned v ∧ OStrs w' w.heap.size v (lang K F nn).length (lang K F nn) ∧ Below w.heap.size w w' := by
  have HB1 := Lib.hid (below1 w (.cells #[.int .i64 K, .slice aF nF cF] 30))
  have HA1 := Lib.hid (h.keep HB1.out)
  have HK1 := Lib.hid (Blk.new w 30 #[.int .i64 K, .slice aF nF cF])
  have HBE := Lib.hid (belowA (w.alloc (.cells #[.int .i64 K, .slice aF nF cF] 30)) (.cells #[] 9))
  have HE0 := Lib.hid (OStrs.empty (w.alloc (.cells #[.int .i64 K, .slice aF nF cF] 30)) (w.alloc (.cells #[.int .i64 K, .slice aF nF cF] 30)).heap.size (Nat.le_refl _))
  have HK2 := Lib.hid (HK1.out.keep HBE.out)
  have k0 : ((w.alloc (.cells #[.int .i64 K, .slice aF nF cF] 30)).alloc (.cells #[] 9)).cell? ⟨w.heap.size, 0, none⟩ = some (.int .i64 K) := HK2.out.cell 0
  have k1 : ((w.alloc (.cells #[.int .i64 K, .slice aF nF cF] 30)).alloc (.cells #[] 9)).cell? ⟨w.heap.size, 1, none⟩ = some (.slice aF nF cF) := HK2.out.cell 1
  have HZ : Hid ((w.alloc (.cells #[.int .i64 K, .slice aF nF cF] 30)).heap.size = w.heap.size + 1) := by show _ = _; simp
  have HFs := Lib.hid hF
  clear h hF HK2
  go_enter Tryz.func52, Tryz.ntmps52
  go_wp2_with fail
  generalize w.alloc (.cells #[.int .i64 K, .slice aF nF cF] 30) = w1 at HB1 HA1 HK1 HBE HE0 HZ k0 k1 ⊢
  generalize w1.alloc (.cells #[] 9) = w2 at HBE HE0 k0 k1 ⊢
  refine (sIsShift_any K aF nF cF F _ (HA1.out.keep HBE.out) HFs.out).mono ?_
  rintro e w3 ⟨rfl, hb3⟩
  have HB3 := Lib.hid (HBE.out.trans (hb3.mono HBE.out.size))
  have HE3 := Lib.hid (HE0.out.keep hb3)
  have HK3 := Lib.hid (HK1.out.keep HB3.out)
  have k0 : w3.cell? ⟨w.heap.size, 0, none⟩ = some (.int .i64 K) := HK3.out.cell 0
  have k1 : w3.cell? ⟨w.heap.size, 1, none⟩ = some (.slice aF nF cF) := HK3.out.cell 1
  clear hb3 HE0
  have HBe : Hid (Below w.heap.size w w3) := HB1.out.trans (HB3.out.mono HB1.out.size)
  have HEe : Hid (OStrs w3 w.heap.size (.slice (some ⟨w.heap.size + 1, 0, none⟩) 0 0) 0 []) := by
    show OStrs _ _ _ _ _
    have q := HE3.out.mono HB1.out.size
    rw [HZ.out] at q
    exact q
  cases hs : isSh K F
  · have HR : Hid (lang K F nn = []) := by show _ = _; simp [lang, hs]
    clear hs k0 k1
    go_wp2_with fail
    go_ret
    rw [HR.out]
    exact ⟨_, rfl, HEe.out, HBe.out⟩
  have hsg := isSh_get hs
  obtain ⟨K, rfl⟩ : ∃ m : Nat, K = m := ⟨K.toNat, by omega⟩
  have hK1 : 1 ≤ K := by omega
  have hK3 : K ≤ 3 := by omega
  have HF1 : Hid (∀ f ∈ F, f.size ≤ 100) := fun f hf => by have := (hsg.2.2 f hf).2; omega
  have HSH := Lib.hid hs
  clear hs hsg
  go_wp2_with fail
  refine (l1In_any _ _ _ _).mono ?_
  rintro e w' ⟨rfl, rfl⟩
  cases hn : inR nn 0 6
  · have HR : Hid (lang K F nn = []) := by show _ = _; simp [lang, hn]
    clear hn k0 k1
    go_wp2_with fail
    go_ret
    rw [HR.out]
    exact ⟨_, rfl, HEe.out, HBe.out⟩
  have hnn := inR_true hn
  obtain ⟨m, rfl⟩ : ∃ m : Nat, nn = m := ⟨nn.toNat, by omega⟩
  have hm6 : m ≤ 6 := by omega
  have HR : Hid (lang K F m = (allW K m).filter (inL F (pairsS K F))) := by show _ = _; simp [lang, HSH.out, hn]
  clear hn hnn HEe HBe
  obtain ⟨R, hR⟩ : ∃ R, allW K m = R := ⟨_, rfl⟩
  have HC := fun W => sAllW_any K m W hK1 hK3 (by omega)
  have hLB : R.length ≤ 6561 := by rw [← hR, allW_len]; exact pow_le_of hK3 (by omega)
  have HSZ : Hid (∀ s ∈ R, s.size ≤ 100) := by
    show ∀ s ∈ R, _
    intro s hs
    rw [← hR] at hs
    obtain ⟨i, _, rfl⟩ := allW_mem hs
    rw [wordN_size]
    omega
  rw [hR] at HC HR
  have HC := Lib.hid HC
  have HCP := Lib.hid (fun W (q : Strs W aF nF F) => sPairs_any K aF nF cF F W q HF1.out hK1 hK3)
  have HPZ : Hid (∀ p ∈ pairsS K F, p.size ≤ 100) := fun p hp => by rw [pairs_size hp]; omega
  have hQ9 : (pairsS K F).length ≤ 9 := pairs_len hK3
  generalize pairsS K F = Q at HR HCP HPZ hQ9
  clear hR
  go_wp2_with fail
  refine (HCP.out _ (HA1.out.keep HB3.out)).mono ?_
  rintro e w4 ⟨v4, rfl, ho4, hb4⟩
  obtain ⟨a4, c4, rfl, _⟩ := ho4.form
  have HAp4 : Hid (Apart (.slice a4 Q.length c4) (.slice (some ⟨w1.heap.size, 0, none⟩) 0 0)) := by
    show Apart _ _
    intro b hb e
    have h1 := (ho4.ownlt b hb).1
    injection e with e
    simp at e
    have h2 := HE3.out.lt.2
    omega
  have HO4 := Lib.hid (ho4.mono HB3.out.size)
  have HB4 := Lib.hid (HB3.out.trans (hb4.mono HB3.out.size))
  have HE4 := Lib.hid (HE3.out.keep hb4)
  have HK4 := Lib.hid (HK3.out.keep hb4)
  have k0 : w4.cell? ⟨w.heap.size, 0, none⟩ = some (.int .i64 K) := HK4.out.cell 0
  clear ho4 hb4 k1 HE3 HK3
  go_wp2_with fail
  refine (HC.out _).mono ?_
  rintro e w5 ⟨v5, rfl, ho5, hb5⟩
  obtain ⟨a5, c5, rfl, _⟩ := ho5.form
  have HAp5 : Hid (Apart (.slice a5 R.length c5) (.slice (some ⟨w1.heap.size, 0, none⟩) 0 0)) := by
    show Apart _ _
    intro b hb e
    have h1 := (ho5.ownlt b hb).1
    injection e with e
    simp at e
    have h2 := HE4.out.lt.2
    omega
  have HO5 := Lib.hid (ho5.mono HB4.out.size)
  have HO45 := Lib.hid (HO4.out.keep hb5)
  have HB5 := Lib.hid (HB4.out.trans (hb5.mono HB4.out.size))
  have HE5 := Lib.hid (HE4.out.keep hb5)
  clear ho5 hb5 k0 HE4 HK4 HO4
  go_wp2_with fail
  go_loopw [5, 8] (fun v x wr => ∃ (i : Nat) (acc : List ByteArray), i ≤ R.length ∧ acc.length ≤ i ∧ x = .int .i64 i ∧ OStrs wr w1.heap.size v acc.length acc ∧ (OStrs wr w1.heap.size (.slice a5 R.length c5) R.length R ∧ OStrs wr w1.heap.size (.slice a4 Q.length c4) Q.length Q) ∧ (Apart (.slice a5 R.length c5) v ∧ Apart (.slice a4 Q.length c4) v) ∧ Hid (acc ++ (R.drop i).filter (inL F Q) = R.filter (inL F Q)) ∧ Below w1.heap.size w1 wr) (fun _ x _ => R.length - (intOf x).toNat)
  case atStart => exact ⟨0, [], Nat.zero_le _, Nat.le_refl _, rfl, (by have q := HE5.out; rw [HZ.out] at q ⊢; exact q), ⟨HO5.out, HO45.out⟩, ⟨(by have q := HAp5.out; rw [HZ.out] at q; exact q), (by have q := HAp4.out; rw [HZ.out] at q; exact q)⟩, rfl, HB5.out⟩
  case round =>
    obtain ⟨i, acc, hi, hal, rfl, hown, ⟨hst, hst4⟩, ⟨hap, hap4⟩, hr, hbl⟩ := hrel
    obtain ⟨a7, c7, rfl, _⟩ := hown.form
    obtain ⟨wo, rfl⟩ : ∃ wo : World, wo = wr := ⟨_, rfl⟩
    have HO := Lib.hid hown
    have HB := Lib.hid hbl
    have HST := Lib.hid hst
    have HST4 := Lib.hid hst4
    have HAP := Lib.hid hap
    have HAP4 := Lib.hid hap4
    have HFr := Lib.hid (HA1.out.keep hbl)
    have HKr := Lib.hid (HK1.out.keep hbl)
    clear hown hbl hst hst4 hap hap4 HE5 HO5 HO45 HAp4 HAp5
    by_cases hlt : i < R.length
    · obtain ⟨b, o, s, rfl, hc, hs⟩ := HST.out.read.at_ hlt
      have HFI := Lib.hid (filt_step (p := inL F Q) hs.out hr.out)
      have hs100 := HSZ.out s (List.mem_of_getElem? hs.out)
      have HCC := Lib.hid hc
      have hd : Below wo.heap.size wo wo.drew := below_drewN (Below.refl _ _) 1
      have HD := Lib.hid hd
      have k0 : wo.drew.cell? ⟨w.heap.size, 0, none⟩ = some (.int .i64 K) := HKr.out.cell 0
      have k1 : wo.drew.cell? ⟨w.heap.size, 1, none⟩ = some (.slice aF nF cF) := HKr.out.cell 1
      have kc : wo.drew.cell? ⟨b, o + i, none⟩ = some (.string s) := hc
      have HIN := fun W (q : Strs W aF nF F) (q2 : Strs W a4 Q.length Q) => sIn_any K aF nF cF F a4 Q.length c4 Q s W q HF1.out q2 HPZ.out hs100
      clear hs hr hd hc
      cases ha : inL F Q s
      · have HN := Lib.hid (HFI.out.2 ha)
        rw [ha] at HIN
        have HIN := Lib.hid HIN
        clear HFI ha
        go_wp2_with fail
        go_cut [37] (fun v wx => v = .bool false ∧ Below wo.heap.size wo wx)
        case first =>
          go_region_with (first
            | (go_at_call 81; refine (HIN.out _ (HFr.out.keep HD.out) (HST4.out.read.keep HD.out)).mono ?_; rintro e w5 ⟨rfl, hb5⟩; have HB5 := Lib.hid (HD.out.trans (hb5.mono (Nat.le_refl _))); clear hb5))
          all_goals (go_wp2_with fail; go_meet; exact ⟨rfl, HB5.out⟩)
        case rest =>
        obtain ⟨rfl, hb6⟩ := hcut
        have HO6 := Lib.hid (HO.out.keep hb6)
        have HS6 := Lib.hid (HST.out.keep hb6)
        have HS64 := Lib.hid (HST4.out.keep hb6)
        have HB6 := Lib.hid (HB.out.trans (hb6.mono HB.out.size))
        clear hb6 k0 k1 kc
        go_wp2_with fail
        go_roundw
        case rel => exact ⟨i + 1, acc, hlt, by omega, by go_num, HO6.out, ⟨HS6.out, HS64.out⟩, ⟨HAP.out, HAP4.out⟩, HN.out, HB6.out⟩
        case measure => (simp [intOf] <;> omega)
      · have HN := Lib.hid (HFI.out.1 ha)
        rw [ha] at HIN
        have HIN := Lib.hid HIN
        clear HFI ha
        go_wp2_with fail
        go_cut [37] (fun v wx => v = .bool true ∧ Below wo.heap.size wo wx)
        case first =>
          go_region_with (first
            | (go_at_call 81; refine (HIN.out _ (HFr.out.keep HD.out) (HST4.out.read.keep HD.out)).mono ?_; rintro e w5 ⟨rfl, hb5⟩; have HB5 := Lib.hid (HD.out.trans (hb5.mono (Nat.le_refl _))); clear hb5))
          all_goals (go_wp2_with fail; go_meet; exact ⟨rfl, HB5.out⟩)
        case rest =>
        obtain ⟨rfl, hb6⟩ := hcut
        have HO6 := Lib.hid (HO.out.keep hb6)
        have HS6 := Lib.hid (HST.out.keep hb6)
        have HS64 := Lib.hid (HST4.out.keep hb6)
        have HB6 := Lib.hid (HB.out.trans (hb6.mono HB.out.size))
        have kc : wc.cell? ⟨b, o + i, none⟩ = some (.string s) := (hb6.cell (World.block_lt_of_cell? wo _ HCC.out)).trans HCC.out
        clear hb6 k0 k1
        go_wp2_with (at_builtin; refine wpList_push_strAt wc _ rfl (.tmp 38) (.tmp 43) rfl w1.heap.size _ _ _ rfl HO6.out (by omega) (by exact HB6.out.size) _ rfl rfl ?_; intro v3 w3 ho3 hg3 hn3; have HO3 := Lib.hid ho3; have HB7 := Lib.hid (HB6.out.grown hg3 HB6.out.size (fun b hb => (HO6.out.ownlt b hb).1)); have HS3 := Lib.hid (HS6.out.far hg3 HAP.out); have HS34 := Lib.hid (HS64.out.far hg3 HAP4.out); have HAP3 := Lib.hid (hn3.apart HAP.out (fun b hb => (HS6.out.ownlt b hb).2)); have HAP34 := Lib.hid (hn3.apart HAP4.out (fun b hb => (HS64.out.ownlt b hb).2)); clear ho3 hg3 hn3)
        go_roundw
        case rel => exact ⟨i + 1, _, hlt, by simp; omega, by go_num, by simpa using HO3.out, ⟨HS3.out, HS34.out⟩, ⟨HAP3.out, HAP34.out⟩, HN.out, HB7.out⟩
        case measure => (simp [intOf] <;> omega)
    · have HFI := Lib.hid (filt_end (by omega) hr.out)
      clear hr
      go_wp2_with fail
      go_ret
      rw [HR.out, ← HFI.out]
      exact ⟨_, rfl, HO.out.mono HB1.out.size, HB1.out.trans (HB.out.mono HB1.out.size)⟩
end Go.Proofs.YtdmpokanfnlbgaaGreatDoor
