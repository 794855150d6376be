/- SBlockW: a part of the proofs of this seat. -/
import Derived.BigQuiet
import Derived.Deep.RegionHeld3
import Derived.Test.YtdmpokanfnlbgaaGreatDoorProg
import Derived.Test.YtdmpokanfnlbgaaGreatDoorBG0b
import Derived.Test.YtdmpokanfnlbgaaGreatDoorBSLang
import Derived.Test.YtdmpokanfnlbgaaGreatDoorBD3c
namespace Go.Proofs.YtdmpokanfnlbgaaGreatDoor
open Go.RowKit
set_option linter.all false
set_option maxRecDepth 20000 in
set_option maxHeartbeats 6400000 in
theorem sBlockW_any (K : Int) (aF : Option Addr) (nF cF : Nat) (F : List ByteArray) (nn : Int) (w : World) (h : Strs w aF nF F) (hF : ∀ f ∈ F, f.size ≤ 1048576) :
    Calls Tryz.prog 22 #[.agg #[.int .i64 K, .slice aF nF cF], .int .i64 nn] w fun e w' => ∃ v, e = .returned v ∧ OStrs w' w.heap.size v (blkW K F nn).length (blkW K F nn) ∧ Below w.heap.size w w' := by
  have HB1 := Lib.hid (below1 w (.cells #[.int .i64 K, .slice aF nF cF] 30))
  have HA1 := Lib.hid (h.keep HB1.out)
  have HK1 := Lib.hid (Blk.new w 30 #[.int .i64 K, .slice aF nF cF])
  have HBE := Lib.hid (belowA (w.alloc (.cells #[.int .i64 K, .slice aF nF cF] 30)) (.cells #[] 9))
  have HE0 := Lib.hid (OStrs.empty (w.alloc (.cells #[.int .i64 K, .slice aF nF cF] 30)) (w.alloc (.cells #[.int .i64 K, .slice aF nF cF] 30)).heap.size (Nat.le_refl _))
  have HK2 := Lib.hid (HK1.out.keep HBE.out)
  have k0 : ((w.alloc (.cells #[.int .i64 K, .slice aF nF cF] 30)).alloc (.cells #[] 9)).cell? ⟨w.heap.size, 0, none⟩ = some (.int .i64 K) := HK2.out.cell 0
  have k1 : ((w.alloc (.cells #[.int .i64 K, .slice aF nF cF] 30)).alloc (.cells #[] 9)).cell? ⟨w.heap.size, 1, none⟩ = some (.slice aF nF cF) := HK2.out.cell 1
  have HZ : Hid ((w.alloc (.cells #[.int .i64 K, .slice aF nF cF] 30)).heap.size = w.heap.size + 1) := by show _ = _; simp
  have HFs := Lib.hid hF
  clear h hF HK2
  go_enter Tryz.func22, Tryz.ntmps22
  go_wp2_with fail
  generalize w.alloc (.cells #[.int .i64 K, .slice aF nF cF] 30) = w1 at HB1 HA1 HK1 HBE HE0 HZ k0 k1 ⊢
  generalize w1.alloc (.cells #[] 9) = w2 at HBE HE0 k0 k1 ⊢
  refine (sIsShift_any K aF nF cF F _ (HA1.out.keep HBE.out) HFs.out).mono ?_
  rintro e w3 ⟨rfl, hb3⟩
  have HB3 := Lib.hid (HBE.out.trans (hb3.mono HBE.out.size))
  have HE3 := Lib.hid (HE0.out.keep hb3)
  have HK3 := Lib.hid (HK1.out.keep HB3.out)
  have k0 : w3.cell? ⟨w.heap.size, 0, none⟩ = some (.int .i64 K) := HK3.out.cell 0
  have k1 : w3.cell? ⟨w.heap.size, 1, none⟩ = some (.slice aF nF cF) := HK3.out.cell 1
  clear hb3 HE0
  have HBe : Hid (Below w.heap.size w w3) := HB1.out.trans (HB3.out.mono HB1.out.size)
  have HEe : Hid (OStrs w3 w.heap.size (.slice (some ⟨w.heap.size + 1, 0, none⟩) 0 0) 0 []) := by
    show OStrs _ _ _ _ _
    have q := HE3.out.mono HB1.out.size
    rw [HZ.out] at q
    exact q
  cases hs : isSh K F
  · have HR := Lib.hid (blk_no (K := K) (F := F) (n := nn) (.inl hs))
    clear hs k0 k1
    go_wp2_with fail
    go_ret
    rw [HR.out]
    exact ⟨_, rfl, HEe.out, HBe.out⟩
  have HSH := Lib.hid hs
  clear hs
  go_wp2_with fail
  refine (l1In_any _ _ _ _).mono ?_
  rintro e w' ⟨rfl, rfl⟩
  cases hn : inR nn 1 3
  · have HR := Lib.hid (blk_no (K := K) (F := F) (n := nn) (.inr (.inl hn)))
    clear hn k0 k1
    go_wp2_with fail
    go_ret
    rw [HR.out]
    exact ⟨_, rfl, HEe.out, HBe.out⟩
  have HIN := Lib.hid hn
  have hnn := inR_true hn
  obtain ⟨m, rfl⟩ : ∃ m : Nat, nn = m := ⟨nn.toNat, by omega⟩
  have hm1 : 1 ≤ m := by omega
  have hm3 : m ≤ 3 := by omega
  clear hn hnn HEe HBe
  have HRN := Lib.hid (fun h => blk_no (K := K) (F := F) (n := (m : Int)) (.inr (.inr h)))
  have HRY := Lib.hid (fun h => blk_yes (K := K) (F := F) (n := (m : Int)) HSH.out HIN.out h)
  have HCL := Lib.hid (fun W (q : Strs W aF nF F) => sLang_any K aF nF cF F (m : Int) W q HFs.out)
  have HCM := Lib.hid (fun W (q : Strs W aF nF F) => sLang_any K aF nF cF F ((m : Int) + 1) W q HFs.out)
  have HSZ : Hid (∀ s ∈ lang K F ((m : Int) + 1), s.size = m + 1) := by
    show ∀ s ∈ _, _
    intro s hs
    have := lang_size hs
    omega
  generalize lang K F ((m : Int) + 1) = M at HRY HCM HSZ
  have hL27 : (lang K F (m : Int)).length ≤ 1000 := by
    have q := lang_len (K := K) (F := F) (n := (m : Int))
    have q2 : 3 ^ ((m : Int)).toNat ≤ 6561 := pow_le_of (Nat.le_refl _) (by omega)
    have q3 : 3 ^ ((m : Int)).toNat ≤ 3 ^ 3 := Nat.pow_le_pow_right (by omega) (by omega)
    omega
  generalize lang K F (m : Int) = L at HRY HRN HCL hL27
  have HIX := Lib.hid (idx_ok hL27)
  go_wp2_with fail
  refine (HCL.out _ (HA1.out.keep HB3.out)).mono ?_
  rintro e w4 ⟨v4, rfl, ho4, hb4⟩
  obtain ⟨a4, c4, rfl, _⟩ := ho4.form
  have HAp4 : Hid (Apart (.slice a4 L.length c4) (.slice (some ⟨w1.heap.size, 0, none⟩) 0 0)) := by
    show Apart _ _
    intro b hb e
    have h1 := (ho4.ownlt b hb).1
    injection e with e
    simp at e
    have h2 := HE3.out.lt.2
    omega
  have HO4 := Lib.hid (ho4.mono HB3.out.size)
  have HB4 := Lib.hid (HB3.out.trans (hb4.mono HB3.out.size))
  have HE4 := Lib.hid (HE3.out.keep hb4)
  have HK4 := Lib.hid (HK3.out.keep hb4)
  have k0 : w4.cell? ⟨w.heap.size, 0, none⟩ = some (.int .i64 K) := HK4.out.cell 0
  have k1 : w4.cell? ⟨w.heap.size, 1, none⟩ = some (.slice aF nF cF) := HK4.out.cell 1
  clear ho4 hb4 HE3 HK3
  go_wp2_with fail
  refine (HCM.out _ (HA1.out.keep HB4.out)).mono ?_
  rintro e w5 ⟨v5, rfl, ho5, hb5⟩
  obtain ⟨a5, c5, rfl, _⟩ := ho5.form
  have HAp5 : Hid (Apart (.slice a5 M.length c5) (.slice (some ⟨w1.heap.size, 0, none⟩) 0 0)) := by
    show Apart _ _
    intro b hb e
    have h1 := (ho5.ownlt b hb).1
    injection e with e
    simp at e
    have h2 := HE4.out.lt.2
    omega
  have HO5 := Lib.hid (ho5.mono HB4.out.size)
  have HO45 := Lib.hid (HO4.out.keep hb5)
  have HB5 := Lib.hid (HB4.out.trans (hb5.mono HB4.out.size))
  have HE5 := Lib.hid (HE4.out.keep hb5)
  have hM1 := ho5.1
  clear ho5 hb5 k0 k1 HE4 HK4 HO4
  by_cases h10 : L.length ≤ 10
  case neg =>
    have HR := Lib.hid (HRN.out (by omega))
    have d : decide ((L.length : Int) ≤ 10) = false := decide_eq_false (by omega)
    go_wp2_with fail
    go_loopw [5, 8] (fun v x wr => x = .int .i64 0 ∧ v = .slice (some ⟨w1.heap.size, 0, none⟩) 0 0 ∧ OStrs wr w1.heap.size (.slice (some ⟨w1.heap.size, 0, none⟩) 0 0) 0 [] ∧ Below w1.heap.size w1 wr) (fun _ _ _ => 0)
    case atStart => exact ⟨rfl, by rw [HZ.out], by exact HE5.out, HB5.out⟩
    case round =>
      obtain ⟨rfl, rfl, hown, hbl⟩ := hrel
      have HO := Lib.hid hown
      have HB := Lib.hid hbl
      clear hown hbl
      by_cases hM0 : M.length = 0
      · have e : decide ((0 : Int) < (M.length : Int)) = false := decide_eq_false (by omega)
        go_wp2_with fail
        go_ret
        rw [HR.out]
        exact ⟨_, rfl, HO.out.mono HB1.out.size, HB1.out.trans (HB.out.mono HB1.out.size)⟩
      · have e : decide ((0 : Int) < (M.length : Int)) = true := decide_eq_true (by omega)
        go_wp2_with fail
        go_ret
        rw [HR.out]
        exact ⟨_, rfl, HO.out.mono HB1.out.size, HB1.out.trans (HB.out.mono HB1.out.size)⟩
  have HR := Lib.hid (HRY.out h10)
  have d10 : decide ((L.length : Int) ≤ 10) = true := decide_eq_true (by omega)
  go_wp2_with fail
  go_loopw [5, 8] (fun v x wr => ∃ (i : Nat) (acc : List ByteArray), i ≤ M.length ∧ acc.length ≤ i ∧ x = .int .i64 i ∧ OStrs wr w1.heap.size v acc.length acc ∧ (OStrs wr w1.heap.size (.slice a5 M.length c5) M.length M ∧ OStrs wr w1.heap.size (.slice a4 L.length c4) L.length L) ∧ (Apart (.slice a5 M.length c5) v ∧ Apart (.slice a4 L.length c4) v) ∧ Hid (acc ++ (M.drop i).map (blkOne L m) = M.map (blkOne L m)) ∧ Below w1.heap.size w1 wr) (fun _ x _ => M.length - (intOf x).toNat)
  case atStart => exact ⟨0, [], Nat.zero_le _, Nat.le_refl _, rfl, (by have q := HE5.out; rw [HZ.out] at q ⊢; exact q), ⟨HO5.out, HO45.out⟩, ⟨(by have q := HAp5.out; rw [HZ.out] at q; exact q), (by have q := HAp4.out; rw [HZ.out] at q; exact q)⟩, rfl, HB5.out⟩
  case round =>
    obtain ⟨i, acc, hi, hal, rfl, hown, ⟨hst, hst4⟩, ⟨hap, hap4⟩, hr, hbl⟩ := hrel
    obtain ⟨a7, c7, rfl, _⟩ := hown.form
    obtain ⟨wo, rfl⟩ : ∃ wo : World, wo = wr := ⟨_, rfl⟩
    have HO := Lib.hid hown
    have HB := Lib.hid hbl
    have HST := Lib.hid hst
    have HST4 := Lib.hid hst4
    have HAP := Lib.hid hap
    have HAP4 := Lib.hid hap4
    clear hown hbl hst hst4 hap hap4 HE5 HO5 HO45 HAp4 HAp5
    by_cases hlt : i < M.length
    · obtain ⟨b, o, s, rfl, hc, hs⟩ := HST.out.read.at_ hlt
      have HMS := Lib.hid (map_step hs.out hr.out)
      have HSi := hs
      have hsz := HSZ.out s (List.mem_of_getElem? hs.out)
      have hx1 : (m : Int) ≤ (s.size : Int) := by omega
      have hx2 : (1 : Int) ≤ (s.size : Int) := by omega
      have hx3 : (0 : Int) ≤ (m : Int) := by omega
      have HCC := Lib.hid hc
      have HD := Lib.hid (below_drewN (Below.refl wo.heap.size wo) 1)
      have kc : wo.drew.cell? ⟨b, o + i, none⟩ = some (.string s) := hc
      have z1 := fmI_size (HIX.out (s.extract 0 m)).1 (HIX.out (s.extract 0 m)).2
      have z2 := fmI_size (HIX.out (s.extract 1 s.size)).1 (HIX.out (s.extract 1 s.size)).2
      have zc : ¬ 9223372036854775807 < (fmI (idxF L (s.extract 0 m) 0)).size + (fmI (idxF L (s.extract 1 s.size) 0)).size := by omega
      have hsz0 := Lib.hid hsz
      clear hs hr hc z1 z2 hsz
      go_wp2_with fail
      go_region_held3 (fun w' => w'.cell? ⟨b, o + i, none⟩ = some (.string s)) (first | exact kc | exact k6 | exact k7 | exact k8 _ | exact k9) (first
        | (refine step_of_wp rfl (wp_push_strAt w7 _ (.tmp 37) (.tmp 56) rfl w1.heap.size _ _ _ rfl (by exact HO7.out) (by omega) (by exact HB7.out.size) _ rfl rfl ?_); intro v9 w9 ho9 hg9 hn9; have HO9 := Lib.hid ho9; have HB9 := Lib.hid (HB7.out.grown hg9 HB7.out.size (fun b hb => (HO7.out.ownlt b hb).1)); have HS9 := Lib.hid (HS7.out.far hg9 HAP.out); have k9 := HS9.out.read.cellAt HSi.out; have HS94 := Lib.hid (HS74.out.far hg9 HAP4.out); have HAP9 := Lib.hid (hn9.apart HAP.out (fun b hb => (HS7.out.ownlt b hb).2)); have HAP94 := Lib.hid (hn9.apart HAP4.out (fun b hb => (HS74.out.ownlt b hb).2)); clear ho9 hg9 hn9)
        | (go_at_call 53; refine (sFmtI_any _ w6 (HIX.out _).1 (HIX.out _).2).mono ?_; rintro e w7 ⟨rfl, hb7⟩; have HO7 := Lib.hid (HO6.out.keep hb7); have HS7 := Lib.hid (HS6.out.keep hb7); have HS74 := Lib.hid (HS64.out.keep hb7); have HB7 := Lib.hid (HB6.out.trans (hb7.mono HB6.out.size)); have k7 : w7.cell? ⟨b, o + i, none⟩ = some (.string s) := (hb7.cell (World.block_lt_of_cell? w6 _ k6)).trans k6; have k8 := fun ob => ((belowA w7 ob).cell (World.block_lt_of_cell? w7 _ k7)).trans k7; clear hb7)
        | (go_at_call 54; refine (sIdx_any a4 L.length c4 L _ w6 HS64.out.read).mono ?_; rintro e w' ⟨rfl, rfl⟩)
        | (go_at_call 53; refine (sFmtI_any _ wo.drew (HIX.out _).1 (HIX.out _).2).mono ?_; rintro e w6 ⟨rfl, hb6⟩; have hb6' := HD.out.trans (hb6.mono (Nat.le_refl _)); have HO6 := Lib.hid (HO.out.keep hb6'); have HS6 := Lib.hid (HST.out.keep hb6'); have HS64 := Lib.hid (HST4.out.keep hb6'); have HB6 := Lib.hid (HB.out.trans (hb6'.mono HB.out.size)); have k6 : w6.cell? ⟨b, o + i, none⟩ = some (.string s) := (hb6'.cell (World.block_lt_of_cell? wo _ HCC.out)).trans HCC.out; clear hb6 hb6')
        | (go_at_call 54; refine (sIdx_any a4 L.length c4 L _ wo.drew (HST4.out.read.keep HD.out)).mono ?_; rintro e w' ⟨rfl, rfl⟩))
      go_wp2_with fail
      go_roundw
      case rel => exact ⟨i + 1, _, hlt, by simp; omega, by go_num, by simpa [blkOne] using HO9.out, ⟨HS9.out, HS94.out⟩, ⟨HAP9.out, HAP94.out⟩, HMS.out, HB9.out⟩
      case measure => (simp [intOf] <;> omega)
    · have HFI := Lib.hid (map_end (by omega) hr.out)
      clear hr
      go_wp2_with fail
      go_ret
      rw [HR.out]
      have e : ((m : Int)).toNat = m := by omega
      rw [e, ← HFI.out]
      exact ⟨_, rfl, HO.out.mono HB1.out.size, HB1.out.trans (HB.out.mono HB1.out.size)⟩
end Go.Proofs.YtdmpokanfnlbgaaGreatDoor
