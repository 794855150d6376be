/- IBlockW: a part of the proofs of this seat. -/
import Derived.BigQuiet
import Derived.Deep.RegionHeld3
import Derived.Test.YtdmpokanfnlbgaaGreatDoorProg
import Derived.Test.YtdmpokanfnlbgaaGreatDoorBG2a
import Derived.Test.YtdmpokanfnlbgaaGreatDoorBG0c
import Derived.Test.YtdmpokanfnlbgaaGreatDoorBG0b
import Derived.Test.YtdmpokanfnlbgaaGreatDoorBD3c
namespace Go.Proofs.YtdmpokanfnlbgaaGreatDoor
open Go.RowKit
set_option linter.all false
def blkI (K : Int) (F : List ByteArray) (n : Int) : List ByteArray :=
  if isSh K F && (inR n 1 3 && decide ((langI K.toNat n.toNat F).length ≤ 10)) then (langI K.toNat (n.toNat + 1) F).map (blkOne (langI K.toNat n.toNat F) n.toNat) else []
theorem blkI_no {K : Int} {F : List ByteArray} {n : Int} (h : isSh K F = false ∨ inR n 1 3 = false ∨ 10 < (langI K.toNat n.toNat F).length) : blkI K F n = [] := by
  rcases h with h | h | h
  · simp [blkI, h]
  · simp [blkI, h]
  · have : ¬ (langI K.toNat n.toNat F).length ≤ 10 := by omega
    simp [blkI, this]
theorem blkI_yes {K m : Nat} {F : List ByteArray} (h1 : isSh K F = true) (h2 : inR (m : Int) 1 3 = true) (h3 : (langI K m F).length ≤ 10) : blkI K F m = (langI K (m + 1) F).map (blkOne (langI K m F) m) := by
  simp [blkI, h1, h2, h3]
theorem langI_size {K m : Nat} {F : List ByteArray} {s : ByteArray} (h : s ∈ langI K m F) : s.size = m := by
  obtain ⟨i, _, rfl⟩ := allW_mem (List.mem_filter.1 h).1
  exact wordN_size _ _ _
theorem langI_len {K m : Nat} {F : List ByteArray} (hK : K ≤ 3) (hm : m ≤ 4) : (langI K m F).length ≤ 100 := by
  refine Nat.le_trans (List.length_filter_le _ _) ?_
  rw [allW_len]
  have h1 : K ^ m ≤ 3 ^ m := Nat.pow_le_pow_left hK m
  have h2 : 3 ^ m ≤ 3 ^ 4 := Nat.pow_le_pow_right (by omega) hm
  omega
set_option maxRecDepth 20000 in
set_option maxHeartbeats 6400000 in
theorem iBlockW_any (K : Int) (aF : Option Addr) (nF cF : Nat) (F : List ByteArray) (nn : Int) (w : World) (h : Strs w aF nF F) (hF : ∀ f ∈ F, f.size ≤ 1048576) (hm : MaxM w) (hp : PowV w) :
    Calls Tryz.prog 21 #[.agg #[.int .i64 K, .slice aF nF cF], .int .i64 nn] w fun e w' => ∃ v, e = .returned v ∧ OStrs w' w.heap.size v (blkI K F nn).length (blkI K F nn) ∧ Below w.heap.size w w' := by
  have HB1 := Lib.hid (below1 w (.cells #[.int .i64 K, .slice aF nF cF] 30))
  have HA1 := Lib.hid (h.keep HB1.out)
  have HM1 := Lib.hid (hm.keep HB1.out)
  have HP1 := Lib.hid (hp.keep HB1.out)
  have HK1 := Lib.hid (Blk.new w 30 #[.int .i64 K, .slice aF nF cF])
  have k0 : (w.alloc (.cells #[.int .i64 K, .slice aF nF cF] 30)).cell? ⟨w.heap.size, 0, none⟩ = some (.int .i64 K) := HK1.out.cell 0
  have k1 : (w.alloc (.cells #[.int .i64 K, .slice aF nF cF] 30)).cell? ⟨w.heap.size, 1, none⟩ = some (.slice aF nF cF) := HK1.out.cell 1
  have HFs := Lib.hid hF
  clear h hF hm hp
  go_enter Tryz.func21, Tryz.ntmps21
  go_wp2_with fail
  generalize w.alloc (.cells #[.int .i64 K, .slice aF nF cF] 30) = w1 at HB1 HA1 HM1 HP1 HK1 k0 k1 ⊢
  refine (iIsShift_any K aF nF cF F _ HA1.out HFs.out).mono ?_
  rintro e w3 ⟨rfl, hb3⟩
  have HB3 := Lib.hid (step2 HB1.out hb3)
  have HA3 := Lib.hid (HA1.out.keep hb3)
  have HM3 := Lib.hid (HM1.out.keep hb3)
  have HP3 := Lib.hid (HP1.out.keep hb3)
  have HK3 := Lib.hid (HK1.out.keep hb3)
  have k0 : w3.cell? ⟨w.heap.size, 0, none⟩ = some (.int .i64 K) := HK3.out.cell 0
  have k1 : w3.cell? ⟨w.heap.size, 1, none⟩ = some (.slice aF nF cF) := HK3.out.cell 1
  clear hb3 HA1 HM1 HP1 HK1 HB1
  cases hs : isSh K F
  · have HR := Lib.hid (blkI_no (K := K) (F := F) (n := nn) (.inl hs))
    clear hs k0 k1
    go_wp2_with fail
    go_ret
    rw [HR.out]
    exact ⟨_, rfl, OStrs.none_ _ _, HB3.out⟩
  by_cases n1 : nn < 1
  · have d1 : decide (nn < 1) = true := decide_eq_true n1
    have HR := Lib.hid (blkI_no (K := K) (F := F) (n := nn) (.inr (.inl (inR_no (.inl n1)))))
    clear hs k0 k1 n1
    go_wp2_with fail
    go_ret
    rw [HR.out]
    exact ⟨_, rfl, OStrs.none_ _ _, HB3.out⟩
  have d1 : decide (nn < 1) = false := decide_eq_false n1
  by_cases n3 : 3 < nn
  · have d3 : decide (3 < nn) = true := decide_eq_true n3
    have HR := Lib.hid (blkI_no (K := K) (F := F) (n := nn) (.inr (.inl (inR_no (.inr n3)))))
    clear hs k0 k1 n1 n3
    go_wp2_with fail
    go_ret
    rw [HR.out]
    exact ⟨_, rfl, OStrs.none_ _ _, HB3.out⟩
  have d3 : decide (3 < nn) = false := decide_eq_false n3
  have hsg := isSh_get hs
  obtain ⟨K, rfl⟩ : ∃ m : Nat, K = m := ⟨K.toNat, by omega⟩
  obtain ⟨m, rfl⟩ : ∃ m : Nat, nn = m := ⟨nn.toNat, by omega⟩
  have hK1 : 1 ≤ K := by omega
  have hK3 : K ≤ 3 := by omega
  have hm1 : 1 ≤ m := by omega
  have hm3 : m ≤ 3 := by omega
  have HIN : Hid (inR (m : Int) 1 3 = true) := by show _ = _; simp [inR]; omega
  have HSH := Lib.hid hs
  have HF3 : Hid (∀ f ∈ F, 0 < f.size ∧ f.size ≤ 3) := hsg.2.2
  clear hs hsg n1 n3
  have HRN := Lib.hid (fun h => blkI_no (K := (K : Int)) (F := F) (n := (m : Int)) (.inr (.inr h)))
  have HRY := Lib.hid (fun h => blkI_yes (K := K) (F := F) (m := m) HSH.out HIN.out h)
  have HCL := Lib.hid (fun W (q : Strs W aF nF F) q2 => iLang_any K m aF nF cF F W q HF3.out hK1 hK3 hm1 (by omega) q2)
  have HCM := Lib.hid (fun W (q : Strs W aF nF F) q2 => iLang_any K (m + 1) aF nF cF F W q HF3.out hK1 hK3 (by omega) (by omega) q2)
  have HSZ : Hid (∀ s ∈ langI K (m + 1) F, s.size = m + 1) := fun s hs => langI_size hs
  have hML := langI_len (K := K) (m := m + 1) (F := F) hK3 (by omega)
  have hL27 := langI_len (K := K) (m := m) (F := F) hK3 (by omega)
  simp only [Int.toNat_natCast] at HRN
  generalize langI K (m + 1) F = M at HRY HCM HSZ hML
  generalize langI K m F = L at HRY HRN HCL hL27
  have HIX := Lib.hid (idx_ok (L := L) (by omega))
  go_wp2_with fail
  refine (HCL.out _ HA3.out HM3.out).mono ?_
  rintro e w4 ⟨v4, rfl, ho4, hb4⟩
  obtain ⟨a4, c4, rfl, _⟩ := ho4.form
  have HL4 := Lib.hid ho4.read
  have HB4 := Lib.hid (step2 HB3.out hb4)
  have HA4 := Lib.hid (HA3.out.keep hb4)
  have HM4 := Lib.hid (HM3.out.keep hb4)
  have HP4 := Lib.hid (HP3.out.keep hb4)
  have HK4 := Lib.hid (HK3.out.keep hb4)
  have k0 : w4.cell? ⟨w.heap.size, 0, none⟩ = some (.int .i64 K) := HK4.out.cell 0
  have k1 : w4.cell? ⟨w.heap.size, 1, none⟩ = some (.slice aF nF cF) := HK4.out.cell 1
  clear ho4 hb4 HA3 HM3 HP3 HK3 HB3
  by_cases h10 : 10 < L.length
  · have HR := Lib.hid (HRN.out h10)
    have d : decide ((10 : Int) < (L.length : Int)) = true := decide_eq_true (by omega)
    clear k0 k1 h10
    go_wp2_with fail
    go_ret
    rw [HR.out]
    exact ⟨_, rfl, OStrs.none_ _ _, HB4.out⟩
  have HR := Lib.hid (HRY.out (by omega))
  have d10 : decide ((10 : Int) < (L.length : Int)) = false := decide_eq_false (by omega)
  have HBE := Lib.hid (belowA w4 (.cells #[] 9))
  have HE4 := Lib.hid (OStrs.empty w4 w4.heap.size (Nat.le_refl _))
  have HKE := Lib.hid (HK4.out.keep HBE.out)
  have k0e : (w4.alloc (.cells #[] 9)).cell? ⟨w.heap.size, 0, none⟩ = some (.int .i64 K) := HKE.out.cell 0
  have k1e : (w4.alloc (.cells #[] 9)).cell? ⟨w.heap.size, 1, none⟩ = some (.slice aF nF cF) := HKE.out.cell 1
  go_wp2_with fail
  refine (HCM.out _ (HA4.out.keep HBE.out) (HM4.out.keep HBE.out)).mono ?_
  rintro e w5 ⟨v5, rfl, ho5, hb5⟩
  obtain ⟨a5, c5, rfl, _⟩ := ho5.form
  have HAp5 : Hid (Apart (.slice a5 M.length c5) (.slice (some ⟨w4.heap.size, 0, none⟩) 0 0)) := by
    show Apart _ _
    intro b hb e
    have h1 := (ho5.ownlt b hb).1
    have he2 : w4.heap.size = b := by simpa [Value.ownBlock] using e
    have h2 := HE4.out.lt.2
    omega
  have HO5 := Lib.hid (ho5.mono HBE.out.size)
  have HB5 := Lib.hid (HBE.out.trans (hb5.mono HBE.out.size))
  have HE5 := Lib.hid (HE4.out.keep hb5)
  clear ho5 hb5 k0 k1 k0e k1e
  go_wp2_with fail
  go_loopw [6, 32] (fun v x wr => ∃ (i : Nat) (acc : List ByteArray), i ≤ M.length ∧ acc.length ≤ i ∧ x = .int .i64 i ∧ OStrs wr w4.heap.size v acc.length acc ∧ OStrs wr w4.heap.size (.slice a5 M.length c5) M.length M ∧ Apart (.slice a5 M.length c5) v ∧ Hid (acc ++ (M.drop i).map (blkOne L m) = M.map (blkOne L m)) ∧ Below w4.heap.size w4 wr) (fun _ x _ => M.length - (intOf x).toNat)
  case atStart => exact ⟨0, [], Nat.zero_le _, Nat.le_refl _, rfl, HE5.out, HO5.out, HAp5.out, rfl, HB5.out⟩
  case round =>
    obtain ⟨i, acc, hi, hal, rfl, hown, hst, hap, hr, hbl⟩ := hrel
    obtain ⟨a7, c7, rfl, _⟩ := hown.form
    obtain ⟨wo, rfl⟩ : ∃ wo : World, wo = wr := ⟨_, rfl⟩
    have HO := Lib.hid hown
    have HB := Lib.hid hbl
    have HST := Lib.hid hst
    have HLo := Lib.hid (HL4.out.keep hbl)
    have HPo := Lib.hid (HP4.out.keep hbl)
    have HAP := Lib.hid hap
    clear hown hbl hst hap HE5 HO5 HAp5 HB5
    by_cases hlt : i < M.length
    · obtain ⟨b, o, s, rfl, hc, hs⟩ := HST.out.read.at_ hlt
      have HMS := Lib.hid (map_step hs.out hr.out)
      have HSi := hs
      have hsz := HSZ.out s (List.mem_of_getElem? hs.out)
      have hx1 : (m : Int) ≤ (s.size : Int) := by omega
      have hx2 : (1 : Int) ≤ (s.size : Int) := by omega
      have hx3 : (0 : Int) ≤ (m : Int) := by omega
      have HCC := Lib.hid hc
      have HD := Lib.hid (below_drewN (Below.refl wo.heap.size wo) 1)
      have kc : wo.drew.cell? ⟨b, o + i, none⟩ = some (.string s) := hc
      have z1 := fmI_size (HIX.out (s.extract 0 m)).1 (HIX.out (s.extract 0 m)).2
      have z2 := fmI_size (HIX.out (s.extract 1 s.size)).1 (HIX.out (s.extract 1 s.size)).2
      have zc : ¬ 9223372036854775807 < (fmI (idxF L (s.extract 0 m) 0)).size + (fmI (idxF L (s.extract 1 s.size) 0)).size := by omega
      clear hs hr z1 z2 hsz
      go_wp2_with fail
      go_region_held3 (fun w' => w'.cell? ⟨b, o + i, none⟩ = some (.string s)) (first | exact kc | exact k6 | exact k7 | exact k8 _ | exact k9) (first
        | (refine step_of_wp rfl (wp_push_strAt w7 _ (.tmp 36) (.tmp 49) rfl w4.heap.size _ _ _ rfl (by exact HO7.out) (by omega) (by exact HB7.out.size) _ rfl rfl ?_); intro v9 w9 ho9 hg9 hn9; have HO9 := Lib.hid ho9; have HB9 := Lib.hid (HB7.out.grown hg9 HB7.out.size (fun b hb => (HO7.out.ownlt b hb).1)); have HS9 := Lib.hid (HS7.out.far hg9 HAP.out); have k9 := HS9.out.read.cellAt HSi.out; have HAP9 := Lib.hid (hn9.apart HAP.out (fun b hb => (HS7.out.ownlt b hb).2)); clear ho9 hg9 hn9)
        | (go_at_call 49; refine (iFmtI_any _ w6 (HIX.out _).1 (HIX.out _).2 HP6.out).mono ?_; rintro e w7 ⟨rfl, hb7⟩; have HO7 := Lib.hid (HO6.out.keep hb7); have HS7 := Lib.hid (HS6.out.keep hb7); have HB7 := Lib.hid (HB6.out.trans (hb7.mono HB6.out.size)); have k7 : w7.cell? ⟨b, o + i, none⟩ = some (.string s) := (hb7.cell (World.block_lt_of_cell? w6 _ k6)).trans k6; have k8 := fun ob => ((belowA w7 ob).cell (World.block_lt_of_cell? w7 _ k7)).trans k7; clear hb7)
        | (go_at_call 50; refine (iIdx_any a4 L.length c4 L _ w6 HL6.out).mono ?_; rintro e w' ⟨rfl, rfl⟩)
        | (go_at_call 49; refine (iFmtI_any _ wo.drew (HIX.out _).1 (HIX.out _).2 (HPo.out.keep HD.out)).mono ?_; rintro e w6 ⟨rfl, hb6⟩; have hb6' := HD.out.trans (hb6.mono (Nat.le_refl _)); have HO6 := Lib.hid (HO.out.keep hb6'); have HS6 := Lib.hid (HST.out.keep hb6'); have HL6 := Lib.hid (HLo.out.keep hb6'); have HP6 := Lib.hid (HPo.out.keep hb6'); have HB6 := Lib.hid (HB.out.trans (hb6'.mono HB.out.size)); have k6 : w6.cell? ⟨b, o + i, none⟩ = some (.string s) := (hb6'.cell (World.block_lt_of_cell? wo _ HCC.out)).trans HCC.out; clear hb6 hb6')
        | (go_at_call 50; refine (iIdx_any a4 L.length c4 L _ wo.drew (HLo.out.keep HD.out)).mono ?_; rintro e w' ⟨rfl, rfl⟩))
      all_goals
        go_wp2_with fail
        go_roundw
        case rel => exact ⟨i + 1, _, hlt, by simp; omega, by go_num, by simpa [blkOne] using HO9.out, HS9.out, HAP9.out, HMS.out, HB9.out⟩
        case measure => (simp [intOf] <;> omega)
    · have HFI := Lib.hid (map_end (by omega) hr.out)
      clear hr
      go_wp2_with fail
      go_ret
      rw [HR.out, ← HFI.out]
      exact ⟨_, rfl, HO.out.mono HB4.out.size, HB4.out.trans (HB.out.mono HB4.out.size)⟩
end Go.Proofs.YtdmpokanfnlbgaaGreatDoor
