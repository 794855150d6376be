/- SPairs: a part of the proofs of this seat. -/
import Derived.BigQuiet
import Derived.Deep.RegionLaw
import Derived.Test.YtdmpokanfnlbgaaGreatDoorProg
import Derived.Test.YtdmpokanfnlbgaaGreatDoorBSGoes
import Derived.Test.YtdmpokanfnlbgaaGreatDoorBG0b
namespace Go.Proofs.YtdmpokanfnlbgaaGreatDoor
open Go.RowKit
set_option linter.all false
theorem okP_size {F P : List ByteArray} {P0 : List ByteArray} (h : ∀ p ∈ P, p.size = 2) : ∀ p ∈ P.filter (okP F P0), p.size = 2 := fun p hp => h p (List.mem_filter.1 hp).1
def sliceLen (v : Value) : Nat := match v with | .slice _ n _ => n | _ => 0
set_option maxRecDepth 20000 in
set_option maxHeartbeats 12800000 in
theorem sPairs_any (K : Nat) (aF : Option Addr) (nF cF : Nat) (F : List ByteArray) (w : World) (h : Strs w aF nF F) (hF : ∀ f ∈ F, f.size ≤ 100) (hK1 : 1 ≤ K) (hK3 : K ≤ 3) :
    Calls Tryz.prog 79 #[.agg #[.int .i64 K, .slice aF nF cF]] w fun e w' => ∃ v, e = .returned v ∧ OStrs w' w.heap.size v (pairsS K F).length (pairsS K F) ∧ Below w.heap.size w w' := by
  have HB1 := Lib.hid (below1 w (.cells #[.int .i64 K, .slice aF nF cF] 30))
  have HA1 := Lib.hid (h.keep HB1.out)
  have HK1 := Lib.hid (Blk.new w 30 #[.int .i64 K, .slice aF nF cF])
  have k0 : (w.alloc (.cells #[.int .i64 K, .slice aF nF cF] 30)).cell? ⟨w.heap.size, 0, none⟩ = some (.int .i64 K) := HK1.out.cell 0
  have k1 : (w.alloc (.cells #[.int .i64 K, .slice aF nF cF] 30)).cell? ⟨w.heap.size, 1, none⟩ = some (.slice aF nF cF) := HK1.out.cell 1
  have HFs := Lib.hid hF
  clear h hF
  go_enter Tryz.func79, Tryz.ntmps79
  go_wp2_with fail
  generalize w.alloc (.cells #[.int .i64 K, .slice aF nF cF] 30) = w1 at HB1 HA1 HK1 k0 k1 ⊢
  refine (sWordsS_any K aF nF cF F 2 _ HA1.out HFs.out hK1 hK3 (by omega)).mono ?_
  rintro e w2 ⟨v2, rfl, ho2, hb2⟩
  have HO2 := Lib.hid (ho2.mono HB1.out.size)
  have HB2 := Lib.hid (step2 HB1.out hb2)
  have HA2 := Lib.hid (HA1.out.keep hb2)
  have HK2 := Lib.hid (HK1.out.keep hb2)
  clear ho2 hb2 k0 k1 HA1 HK1 HB1
  go_wp2_with fail
  go_loopw [3] (fun v wr => ∃ (f : Nat) (P : List ByteArray), P.length < f ∧ P.length ≤ 9 ∧ OStrs wr w.heap.size v P.length P ∧ Hid ((pairsF F f P = pairsS K F) ∧ ∀ p ∈ P, p.size = 2) ∧ Below w2.heap.size w2 wr) (fun v _ => sliceLen v)
  case atStart => exact ⟨10, (allW K 2).filter (avB F), by have := words2_len (F := F) hK3; omega, words2_len hK3, HO2.out, ⟨rfl, fun p hp => by obtain ⟨i, _, rfl⟩ := allW_mem (List.mem_filter.1 hp).1; exact wordN_size K 2 i⟩, Below.refl _ _⟩
  case round =>
    obtain ⟨f, P, hf, hP9, hown, hP, hbl⟩ := hrel
    obtain ⟨a3, c3, rfl, _⟩ := hown.form
    have HP := Lib.hid hown.read
    have HO := Lib.hid hown
    have HB := Lib.hid hbl
    have HPS := Lib.hid hP.out.2
    have HST := Lib.hid (pairsF_step hP.out.1 hf)
    have HAo := Lib.hid (HA2.out.keep hbl)
    have HKo := Lib.hid (HK2.out.keep hbl)
    have HE0 := Lib.hid (OStrs.empty wr wr.heap.size (Nat.le_refl _))
    have HBE := Lib.hid (belowA wr (.cells #[] 9))
    obtain ⟨wo, rfl⟩ : ∃ wo : World, wo = wr := ⟨_, rfl⟩
    clear hown hbl hP
    go_wp2_with fail
    go_loopw [4, 5] (fun v x wr => ∃ (i : Nat) (acc : List ByteArray), i ≤ P.length ∧ acc.length ≤ i ∧ x = .int .i64 i ∧ OStrs wr wo.heap.size v acc.length acc ∧ Hid (acc ++ (P.drop i).filter (okP F P) = P.filter (okP F P)) ∧ Below wo.heap.size wo wr) (fun _ x _ => P.length - (intOf x).toNat)
    case atStart => exact ⟨0, [], Nat.zero_le _, Nat.le_refl _, rfl, HE0.out, rfl, HBE.out⟩
    case round =>
      obtain ⟨i, acc, hi, hal, rfl, hown, hr, hbl⟩ := hrel
      obtain ⟨a7, c7, rfl, _⟩ := hown.form
      have HOi := Lib.hid hown
      have HBi := Lib.hid hbl
      have HPi := Lib.hid (HP.out.keep hbl)
      have HAi := Lib.hid (HAo.out.keep hbl)
      have HKi := Lib.hid (HKo.out.keep hbl)
      clear hown hbl HE0 HBE
      by_cases hlt : i < P.length
      · obtain ⟨b, o, s, rfl, hc, hs⟩ := HPi.out.at_ hlt
        have HFI := Lib.hid (filt_step (p := okP F P) hs.out hr.out)
        have hs2 := Lib.hid (HPS.out s (List.mem_of_getElem? hs.out))
        have HC := Lib.hid hc
        obtain ⟨wp, rfl⟩ : ∃ wp : World, wp = wr := ⟨_, rfl⟩
        have hd : Below wp.heap.size wp wp.drew := below_drewN (Below.refl _ _) 1
        have HD := Lib.hid hd
        have k0 : wp.drew.cell? ⟨w.heap.size, 0, none⟩ = some (.int .i64 K) := HKi.out.cell 0
        have k1 : wp.drew.cell? ⟨w.heap.size, 1, none⟩ = some (.slice aF nF cF) := HKi.out.cell 1
        have kc : wp.drew.cell? ⟨b, o + i, none⟩ = some (.string s) := HC.out
        clear hs hr hd hc
        cases g1 : goesB F P s true
        · have HN := Lib.hid (HFI.out.2 (by simp [okP, g1]))
          have HG1 := Lib.hid g1
          clear HFI g1
          go_wp2_with fail
          go_cut [30] (fun v wx => v = .bool false ∧ Below wp.heap.size wp wx)
          case first =>
            go_region_with (first
              | (go_at_call 99; refine (sGoesT_any K aF nF cF F _ _ _ P s _ (HAi.out.keep HD.out) HFs.out (HPi.out.keep HD.out) HPS.out hs2.out).mono ?_; rw [HG1.out]; rintro e w5 ⟨rfl, hb5⟩; have HB5 := Lib.hid (HD.out.trans (hb5.mono (Nat.le_refl _))); clear hb5; go_wp2_with fail; refine wpAny_take (i := 7) (v := .bool false) rfl (by kernel_rfl) (by kernel_rfl) (by kernel_rfl) (fun _ _ _ h => h) (Or.inl ⟨by rfl, (by intro w; go_simp)⟩) ?_; refine wpAny_take (i := 8) (v := undef) rfl (by kernel_rfl) (by kernel_rfl) (by kernel_rfl) (fun _ _ _ h => h) (Or.inr ⟨by kernel_rfl, rfl⟩) ?_; refine wpAny_take (i := 9) (v := undef) rfl (by kernel_rfl) (by kernel_rfl) (by kernel_rfl) (fun _ _ _ h => h) (Or.inr ⟨by kernel_rfl, rfl⟩) ?_; refine wpAny_take (i := 10) (v := undef) rfl (by kernel_rfl) (by kernel_rfl) (by kernel_rfl) (fun _ _ _ h => h) (Or.inr ⟨by kernel_rfl, rfl⟩) ?_; refine wpAny_take (i := 11) (v := undef) rfl (by kernel_rfl) (by kernel_rfl) (by kernel_rfl) (fun _ _ _ h => h) (Or.inr ⟨by kernel_rfl, rfl⟩) ?_; refine wpAny_take (i := 12) (v := undef) rfl (by kernel_rfl) (by kernel_rfl) (by kernel_rfl) (fun _ _ _ h => h) (Or.inr ⟨by kernel_rfl, rfl⟩) ?_; refine wpAny_take (i := 13) (v := undef) rfl (by kernel_rfl) (by kernel_rfl) (by kernel_rfl) (fun _ _ _ h => h) (Or.inr ⟨by kernel_rfl, rfl⟩) ?_; refine wpAny_take (i := 14) (v := undef) rfl (by kernel_rfl) (by kernel_rfl) (by kernel_rfl) (fun _ _ _ h => h) (Or.inr ⟨by kernel_rfl, rfl⟩) ?_; go_simp))
            all_goals (go_wp2_with fail; go_meet; exact ⟨rfl, HB5.out⟩)
          case rest =>
          obtain ⟨rfl, hb5⟩ := hcut
          have HB5 := Lib.hid (step2 HBi.out hb5)
          have HO5 := Lib.hid (HOi.out.keep hb5)
          clear hb5 k0 k1 kc
          go_wp2_with fail
          go_roundw
          case rel => exact ⟨i + 1, acc, hlt, by omega, by go_num, HO5.out, HN.out, HB5.out⟩
          case measure => (simp [intOf] <;> omega)
        have HG1 := Lib.hid g1
        cases g2 : goesB F P s false
        · have HN := Lib.hid (HFI.out.2 (by simp [okP, g2]))
          have HG2 := Lib.hid g2
          clear HFI g1 g2
          go_wp2_with fail
          go_cut [30] (fun v wx => v = .bool false ∧ Below wp.heap.size wp wx)
          case first =>
            go_region_with (first
              | (go_at_call 99; refine (sGoesF_any K aF nF cF F _ _ _ P s _ (HAi.out.keep HB5.out) HFs.out (HPi.out.keep HB5.out) HPS.out hs2.out).mono ?_; rw [HG2.out]; rintro e w6 ⟨rfl, hb6⟩; have HB6 := Lib.hid (step2 HB5.out hb6); clear hb6)
              | (go_at_call 99; refine (sGoesT_any K aF nF cF F _ _ _ P s _ (HAi.out.keep HD.out) HFs.out (HPi.out.keep HD.out) HPS.out hs2.out).mono ?_; rw [HG1.out]; rintro e w5 ⟨rfl, hb5⟩; have HB5 := Lib.hid (HD.out.trans (hb5.mono (Nat.le_refl _))); have k0 : w5.cell? ⟨w.heap.size, 0, none⟩ = some (.int .i64 K) := (HKi.out.keep HB5.out).cell 0; have k1 : w5.cell? ⟨w.heap.size, 1, none⟩ = some (.slice aF nF cF) := (HKi.out.keep HB5.out).cell 1; have kc : w5.cell? ⟨b, o + i, none⟩ = some (.string s) := (HB5.out.cell (World.block_lt_of_cell? wp _ HC.out)).trans HC.out; clear hb5))
            all_goals (go_wp2_with fail; go_meet; exact ⟨rfl, HB6.out⟩)
          case rest =>
          obtain ⟨rfl, hb5⟩ := hcut
          have HB5 := Lib.hid (step2 HBi.out hb5)
          have HO5 := Lib.hid (HOi.out.keep hb5)
          clear hb5 k0 k1 kc
          go_wp2_with fail
          go_roundw
          case rel => exact ⟨i + 1, acc, hlt, by omega, by go_num, HO5.out, HN.out, HB5.out⟩
          case measure => (simp [intOf] <;> omega)
        · have HN := Lib.hid (HFI.out.1 (by simp [okP, g1, g2]))
          have HG2 := Lib.hid g2
          clear HFI g1 g2
          go_wp2_with fail
          go_cut [30] (fun v wx => v = .bool true ∧ Below wp.heap.size wp wx)
          case first =>
            go_region_with (first
              | (go_at_call 99; refine (sGoesF_any K aF nF cF F _ _ _ P s _ (HAi.out.keep HB5.out) HFs.out (HPi.out.keep HB5.out) HPS.out hs2.out).mono ?_; rw [HG2.out]; rintro e w6 ⟨rfl, hb6⟩; have HB6 := Lib.hid (step2 HB5.out hb6); clear hb6)
              | (go_at_call 99; refine (sGoesT_any K aF nF cF F _ _ _ P s _ (HAi.out.keep HD.out) HFs.out (HPi.out.keep HD.out) HPS.out hs2.out).mono ?_; rw [HG1.out]; rintro e w5 ⟨rfl, hb5⟩; have HB5 := Lib.hid (HD.out.trans (hb5.mono (Nat.le_refl _))); have k0 : w5.cell? ⟨w.heap.size, 0, none⟩ = some (.int .i64 K) := (HKi.out.keep HB5.out).cell 0; have k1 : w5.cell? ⟨w.heap.size, 1, none⟩ = some (.slice aF nF cF) := (HKi.out.keep HB5.out).cell 1; have kc : w5.cell? ⟨b, o + i, none⟩ = some (.string s) := (HB5.out.cell (World.block_lt_of_cell? wp _ HC.out)).trans HC.out; clear hb5))
            all_goals (go_wp2_with fail; go_meet; exact ⟨rfl, HB6.out⟩)
          case rest =>
          obtain ⟨rfl, hb5⟩ := hcut
          have HB5 := Lib.hid (step2 HBi.out hb5)
          have HO5 := Lib.hid (HOi.out.keep hb5)
          have kc : wc.cell? ⟨b, o + i, none⟩ = some (.string s) := (hb5.cell (World.block_lt_of_cell? wp _ HC.out)).trans HC.out
          clear hb5 k0 k1
          go_wp2_with (at_builtin; refine wpList_push_str wc _ rfl (.tmp 31) (.tmp 36) rfl wo.heap.size _ _ _ rfl HO5.out (by omega) HB5.out.size _ rfl rfl ?_; intro v3 w3 ho3 hb3; have HO3 := Lib.hid ho3; have HB3 := Lib.hid (HB5.out.trans hb3); clear ho3 hb3)
          go_roundw
          case rel => exact ⟨i + 1, _, hlt, by simp; omega, by go_num, by simpa using HO3.out, HN.out, HB3.out⟩
          case measure => (simp [intOf] <;> omega)
      · have HFI := Lib.hid (filt_end (by omega) hr.out)
        have HOf : Hid (OStrs wr wo.heap.size (.slice a7 acc.length c7) (P.filter (okP F P)).length (P.filter (okP F P))) := by
          show OStrs _ _ _ _ _
          rw [← HFI.out]
          exact HOi.out
        have hle : acc.length ≤ P.length := by rw [HFI.out]; exact List.length_filter_le _ _
        have HLL : Hid (acc.length = (P.filter (okP F P)).length) := by show _ = _; rw [HFI.out]
        have HBo := Lib.hid (HB.out.trans (HBi.out.mono HB.out.size))
        clear hr
        by_cases he : acc.length = P.length
        · have d : ((acc.length : Int) == (P.length : Int)) = true := beq_iff_eq.2 (by omega)
          have HR := Lib.hid (HST.out.1 (HLL.out.symm.trans he))
          have HOO := Lib.hid (HO.out.keep HBi.out)
          clear he
          go_wp2_with fail
          go_ret
          rw [← HR.out]
          exact ⟨_, rfl, HOO.out, step2 HB2.out HBo.out⟩
        · have d : ((acc.length : Int) == (P.length : Int)) = false := beq_eq_false_iff_ne.2 (by omega)
          have HR := Lib.hid (HST.out.2 (fun q => he (HLL.out.trans q)))
          have HOO : Hid (OStrs wr w.heap.size (.slice a7 acc.length c7) (P.filter (okP F P)).length (P.filter (okP F P))) := HOf.out.mono (Nat.le_trans HB2.out.size HB.out.size)
          go_wp2_with fail
          go_roundw
          case rel => exact ⟨f - 1, P.filter (okP F P), HR.out.2, by have := HLL.out; omega, HOO.out, ⟨HR.out.1, okP_size HPS.out⟩, HBo.out⟩
          case measure => (simp [sliceLen]; omega)
end Go.Proofs.YtdmpokanfnlbgaaGreatDoor
