/- SCannot: a part of the proofs of this seat. -/
import Derived.Test.YtnoghnalopdflaaDoorProg
import Derived.Test.YtnoghnalopdflaaDoorEmbT
import Derived.Test.YtnoghnalopdflaaDoorSOrb
import Derived.Test.YtnoghnalopdflaaDoorSIsBelow
import Derived.Test.YtnoghnalopdflaaDoorSFloor
import Derived.Test.YtnoghnalopdflaaDoorSFormat
import Derived.Test.YtnoghnalopdflaaDoorSIsSmall
namespace Go.Proofs.YtnoghnalopdflaaDoor
open Go.RowKit
set_option linter.all false
set_option maxRecDepth 20000 in
set_option maxHeartbeats 6400000 in
theorem sCannot_any (pa : Option Addr) (na ca : Nat) (a : List (List Int)) (pb : Option Addr) (nb cb : Nat) (b : List (List Int)) (n : Int) (w : World) (ha : Intss w pa na a) (hb : Intss w pb nb b) :
    Calls Tryd.prog 24 #[.slice pa na ca, .slice pb nb cb, .int .i64 n] w fun e w' => e = .returned (.string (cannotT a b n)) ∧ Below w.heap.size w w' := by
  have HA := Lib.hid ha
  have HB := Lib.hid hb
  clear ha hb
  obtain ⟨X, hX⟩ : ∃ X, orbV a n = X := ⟨_, rfl⟩
  obtain ⟨Y, hY⟩ : ∃ Y, orbV b n = Y := ⟨_, rfl⟩
  have HX := Lib.hid hX
  have HY := Lib.hid hY
  cases h1 : isSmallM a
  · have hg : Hid (cannotT a b n = ⟨#[]⟩) := by show _ = _; unfold cannotT; rw [if_pos h1]
    have H1 := Lib.hid h1
    clear h1 hX hY
    go_enter Tryd.func24, Tryd.ntmps24
    go_wp2_with fail
    refine (sOrb_any _ _ _ a _ _ HA.out).mono ?_
    rintro e w1 ⟨v1, rfl, ho1, hb1⟩
    rw [HX.out] at ho1
    obtain ⟨ao1, cap1, rfl, hi1⟩ := ho1.form
    have Hi1 := Lib.hid hi1
    have Hb1 := Lib.hid hb1
    clear ho1 hi1 hb1
    go_wp2_with fail
    refine (sOrb_any _ _ _ b _ _ (HB.out.keep Hb1.out)).mono ?_
    rintro e w2 ⟨v2, rfl, ho2, hb2⟩
    rw [HY.out] at ho2
    obtain ⟨ao2, cap2, rfl, hi2⟩ := ho2.form
    have Hi2 := Lib.hid hi2
    have Hi1' := Lib.hid (Hi1.out.keep hb2)
    have Hb2 := Lib.hid (step2 Hb1.out hb2)
    have hxm := hi2.2.1
    have hym := Hi1.out.2.1
    clear ho2 hi2 hb2
    go_wp2_with fail
    refine (sIsSmall_any _ _ _ a _ (HA.out.keep Hb2.out)).mono ?_
    rw [H1.out]
    rintro e w' ⟨rfl, rfl⟩
    go_wp2_with fail
    go_ret
    exact ⟨ret_text hg.out.symm, Hb2.out⟩
  cases h2 : isSmallM b
  · have hg : Hid (cannotT a b n = ⟨#[]⟩) := by show _ = _; unfold cannotT; rw [if_neg (by simp [h1]), if_pos h2]
    have H1 := Lib.hid h1
    have H2 := Lib.hid h2
    clear h1 h2 hX hY
    go_enter Tryd.func24, Tryd.ntmps24
    go_wp2_with fail
    refine (sOrb_any _ _ _ a _ _ HA.out).mono ?_
    rintro e w1 ⟨v1, rfl, ho1, hb1⟩
    rw [HX.out] at ho1
    obtain ⟨ao1, cap1, rfl, hi1⟩ := ho1.form
    have Hi1 := Lib.hid hi1
    have Hb1 := Lib.hid hb1
    clear ho1 hi1 hb1
    go_wp2_with fail
    refine (sOrb_any _ _ _ b _ _ (HB.out.keep Hb1.out)).mono ?_
    rintro e w2 ⟨v2, rfl, ho2, hb2⟩
    rw [HY.out] at ho2
    obtain ⟨ao2, cap2, rfl, hi2⟩ := ho2.form
    have Hi2 := Lib.hid hi2
    have Hi1' := Lib.hid (Hi1.out.keep hb2)
    have Hb2 := Lib.hid (step2 Hb1.out hb2)
    have hxm := hi2.2.1
    have hym := Hi1.out.2.1
    clear ho2 hi2 hb2
    go_wp2_with fail
    refine (sIsSmall_any _ _ _ a _ (HA.out.keep Hb2.out)).mono ?_
    rw [H1.out]
    rintro e w' ⟨rfl, rfl⟩
    go_wp2_with fail
    refine (sIsSmall_any _ _ _ b _ (HB.out.keep Hb2.out)).mono ?_
    rw [H2.out]
    rintro e w' ⟨rfl, rfl⟩
    go_wp2_with fail
    go_ret
    exact ⟨ret_text hg.out.symm, Hb2.out⟩
  by_cases h3 : X.length = 0
  · have hg : Hid (cannotT a b n = ⟨#[]⟩) := by show _ = _; unfold cannotT; rw [if_neg (by simp [h1]), if_neg (by simp [h2]), if_pos (by rw [hX]; exact h3)]
    have H1 := Lib.hid h1
    have H2 := Lib.hid h2
    have d3 : ((X.length : Int) == 0) = true := by simp [h3]
    clear h1 h2 hX hY h3
    go_enter Tryd.func24, Tryd.ntmps24
    go_wp2_with fail
    refine (sOrb_any _ _ _ a _ _ HA.out).mono ?_
    rintro e w1 ⟨v1, rfl, ho1, hb1⟩
    rw [HX.out] at ho1
    obtain ⟨ao1, cap1, rfl, hi1⟩ := ho1.form
    have Hi1 := Lib.hid hi1
    have Hb1 := Lib.hid hb1
    clear ho1 hi1 hb1
    go_wp2_with fail
    refine (sOrb_any _ _ _ b _ _ (HB.out.keep Hb1.out)).mono ?_
    rintro e w2 ⟨v2, rfl, ho2, hb2⟩
    rw [HY.out] at ho2
    obtain ⟨ao2, cap2, rfl, hi2⟩ := ho2.form
    have Hi2 := Lib.hid hi2
    have Hi1' := Lib.hid (Hi1.out.keep hb2)
    have Hb2 := Lib.hid (step2 Hb1.out hb2)
    have hxm := hi2.2.1
    have hym := Hi1.out.2.1
    clear ho2 hi2 hb2
    go_wp2_with fail
    refine (sIsSmall_any _ _ _ a _ (HA.out.keep Hb2.out)).mono ?_
    rw [H1.out]
    rintro e w' ⟨rfl, rfl⟩
    go_wp2_with fail
    refine (sIsSmall_any _ _ _ b _ (HB.out.keep Hb2.out)).mono ?_
    rw [H2.out]
    rintro e w' ⟨rfl, rfl⟩
    go_wp2_with fail
    go_ret
    exact ⟨ret_text hg.out.symm, Hb2.out⟩
  have d3 : ((X.length : Int) == 0) = false := by rw [beq_eq_false_iff_ne]; omega
  by_cases h4 : Y.length = 0
  · have hg : Hid (cannotT a b n = ⟨#[]⟩) := by show _ = _; unfold cannotT; rw [if_neg (by simp [h1]), if_neg (by simp [h2]), if_neg (by rw [hX]; exact h3), if_pos (by rw [hY]; exact h4)]
    have H1 := Lib.hid h1
    have H2 := Lib.hid h2
    have d4 : ((Y.length : Int) == 0) = true := by simp [h4]
    clear h1 h2 hX hY h3 h4
    go_enter Tryd.func24, Tryd.ntmps24
    go_wp2_with fail
    refine (sOrb_any _ _ _ a _ _ HA.out).mono ?_
    rintro e w1 ⟨v1, rfl, ho1, hb1⟩
    rw [HX.out] at ho1
    obtain ⟨ao1, cap1, rfl, hi1⟩ := ho1.form
    have Hi1 := Lib.hid hi1
    have Hb1 := Lib.hid hb1
    clear ho1 hi1 hb1
    go_wp2_with fail
    refine (sOrb_any _ _ _ b _ _ (HB.out.keep Hb1.out)).mono ?_
    rintro e w2 ⟨v2, rfl, ho2, hb2⟩
    rw [HY.out] at ho2
    obtain ⟨ao2, cap2, rfl, hi2⟩ := ho2.form
    have Hi2 := Lib.hid hi2
    have Hi1' := Lib.hid (Hi1.out.keep hb2)
    have Hb2 := Lib.hid (step2 Hb1.out hb2)
    have hxm := hi2.2.1
    have hym := Hi1.out.2.1
    clear ho2 hi2 hb2
    go_wp2_with fail
    refine (sIsSmall_any _ _ _ a _ (HA.out.keep Hb2.out)).mono ?_
    rw [H1.out]
    rintro e w' ⟨rfl, rfl⟩
    go_wp2_with fail
    refine (sIsSmall_any _ _ _ b _ (HB.out.keep Hb2.out)).mono ?_
    rw [H2.out]
    rintro e w' ⟨rfl, rfl⟩
    go_wp2_with fail
    go_ret
    exact ⟨ret_text hg.out.symm, Hb2.out⟩
  have d4 : ((Y.length : Int) == 0) = false := by rw [beq_eq_false_iff_ne]; omega
  have hpx := orbV_pos (m := a) (n := n) (by rw [hX]; exact h3)
  have hpy := orbV_pos (m := b) (n := n) (by rw [hY]; exact h4)
  rw [hX] at hpx
  rw [hY] at hpy
  obtain ⟨m, rfl⟩ : ∃ m : Nat, n = (m : Int) := ⟨n.toNat, by omega⟩
  have hxl : X.length = m := by have := hpx.2.2; rw [Int.toNat_natCast] at this; exact this
  have hyl : Y.length = m := by have := hpy.2.2; rw [Int.toNat_natCast] at this; exact this
  have hm10 : m ≤ 10 := by omega
  have HF := Lib.hid (floor_range h1)
  cases h5 : belowM b (floorG a 100) 100
  rotate_left
  · have hg : Hid (cannotT a b m = txtGrowth) := by show _ = _; unfold cannotT; rw [if_neg (by simp [h1]), if_neg (by simp [h2]), if_neg (by rw [hX]; exact h3), if_neg (by rw [hY]; exact h4), if_pos h5]
    have H1 := Lib.hid h1
    have H2 := Lib.hid h2
    have HBL := Lib.hid h5
    clear h1 h2 hX hY h3 h4 h5 hpx hpy hxl hyl
    go_enter Tryd.func24, Tryd.ntmps24
    go_wp2_with fail
    refine (sOrb_any _ _ _ a _ _ HA.out).mono ?_
    rintro e w1 ⟨v1, rfl, ho1, hb1⟩
    rw [HX.out] at ho1
    obtain ⟨ao1, cap1, rfl, hi1⟩ := ho1.form
    have Hi1 := Lib.hid hi1
    have Hb1 := Lib.hid hb1
    clear ho1 hi1 hb1
    go_wp2_with fail
    refine (sOrb_any _ _ _ b _ _ (HB.out.keep Hb1.out)).mono ?_
    rintro e w2 ⟨v2, rfl, ho2, hb2⟩
    rw [HY.out] at ho2
    obtain ⟨ao2, cap2, rfl, hi2⟩ := ho2.form
    have Hi2 := Lib.hid hi2
    have Hi1' := Lib.hid (Hi1.out.keep hb2)
    have Hb2 := Lib.hid (step2 Hb1.out hb2)
    have hxm := hi2.2.1
    have hym := Hi1.out.2.1
    clear ho2 hi2 hb2
    go_wp2_with fail
    refine (sIsSmall_any _ _ _ a _ (HA.out.keep Hb2.out)).mono ?_
    rw [H1.out]
    rintro e w' ⟨rfl, rfl⟩
    go_wp2_with fail
    refine (sIsSmall_any _ _ _ b _ (HB.out.keep Hb2.out)).mono ?_
    rw [H2.out]
    rintro e w' ⟨rfl, rfl⟩
    go_wp2_with fail
    refine (sFloor_any _ _ _ a 100 _ (HA.out.keep Hb2.out)).mono ?_
    rintro e w3 ⟨rfl, hb3⟩
    have Hb3 := Lib.hid (step2 Hb2.out hb3)
    have Hi13 := Lib.hid (Hi1'.out.keep hb3)
    have Hi23 := Lib.hid (Hi2.out.keep hb3)
    clear hb3
    go_wp2_with fail
    refine (sIsBelow_in _ _ _ b (floorG a 100) _ (HB.out.keep Hb3.out) H2.out HF.out.1 HF.out.2).mono ?_
    rw [HBL.out]
    rintro e w4 ⟨rfl, hb4⟩
    have Hb4 := Lib.hid (step2 Hb3.out hb4)
    have Hi14 := Lib.hid (Hi13.out.keep hb4)
    have Hi24 := Lib.hid (Hi23.out.keep hb4)
    clear hb4
    go_wp2_with fail
    go_ret
    exact ⟨ret_text hg.out.symm, Hb4.out⟩
  have hcn : cannotT a b m = if 0 ≤ fgI 0 X Y then txtOrbits ++ decB ((fgI 0 X Y).toNat + 1) else txtDash := by
    unfold cannotT
    rw [if_neg (by simp [h1]), if_neg (by simp [h2]), if_neg (by rw [hX]; exact h3), if_neg (by rw [hY]; exact h4), if_neg (by simp [h5]), hX, hY]
  have HCN := Lib.hid hcn
  have H1 := Lib.hid h1
  have H2 := Lib.hid h2
  have HBL := Lib.hid h5
  have HXL := Lib.hid hxl
  have HYL := Lib.hid hyl
  clear h1 h2 hX hY h3 h4 h5 hpx hpy hcn hxl hyl
  go_enter Tryd.func24, Tryd.ntmps24
  go_wp2_with fail
  refine (sOrb_any _ _ _ a _ _ HA.out).mono ?_
  rintro e w1 ⟨v1, rfl, ho1, hb1⟩
  rw [HX.out] at ho1
  obtain ⟨ao1, cap1, rfl, hi1⟩ := ho1.form
  have Hi1 := Lib.hid hi1
  have Hb1 := Lib.hid hb1
  clear ho1 hi1 hb1
  go_wp2_with fail
  refine (sOrb_any _ _ _ b _ _ (HB.out.keep Hb1.out)).mono ?_
  rintro e w2 ⟨v2, rfl, ho2, hb2⟩
  rw [HY.out] at ho2
  obtain ⟨ao2, cap2, rfl, hi2⟩ := ho2.form
  have Hi2 := Lib.hid hi2
  have Hi1' := Lib.hid (Hi1.out.keep hb2)
  have Hb2 := Lib.hid (step2 Hb1.out hb2)
  have hxm := hi2.2.1
  have hym := Hi1.out.2.1
  clear ho2 hi2 hb2
  go_wp2_with fail
  refine (sIsSmall_any _ _ _ a _ (HA.out.keep Hb2.out)).mono ?_
  rw [H1.out]
  rintro e w' ⟨rfl, rfl⟩
  go_wp2_with fail
  refine (sIsSmall_any _ _ _ b _ (HB.out.keep Hb2.out)).mono ?_
  rw [H2.out]
  rintro e w' ⟨rfl, rfl⟩
  go_wp2_with fail
  refine (sFloor_any _ _ _ a 100 _ (HA.out.keep Hb2.out)).mono ?_
  rintro e w3 ⟨rfl, hb3⟩
  have Hb3 := Lib.hid (step2 Hb2.out hb3)
  have Hi13 := Lib.hid (Hi1'.out.keep hb3)
  have Hi23 := Lib.hid (Hi2.out.keep hb3)
  clear hb3
  go_wp2_with fail
  refine (sIsBelow_in _ _ _ b (floorG a 100) _ (HB.out.keep Hb3.out) H2.out HF.out.1 HF.out.2).mono ?_
  rw [HBL.out]
  rintro e w4 ⟨rfl, hb4⟩
  have Hb4 := Lib.hid (step2 Hb3.out hb4)
  have Hi14 := Lib.hid (Hi13.out.keep hb4)
  have Hi24 := Lib.hid (Hi23.out.keep hb4)
  clear hb4
  go_wp2_with fail
  go_loopw [9] (fun v wr => ∃ k : Nat, k ≤ m ∧ v = .int .i64 k ∧ Hid (fgI k (X.drop k) (Y.drop k) = fgI 0 X Y) ∧ Drew w4 wr) (fun v _ => m - (intOf v).toNat)
  case atStart => exact ⟨0, Nat.zero_le _, rfl, rfl, Drew.refl _⟩
  case round =>
    obtain ⟨k, hk, rfl, hr, q, rfl⟩ := hrel
    by_cases hlt : k < m
    · obtain ⟨b1, o1, x, rfl, hcx, hgx⟩ := Hi14.out.at_ (k := k) (by have := HXL.out; omega)
      obtain ⟨b2, o2, y, rfl, hcy, hgy⟩ := Hi24.out.at_ (k := k) (by have := HYL.out; omega)
      have HS := Lib.hid (fgI_step hgx.out hgy.out hr.out)
      have hkx : k < X.length := by have := HXL.out; omega
      have hky : k < Y.length := by have := HYL.out; omega
      clear hgx hgy hr
      by_cases h1 : y < x
      · have hd : decide (y < x) = true := by simpa using h1
        have HR := Lib.hid (HS.out.1 h1)
        have HG : Hid (cannotT a b m = txtOrbits ++ decB (k + 1)) := by show _ = _; rw [HCN.out, HR.out, if_pos (by omega), Int.toNat_natCast]
        have hcast : (k : Int) + 1 = ((k + 1 : Nat) : Int) := by omega
        have hds := decB_size (u := k + 1) (by omega)
        clear HS h1 HR
        go_wp2_with fail
        go_quiet (fail)
        clear hcast
        go_wp2_with (go_at_call 50; refine (sFormat_succ k _ (by omega)).mono ?_; rintro e w5 ⟨rfl, hb5⟩; have Hb5 : Hid (Below w.heap.size w w5) := (by first | exact step2 (below_drewN Hb4.out _) hb5 | exact step2 (below_drewN (below_drewN Hb4.out _) _) hb5); clear hb5)
        go_ret
        exact ⟨ret_text HG.out.symm, Hb5.out⟩
      · have hd : decide (y < x) = false := by simpa using h1
        have HR := Lib.hid (HS.out.2 h1)
        clear HS h1
        go_wp2_with fail
        go_quiet (fail)
        go_wp2_with fail
        go_roundw
        case rel => exact ⟨k + 1, hlt, by go_num, HR.out, (by first | exact Drew.refl _ | exact Drew.mk _ _ | exact (Drew.mk _ _).drewN _)⟩
        case measure => (simp [intOf] <;> omega)
    · have HR := Lib.hid (fgI_end (by have := HXL.out; omega) hr.out)
      have HG : Hid (cannotT a b m = txtDash) := by show _ = _; rw [HCN.out, HR.out, if_neg (by omega)]
      clear hr
      go_wp2_with fail
      go_ret
      exact ⟨ret_text HG.out.symm, below_drewN Hb4.out _⟩
end Go.Proofs.YtnoghnalopdflaaDoor
