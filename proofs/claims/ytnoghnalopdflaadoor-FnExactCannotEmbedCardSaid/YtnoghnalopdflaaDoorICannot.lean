/- ICannot: a part of the proofs of this seat. -/
import Derived.Test.YtnoghnalopdflaaDoorProg
import Derived.Test.YtnoghnalopdflaaDoorEmbT
import Derived.Test.YtnoghnalopdflaaDoorIOrb
import Derived.Test.YtnoghnalopdflaaDoorIFG
import Derived.Test.YtnoghnalopdflaaDoorIIsBelow
import Derived.Test.YtnoghnalopdflaaDoorIFloor
import Derived.Test.YtnoghnalopdflaaDoorIFormatS
import Derived.Test.YtnoghnalopdflaaDoorIIsSmall
namespace Go.Proofs.YtnoghnalopdflaaDoor
open Go.RowKit
set_option linter.all false
set_option maxRecDepth 20000 in
set_option maxHeartbeats 6400000 in
theorem iCannot_any (pa : Option Addr) (na ca : Nat) (a : List (List Int)) (pb : Option Addr) (nb cb : Nat) (b : List (List Int)) (n : Int) (w : World) (ha : Intss w pa na a) (hb : Intss w pb nb b) :
    Calls Tryd.prog 25 #[.slice pa na ca, .slice pb nb cb, .int .i64 n] w fun e w' => e = .returned (.string (cannotT a b n)) ∧ Below w.heap.size w w' := by
  have HA := Lib.hid ha
  have HB := Lib.hid hb
  clear ha hb
  obtain ⟨X, hX⟩ : ∃ X, orbV a n = X := ⟨_, rfl⟩
  obtain ⟨Y, hY⟩ : ∃ Y, orbV b n = Y := ⟨_, rfl⟩
  have HX := Lib.hid hX
  have HY := Lib.hid hY
  have hnn := fun (wx : World) => Lib.run_eql_slice_nil (P := Tryd.prog) wx 22 3 none 0 0 0 0 Tryd.underlying22
  have hns := fun (wx : World) (q : Addr) (k c : Nat) => Lib.run_eql_slice_nil (P := Tryd.prog) wx 22 3 (some q) k c 0 0 Tryd.underlying22
  simp only [Option.isNone] at hnn hns
  cases h1 : isSmallM a
  · have hg : Hid (cannotT a b n = ⟨#[]⟩) := by show _ = _; unfold cannotT; rw [if_pos h1]
    have H1 := Lib.hid h1
    clear h1 hX hY
    go_enter Tryd.func25, Tryd.ntmps25
    go_wp2_with fail
    refine (iIsSmall_any _ _ _ a _ HA.out).mono ?_
    rw [H1.out]
    rintro e w' ⟨rfl, rfl⟩
    go_wp2_with fail
    go_ret
    exact ⟨ret_text hg.out.symm, Below.refl _ _⟩
  cases h2 : isSmallM b
  · have hg : Hid (cannotT a b n = ⟨#[]⟩) := by show _ = _; unfold cannotT; rw [if_neg (by simp [h1]), if_pos h2]
    have H1 := Lib.hid h1
    have H2 := Lib.hid h2
    clear h1 h2 hX hY
    go_enter Tryd.func25, Tryd.ntmps25
    go_wp2_with fail
    refine (iIsSmall_any _ _ _ a _ HA.out).mono ?_
    rw [H1.out]
    rintro e w' ⟨rfl, rfl⟩
    go_wp2_with fail
    refine (iIsSmall_any _ _ _ b _ HB.out).mono ?_
    rw [H2.out]
    rintro e w' ⟨rfl, rfl⟩
    go_wp2_with fail
    go_ret
    exact ⟨ret_text hg.out.symm, Below.refl _ _⟩
  have H1 := Lib.hid h1
  have H2 := Lib.hid h2
  by_cases h3 : X = []
  · have hg : Hid (cannotT a b n = ⟨#[]⟩) := by show _ = _; unfold cannotT; rw [if_neg (by simp [h1]), if_neg (by simp [h2]), if_pos (by rw [hX, h3]; rfl)]
    clear h1 h2 hX hY
    go_enter Tryd.func25, Tryd.ntmps25
    go_wp2_with fail
    refine (iIsSmall_any _ _ _ a _ HA.out).mono ?_
    rw [H1.out]
    rintro e w' ⟨rfl, rfl⟩
    go_wp2_with fail
    refine (iIsSmall_any _ _ _ b _ HB.out).mono ?_
    rw [H2.out]
    rintro e w' ⟨rfl, rfl⟩
    go_wp2_with fail
    refine (iOrb_nil _ _ _ a _ _ HA.out).mono ?_
    rintro e w1 ⟨v1, rfl, ho1, hb1, hn1⟩
    rw [HX.out] at ho1 hn1
    have Ho1 := Lib.hid ho1
    have Hb1 := Lib.hid hb1
    have Hn1 := Lib.hid hn1
    clear ho1 hb1 hn1
    go_wp2_with fail
    refine (iOrb_nil _ _ _ b _ _ (HB.out.keep Hb1.out)).mono ?_
    rintro e w2 ⟨v2, rfl, ho2, hb2, hn2⟩
    rw [HY.out] at ho2 hn2
    have Ho2 := Lib.hid ho2
    have Hn2 := Lib.hid hn2
    have Ho1' := Lib.hid (Ho1.out.keep hb2)
    have Hb2 := Lib.hid (step2 Hb1.out hb2)
    clear ho2 hb2 hn2
    have e1 := Hn1.out h3
    subst e1
    clear h3
    go_wp2_with fail
    go_ret
    exact ⟨ret_text hg.out.symm, Hb2.out⟩
  have hx0 : 0 < X.length := by cases X with
    | nil => exact absurd rfl h3
    | cons _ _ => simp
  by_cases h4 : Y = []
  · have hg : Hid (cannotT a b n = ⟨#[]⟩) := by show _ = _; unfold cannotT; rw [if_neg (by simp [h1]), if_neg (by simp [h2]), if_neg (by rw [hX]; omega), if_pos (by rw [hY, h4]; rfl)]
    clear h1 h2 hX hY h3
    go_enter Tryd.func25, Tryd.ntmps25
    go_wp2_with fail
    refine (iIsSmall_any _ _ _ a _ HA.out).mono ?_
    rw [H1.out]
    rintro e w' ⟨rfl, rfl⟩
    go_wp2_with fail
    refine (iIsSmall_any _ _ _ b _ HB.out).mono ?_
    rw [H2.out]
    rintro e w' ⟨rfl, rfl⟩
    go_wp2_with fail
    refine (iOrb_nil _ _ _ a _ _ HA.out).mono ?_
    rintro e w1 ⟨v1, rfl, ho1, hb1, hn1⟩
    rw [HX.out] at ho1 hn1
    have Ho1 := Lib.hid ho1
    have Hb1 := Lib.hid hb1
    have Hn1 := Lib.hid hn1
    clear ho1 hb1 hn1
    go_wp2_with fail
    refine (iOrb_nil _ _ _ b _ _ (HB.out.keep Hb1.out)).mono ?_
    rintro e w2 ⟨v2, rfl, ho2, hb2, hn2⟩
    rw [HY.out] at ho2 hn2
    have Ho2 := Lib.hid ho2
    have Hn2 := Lib.hid hn2
    have Ho1' := Lib.hid (Ho1.out.keep hb2)
    have Hb2 := Lib.hid (step2 Hb1.out hb2)
    clear ho2 hb2 hn2
    have e2 := Hn2.out h4
    subst e2
    obtain ⟨g1, c1, rfl⟩ := Ho1'.out.head hx0
    clear h4
    go_wp2_with fail
    go_ret
    exact ⟨ret_text hg.out.symm, Hb2.out⟩
  have hy0 : 0 < Y.length := by cases Y with
    | nil => exact absurd rfl h4
    | cons _ _ => simp
  have hpx := orbV_pos (m := a) (n := n) (by rw [hX]; omega)
  have hpy := orbV_pos (m := b) (n := n) (by rw [hY]; omega)
  rw [hX] at hpx
  rw [hY] at hpy
  have hll : X.length ≤ Y.length := by omega
  have hx10 : X.length ≤ 10 := by omega
  have HF := Lib.hid (floor_range h1)
  have hcn : cannotT a b n = if belowM b (floorG a 100) 100 = true then txtGrowth else if 0 ≤ fgI 0 X Y then txtOrbits ++ decB ((fgI 0 X Y).toNat + 1) else txtDash := by
    unfold cannotT
    rw [if_neg (by simp [h1]), if_neg (by simp [h2]), if_neg (by rw [hX]; omega), if_neg (by rw [hY]; omega), hX, hY]
  have HCN := Lib.hid hcn
  clear h1 h2 hX hY h3 h4 hpx hpy hcn
  go_enter Tryd.func25, Tryd.ntmps25
  go_wp2_with fail
  refine (iIsSmall_any _ _ _ a _ HA.out).mono ?_
  rw [H1.out]
  rintro e w' ⟨rfl, rfl⟩
  go_wp2_with fail
  refine (iIsSmall_any _ _ _ b _ HB.out).mono ?_
  rw [H2.out]
  rintro e w' ⟨rfl, rfl⟩
  go_wp2_with fail
  refine (iOrb_nil _ _ _ a _ _ HA.out).mono ?_
  rintro e w1 ⟨v1, rfl, ho1, hb1, hn1⟩
  rw [HX.out] at ho1 hn1
  have Ho1 := Lib.hid ho1
  have Hb1 := Lib.hid hb1
  have Hn1 := Lib.hid hn1
  clear ho1 hb1 hn1
  go_wp2_with fail
  refine (iOrb_nil _ _ _ b _ _ (HB.out.keep Hb1.out)).mono ?_
  rintro e w2 ⟨v2, rfl, ho2, hb2, hn2⟩
  rw [HY.out] at ho2 hn2
  have Ho2 := Lib.hid ho2
  have Hn2 := Lib.hid hn2
  have Ho1' := Lib.hid (Ho1.out.keep hb2)
  have Hb2 := Lib.hid (step2 Hb1.out hb2)
  clear ho2 hb2 hn2
  obtain ⟨g1, c1, rfl⟩ := Ho1'.out.head hx0
  obtain ⟨g2, c2, rfl⟩ := Ho2.out.head hy0
  go_wp2_with fail
  refine (iFloor_any _ _ _ a 100 _ (HA.out.keep Hb2.out)).mono ?_
  rintro e w3 ⟨rfl, hb3⟩
  have Hb3 := Lib.hid (step2 Hb2.out hb3)
  have Ho13 := Lib.hid (Ho1'.out.keep hb3)
  have Ho23 := Lib.hid (Ho2.out.keep hb3)
  clear hb3
  go_wp2_with fail
  cases h5 : belowM b (floorG a 100) 100
  rotate_left
  · have HBL := Lib.hid h5
    have hg : Hid (cannotT a b n = txtGrowth) := by show _ = _; rw [HCN.out, if_pos h5]
    clear h5
    refine (iIsBelow_in _ _ _ b (floorG a 100) _ (HB.out.keep Hb3.out) H2.out HF.out.1 HF.out.2).mono ?_
    rw [HBL.out]
    rintro e w4 ⟨rfl, hb4⟩
    have Hb4 := Lib.hid (step2 Hb3.out hb4)
    clear hb4
    go_wp2_with fail
    go_ret
    exact ⟨ret_text hg.out.symm, Hb4.out⟩
  have HBL := Lib.hid h5
  have hcn : cannotT a b n = if 0 ≤ fgI 0 X Y then txtOrbits ++ decB ((fgI 0 X Y).toNat + 1) else txtDash := by rw [HCN.out, if_neg (by simp [h5])]
  have HCM := Lib.hid hcn
  clear h5 hcn
  refine (iIsBelow_in _ _ _ b (floorG a 100) _ (HB.out.keep Hb3.out) H2.out HF.out.1 HF.out.2).mono ?_
  rw [HBL.out]
  rintro e w4 ⟨rfl, hb4⟩
  have Hb4 := Lib.hid (step2 Hb3.out hb4)
  have Ho14 := Lib.hid (Ho13.out.keep hb4)
  have Ho24 := Lib.hid (Ho23.out.keep hb4)
  clear hb4
  go_wp2_with fail
  rcases fgI_range X Y 0 with hr | hr
  · have HR := Lib.hid hr
    have HG : Hid (cannotT a b n = txtDash) := by show _ = _; rw [HCM.out, hr, if_neg (by omega)]
    clear hr
    refine (iFG_any _ _ _ X _ _ _ Y _ Ho14.out.ints Ho24.out.ints hll).mono ?_
    rw [HR.out]
    rintro e w' ⟨rfl, rfl⟩
    go_wp2_with fail
    go_ret
    exact ⟨ret_text HG.out.symm, Hb4.out⟩
  · obtain ⟨k, hk⟩ : ∃ k : Nat, fgI 0 X Y = (k : Int) := ⟨(fgI 0 X Y).toNat, by omega⟩
    have HR := Lib.hid hk
    have hk10 : k < 10 := by omega
    have HG : Hid (cannotT a b n = txtOrbits ++ decB (k + 1)) := by show _ = _; rw [HCM.out, hk, if_pos (by omega), Int.toNat_natCast]
    have hds := decB_size (u := k + 1) (by omega)
    clear hr hk
    refine (iFG_any _ _ _ X _ _ _ Y _ Ho14.out.ints Ho24.out.ints hll).mono ?_
    rw [HR.out]
    rintro e w' ⟨rfl, rfl⟩
    go_wp2_with (go_at_call 52; refine (iFormatS_succ k _ (by omega)).mono ?_; rintro e w5 ⟨rfl, rfl⟩)
    go_ret
    exact ⟨ret_text HG.out.symm, Hb4.out⟩
end Go.Proofs.YtnoghnalopdflaaDoor
