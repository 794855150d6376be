/- SDiffers: a part of the proofs of this seat. -/
import Derived.Test.YtnoghnalopdflaaProg
import Derived.Test.YtnoghnalopdflaaDiffT
import Derived.Test.YtnoghnalopdflaaSIsSmall
import Derived.Test.YtnoghnalopdflaaSSameZ
import Derived.Test.YtnoghnalopdflaaSGroupOf
import Derived.Test.YtnoghnalopdflaaSSignOf
import Derived.Test.YtnoghnalopdflaaThA
namespace Go.Proofs.Ytnoghnalopdflaa
open Go.RowKit
set_option linter.all false
set_option maxRecDepth 20000 in
set_option maxHeartbeats 3200000 in
theorem sDiffers_any (p : Option Addr) (n c : Nat) (a : List (List Int)) (p' : Option Addr) (n' c' : Nat) (b : List (List Int)) (w : World) (h : Intss w p n a) (h' : Intss w p' n' b) :
    Calls Try.prog 28 #[.slice p n c, .slice p' n' c'] w fun e w' => e = .returned (.string (differs a b)) ∧ Below w.heap.size w w' := by
  have HA := Lib.hid h
  have HB := Lib.hid h'
  clear h h'
  cases h1 : isSmallM a
  · have hg : Hid (differs a b = ⟨#[]⟩) := by show _ = _; unfold differs; rw [if_pos h1]
    have H1 := Lib.hid h1
    clear h1
    go_enter Try.func28, Try.ntmps28
    go_wp2_with fail
    refine (sIsSmall_any _ _ _ a _ HA.out).mono ?_
    rw [H1.out]
    rintro e w' ⟨rfl, rfl⟩
    go_wp2_with fail
    go_ret
    exact ⟨ret_str hg.out.symm, Below.refl _ _⟩
  cases h2 : isSmallM b
  · have hg : Hid (differs a b = ⟨#[]⟩) := by show _ = _; unfold differs; rw [if_neg (by simp [h1]), if_pos h2]
    have H1 := Lib.hid h1
    have H2 := Lib.hid h2
    clear h1 h2
    go_enter Try.func28, Try.ntmps28
    go_wp2_with fail
    refine (sIsSmall_any _ _ _ a _ HA.out).mono ?_
    rw [H1.out]
    rintro e w' ⟨rfl, rfl⟩
    go_wp2_with fail
    refine (sIsSmall_any _ _ _ b _ HB.out).mono ?_
    rw [H2.out]
    rintro e w' ⟨rfl, rfl⟩
    go_wp2_with fail
    go_ret
    exact ⟨ret_str hg.out.symm, Below.refl _ _⟩
  cases h3 : sameZ a b
  · have hg : Hid (differs a b = txtPoly) := by show _ = _; unfold differs; rw [if_neg (by simp [h1]), if_neg (by simp [h2]), if_pos h3]
    have H1 := Lib.hid h1
    have H2 := Lib.hid h2
    have H3 := Lib.hid h3
    clear h1 h2 h3
    go_enter Try.func28, Try.ntmps28
    go_wp2_with fail
    refine (sIsSmall_any _ _ _ a _ HA.out).mono ?_
    rw [H1.out]
    rintro e w' ⟨rfl, rfl⟩
    go_wp2_with fail
    refine (sIsSmall_any _ _ _ b _ HB.out).mono ?_
    rw [H2.out]
    rintro e w' ⟨rfl, rfl⟩
    go_wp2_with fail
    refine (sSameZ_any _ _ _ a _ _ _ b _ HA.out HB.out).mono ?_
    rw [H3.out]
    rintro e w1 ⟨rfl, hb1⟩
    have HB1 := Lib.hid hb1
    clear hb1
    go_wp2_with fail
    go_ret
    exact ⟨ret_str hg.out.symm, HB1.out⟩
  cases h4 : eqL (groupV a) (groupV b)
  · have hg : Hid (differs a b = txtGroup) := by show _ = _; unfold differs; rw [if_neg (by simp [h1]), if_neg (by simp [h2]), if_neg (by simp [h3]), if_pos h4]
    have H1 := Lib.hid h1
    have H2 := Lib.hid h2
    have H3 := Lib.hid h3
    have H4 := Lib.hid h4
    clear h1 h2 h3 h4
    go_enter Try.func28, Try.ntmps28
    go_wp2_with fail
    refine (sIsSmall_any _ _ _ a _ HA.out).mono ?_
    rw [H1.out]
    rintro e w' ⟨rfl, rfl⟩
    go_wp2_with fail
    refine (sIsSmall_any _ _ _ b _ HB.out).mono ?_
    rw [H2.out]
    rintro e w' ⟨rfl, rfl⟩
    go_wp2_with fail
    refine (sSameZ_any _ _ _ a _ _ _ b _ HA.out HB.out).mono ?_
    rw [H3.out]
    rintro e w1 ⟨rfl, hb1⟩
    have HB1 := Lib.hid hb1
    clear hb1
    go_wp2_with fail
    refine (sGroupOf_any _ _ _ a _ (HA.out.keep HB1.out)).mono ?_
    rintro e w2 ⟨v2, rfl, ho2, hb2⟩
    obtain ⟨a2, c2, rfl, hi2⟩ := ho2.form
    have HI2 := Lib.hid hi2
    have HB2 := Lib.hid (step2 HB1.out hb2)
    clear ho2 hi2 hb2
    go_wp2_with fail
    refine (sGroupOf_any _ _ _ b _ (HB.out.keep HB2.out)).mono ?_
    rintro e w3 ⟨v3, rfl, ho3, hb3⟩
    obtain ⟨a3, c3, rfl, hi3⟩ := ho3.form
    have HI3 := Lib.hid hi3
    have HI23 := Lib.hid (HI2.out.keep hb3)
    have HB3 := Lib.hid (step2 HB2.out hb3)
    clear ho3 hi3 hb3
    go_wp2_with fail
    refine (l4SameRow_any _ _ _ (groupV a) _ _ _ (groupV b) _ HI23.out HI3.out).mono ?_
    rw [H4.out]
    rintro e w4 ⟨rfl, hd4⟩
    have HB4 := Lib.hid (HB3.out.trans (hd4.below _))
    clear hd4
    go_wp2_with fail
    go_ret
    exact ⟨ret_str hg.out.symm, HB4.out⟩
  by_cases h5 : signOf a = signOf b
  · have hg : Hid (differs a b = txtNone) := by show _ = _; unfold differs; rw [if_neg (by simp [h1]), if_neg (by simp [h2]), if_neg (by simp [h3]), if_neg (by simp [h4]), if_pos h5]
    have he : (signOf a != signOf b) = false := by simp [h5]
    clear h5
    have H1 := Lib.hid h1
    have H2 := Lib.hid h2
    have H3 := Lib.hid h3
    have H4 := Lib.hid h4
    clear h1 h2 h3 h4
    go_enter Try.func28, Try.ntmps28
    go_wp2_with fail
    refine (sIsSmall_any _ _ _ a _ HA.out).mono ?_
    rw [H1.out]
    rintro e w' ⟨rfl, rfl⟩
    go_wp2_with fail
    refine (sIsSmall_any _ _ _ b _ HB.out).mono ?_
    rw [H2.out]
    rintro e w' ⟨rfl, rfl⟩
    go_wp2_with fail
    refine (sSameZ_any _ _ _ a _ _ _ b _ HA.out HB.out).mono ?_
    rw [H3.out]
    rintro e w1 ⟨rfl, hb1⟩
    have HB1 := Lib.hid hb1
    clear hb1
    go_wp2_with fail
    refine (sGroupOf_any _ _ _ a _ (HA.out.keep HB1.out)).mono ?_
    rintro e w2 ⟨v2, rfl, ho2, hb2⟩
    obtain ⟨a2, c2, rfl, hi2⟩ := ho2.form
    have HI2 := Lib.hid hi2
    have HB2 := Lib.hid (step2 HB1.out hb2)
    clear ho2 hi2 hb2
    go_wp2_with fail
    refine (sGroupOf_any _ _ _ b _ (HB.out.keep HB2.out)).mono ?_
    rintro e w3 ⟨v3, rfl, ho3, hb3⟩
    obtain ⟨a3, c3, rfl, hi3⟩ := ho3.form
    have HI3 := Lib.hid hi3
    have HI23 := Lib.hid (HI2.out.keep hb3)
    have HB3 := Lib.hid (step2 HB2.out hb3)
    clear ho3 hi3 hb3
    go_wp2_with fail
    refine (l4SameRow_any _ _ _ (groupV a) _ _ _ (groupV b) _ HI23.out HI3.out).mono ?_
    rw [H4.out]
    rintro e w4 ⟨rfl, hd4⟩
    have HB4 := Lib.hid (HB3.out.trans (hd4.below _))
    clear hd4
    go_wp2_with fail
    refine (sSignOf_any _ _ _ a _ (HA.out.keep HB4.out)).mono ?_
    rintro e w5 ⟨rfl, hb5⟩
    have HB5 := Lib.hid (step2 HB4.out hb5)
    clear hb5
    go_wp2_with fail
    refine (sSignOf_any _ _ _ b _ (HB.out.keep HB5.out)).mono ?_
    rintro e w6 ⟨rfl, hb6⟩
    have HB6 := Lib.hid (step2 HB5.out hb6)
    clear hb6
    go_wp2_with fail
    go_ret
    exact ⟨ret_str hg.out.symm, HB6.out⟩
  · have hg : Hid (differs a b = txtSign) := by show _ = _; unfold differs; rw [if_neg (by simp [h1]), if_neg (by simp [h2]), if_neg (by simp [h3]), if_neg (by simp [h4]), if_neg h5]
    have he : (signOf a != signOf b) = true := by simp [h5]
    clear h5
    have H1 := Lib.hid h1
    have H2 := Lib.hid h2
    have H3 := Lib.hid h3
    have H4 := Lib.hid h4
    clear h1 h2 h3 h4
    go_enter Try.func28, Try.ntmps28
    go_wp2_with fail
    refine (sIsSmall_any _ _ _ a _ HA.out).mono ?_
    rw [H1.out]
    rintro e w' ⟨rfl, rfl⟩
    go_wp2_with fail
    refine (sIsSmall_any _ _ _ b _ HB.out).mono ?_
    rw [H2.out]
    rintro e w' ⟨rfl, rfl⟩
    go_wp2_with fail
    refine (sSameZ_any _ _ _ a _ _ _ b _ HA.out HB.out).mono ?_
    rw [H3.out]
    rintro e w1 ⟨rfl, hb1⟩
    have HB1 := Lib.hid hb1
    clear hb1
    go_wp2_with fail
    refine (sGroupOf_any _ _ _ a _ (HA.out.keep HB1.out)).mono ?_
    rintro e w2 ⟨v2, rfl, ho2, hb2⟩
    obtain ⟨a2, c2, rfl, hi2⟩ := ho2.form
    have HI2 := Lib.hid hi2
    have HB2 := Lib.hid (step2 HB1.out hb2)
    clear ho2 hi2 hb2
    go_wp2_with fail
    refine (sGroupOf_any _ _ _ b _ (HB.out.keep HB2.out)).mono ?_
    rintro e w3 ⟨v3, rfl, ho3, hb3⟩
    obtain ⟨a3, c3, rfl, hi3⟩ := ho3.form
    have HI3 := Lib.hid hi3
    have HI23 := Lib.hid (HI2.out.keep hb3)
    have HB3 := Lib.hid (step2 HB2.out hb3)
    clear ho3 hi3 hb3
    go_wp2_with fail
    refine (l4SameRow_any _ _ _ (groupV a) _ _ _ (groupV b) _ HI23.out HI3.out).mono ?_
    rw [H4.out]
    rintro e w4 ⟨rfl, hd4⟩
    have HB4 := Lib.hid (HB3.out.trans (hd4.below _))
    clear hd4
    go_wp2_with fail
    refine (sSignOf_any _ _ _ a _ (HA.out.keep HB4.out)).mono ?_
    rintro e w5 ⟨rfl, hb5⟩
    have HB5 := Lib.hid (step2 HB4.out hb5)
    clear hb5
    go_wp2_with fail
    refine (sSignOf_any _ _ _ b _ (HB.out.keep HB5.out)).mono ?_
    rintro e w6 ⟨rfl, hb6⟩
    have HB6 := Lib.hid (step2 HB5.out hb6)
    clear hb6
    go_wp2_with fail
    go_ret
    exact ⟨ret_str hg.out.symm, HB6.out⟩
end Go.Proofs.Ytnoghnalopdflaa
