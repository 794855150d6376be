/- Parts of the proof of a law, joined: SDiffers SFlowLike LinT SLines TurnT STurnM. -/
import Derived.Test.YtbjoblgklcilpaaGreatDoorProg
import Derived.Test.YtbjoblgklcilpaaGreatDoorJG1b
import Derived.Test.YtbjoblgklcilpaaGreatDoorJG1a
import Derived.Test.YtbjoblgklcilpaaGreatDoorJThA
import Derived.Test.YtbjoblgklcilpaaGreatDoorJG0a
import Derived.Test.YtbjoblgklcilpaaGreatDoorJSGrp
import Derived.Test.YtbjoblgklcilpaaGreatDoorJG0b
namespace Go.Proofs.YtbjoblgklcilpaaGreatDoor
open Go.RowKit
set_option linter.all false
set_option maxRecDepth 20000 in
set_option maxHeartbeats 3200000 in
theorem sDiffers_any (p : Option Addr) (n c : Nat) (a : List (List Int)) (p' : Option Addr) (n' c' : Nat) (b : List (List Int)) (w : World) (h : Intss w p n a) (h' : Intss w p' n' b) :
    Calls Tryz.prog 19 #[.slice p n c, .slice p' n' c'] w fun e w' => e = .returned (.string (differs a b)) ∧ Below w.heap.size w w' := by
  have HA := Lib.hid h
  have HB := Lib.hid h'
  clear h h'
  cases h1 : isSmallM a
  · have hg : Hid (differs a b = ⟨#[]⟩) := by show _ = _; unfold differs; rw [if_pos h1]
    have H1 := Lib.hid h1
    clear h1
    go_enter Tryz.func19, Tryz.ntmps19
    go_wp2_with fail
    refine (sIsSmall_any _ _ _ a _ HA.out).mono ?_
    rw [H1.out]
    rintro e w' ⟨rfl, rfl⟩
    go_wp2_with fail
    go_ret
    exact ⟨ret_str hg.out.symm, Below.refl _ _⟩
  cases h2 : isSmallM b
  · have hg : Hid (differs a b = ⟨#[]⟩) := by show _ = _; unfold differs; rw [if_neg (by simp [h1]), if_pos h2]
    have H1 := Lib.hid h1
    have H2 := Lib.hid h2
    clear h1 h2
    go_enter Tryz.func19, Tryz.ntmps19
    go_wp2_with fail
    refine (sIsSmall_any _ _ _ a _ HA.out).mono ?_
    rw [H1.out]
    rintro e w' ⟨rfl, rfl⟩
    go_wp2_with fail
    refine (sIsSmall_any _ _ _ b _ HB.out).mono ?_
    rw [H2.out]
    rintro e w' ⟨rfl, rfl⟩
    go_wp2_with fail
    go_ret
    exact ⟨ret_str hg.out.symm, Below.refl _ _⟩
  cases h3 : sameZ a b
  · have hg : Hid (differs a b = txtPoly) := by show _ = _; unfold differs; rw [if_neg (by simp [h1]), if_neg (by simp [h2]), if_pos h3]
    have H1 := Lib.hid h1
    have H2 := Lib.hid h2
    have H3 := Lib.hid h3
    clear h1 h2 h3
    go_enter Tryz.func19, Tryz.ntmps19
    go_wp2_with fail
    refine (sIsSmall_any _ _ _ a _ HA.out).mono ?_
    rw [H1.out]
    rintro e w' ⟨rfl, rfl⟩
    go_wp2_with fail
    refine (sIsSmall_any _ _ _ b _ HB.out).mono ?_
    rw [H2.out]
    rintro e w' ⟨rfl, rfl⟩
    go_wp2_with fail
    refine (sSameZ_any _ _ _ a _ _ _ b _ HA.out HB.out).mono ?_
    rw [H3.out]
    rintro e w1 ⟨rfl, hb1⟩
    have HB1 := Lib.hid hb1
    clear hb1
    go_wp2_with fail
    go_ret
    exact ⟨ret_str hg.out.symm, HB1.out⟩
  cases h4 : eqL (groupV a) (groupV b)
  · have hg : Hid (differs a b = txtGroup) := by show _ = _; unfold differs; rw [if_neg (by simp [h1]), if_neg (by simp [h2]), if_neg (by simp [h3]), if_pos h4]
    have H1 := Lib.hid h1
    have H2 := Lib.hid h2
    have H3 := Lib.hid h3
    have H4 := Lib.hid h4
    clear h1 h2 h3 h4
    go_enter Tryz.func19, Tryz.ntmps19
    go_wp2_with fail
    refine (sIsSmall_any _ _ _ a _ HA.out).mono ?_
    rw [H1.out]
    rintro e w' ⟨rfl, rfl⟩
    go_wp2_with fail
    refine (sIsSmall_any _ _ _ b _ HB.out).mono ?_
    rw [H2.out]
    rintro e w' ⟨rfl, rfl⟩
    go_wp2_with fail
    refine (sSameZ_any _ _ _ a _ _ _ b _ HA.out HB.out).mono ?_
    rw [H3.out]
    rintro e w1 ⟨rfl, hb1⟩
    have HB1 := Lib.hid hb1
    clear hb1
    go_wp2_with fail
    refine (sGroupOf_any _ _ _ a _ (HA.out.keep HB1.out)).mono ?_
    rintro e w2 ⟨v2, rfl, ho2, hb2⟩
    obtain ⟨a2, c2, rfl, hi2⟩ := ho2.form
    have HI2 := Lib.hid hi2
    have HB2 := Lib.hid (step2 HB1.out hb2)
    clear ho2 hi2 hb2
    go_wp2_with fail
    refine (sGroupOf_any _ _ _ b _ (HB.out.keep HB2.out)).mono ?_
    rintro e w3 ⟨v3, rfl, ho3, hb3⟩
    obtain ⟨a3, c3, rfl, hi3⟩ := ho3.form
    have HI3 := Lib.hid hi3
    have HI23 := Lib.hid (HI2.out.keep hb3)
    have HB3 := Lib.hid (step2 HB2.out hb3)
    clear ho3 hi3 hb3
    go_wp2_with fail
    refine (l4SameRow_any _ _ _ (groupV a) _ _ _ (groupV b) _ HI23.out HI3.out).mono ?_
    rw [H4.out]
    rintro e w4 ⟨rfl, hd4⟩
    have HB4 := Lib.hid (HB3.out.trans (hd4.below _))
    clear hd4
    go_wp2_with fail
    go_ret
    exact ⟨ret_str hg.out.symm, HB4.out⟩
  by_cases h5 : signOf a = signOf b
  · have hg : Hid (differs a b = txtNone) := by show _ = _; unfold differs; rw [if_neg (by simp [h1]), if_neg (by simp [h2]), if_neg (by simp [h3]), if_neg (by simp [h4]), if_pos h5]
    have he : (signOf a != signOf b) = false := by simp [h5]
    clear h5
    have H1 := Lib.hid h1
    have H2 := Lib.hid h2
    have H3 := Lib.hid h3
    have H4 := Lib.hid h4
    clear h1 h2 h3 h4
    go_enter Tryz.func19, Tryz.ntmps19
    go_wp2_with fail
    refine (sIsSmall_any _ _ _ a _ HA.out).mono ?_
    rw [H1.out]
    rintro e w' ⟨rfl, rfl⟩
    go_wp2_with fail
    refine (sIsSmall_any _ _ _ b _ HB.out).mono ?_
    rw [H2.out]
    rintro e w' ⟨rfl, rfl⟩
    go_wp2_with fail
    refine (sSameZ_any _ _ _ a _ _ _ b _ HA.out HB.out).mono ?_
    rw [H3.out]
    rintro e w1 ⟨rfl, hb1⟩
    have HB1 := Lib.hid hb1
    clear hb1
    go_wp2_with fail
    refine (sGroupOf_any _ _ _ a _ (HA.out.keep HB1.out)).mono ?_
    rintro e w2 ⟨v2, rfl, ho2, hb2⟩
    obtain ⟨a2, c2, rfl, hi2⟩ := ho2.form
    have HI2 := Lib.hid hi2
    have HB2 := Lib.hid (step2 HB1.out hb2)
    clear ho2 hi2 hb2
    go_wp2_with fail
    refine (sGroupOf_any _ _ _ b _ (HB.out.keep HB2.out)).mono ?_
    rintro e w3 ⟨v3, rfl, ho3, hb3⟩
    obtain ⟨a3, c3, rfl, hi3⟩ := ho3.form
    have HI3 := Lib.hid hi3
    have HI23 := Lib.hid (HI2.out.keep hb3)
    have HB3 := Lib.hid (step2 HB2.out hb3)
    clear ho3 hi3 hb3
    go_wp2_with fail
    refine (l4SameRow_any _ _ _ (groupV a) _ _ _ (groupV b) _ HI23.out HI3.out).mono ?_
    rw [H4.out]
    rintro e w4 ⟨rfl, hd4⟩
    have HB4 := Lib.hid (HB3.out.trans (hd4.below _))
    clear hd4
    go_wp2_with fail
    refine (sSignOf_any _ _ _ a _ (HA.out.keep HB4.out)).mono ?_
    rintro e w5 ⟨rfl, hb5⟩
    have HB5 := Lib.hid (step2 HB4.out hb5)
    clear hb5
    go_wp2_with fail
    refine (sSignOf_any _ _ _ b _ (HB.out.keep HB5.out)).mono ?_
    rintro e w6 ⟨rfl, hb6⟩
    have HB6 := Lib.hid (step2 HB5.out hb6)
    clear hb6
    go_wp2_with fail
    go_ret
    exact ⟨ret_str hg.out.symm, HB6.out⟩
  · have hg : Hid (differs a b = txtSign) := by show _ = _; unfold differs; rw [if_neg (by simp [h1]), if_neg (by simp [h2]), if_neg (by simp [h3]), if_neg (by simp [h4]), if_neg h5]
    have he : (signOf a != signOf b) = true := by simp [h5]
    clear h5
    have H1 := Lib.hid h1
    have H2 := Lib.hid h2
    have H3 := Lib.hid h3
    have H4 := Lib.hid h4
    clear h1 h2 h3 h4
    go_enter Tryz.func19, Tryz.ntmps19
    go_wp2_with fail
    refine (sIsSmall_any _ _ _ a _ HA.out).mono ?_
    rw [H1.out]
    rintro e w' ⟨rfl, rfl⟩
    go_wp2_with fail
    refine (sIsSmall_any _ _ _ b _ HB.out).mono ?_
    rw [H2.out]
    rintro e w' ⟨rfl, rfl⟩
    go_wp2_with fail
    refine (sSameZ_any _ _ _ a _ _ _ b _ HA.out HB.out).mono ?_
    rw [H3.out]
    rintro e w1 ⟨rfl, hb1⟩
    have HB1 := Lib.hid hb1
    clear hb1
    go_wp2_with fail
    refine (sGroupOf_any _ _ _ a _ (HA.out.keep HB1.out)).mono ?_
    rintro e w2 ⟨v2, rfl, ho2, hb2⟩
    obtain ⟨a2, c2, rfl, hi2⟩ := ho2.form
    have HI2 := Lib.hid hi2
    have HB2 := Lib.hid (step2 HB1.out hb2)
    clear ho2 hi2 hb2
    go_wp2_with fail
    refine (sGroupOf_any _ _ _ b _ (HB.out.keep HB2.out)).mono ?_
    rintro e w3 ⟨v3, rfl, ho3, hb3⟩
    obtain ⟨a3, c3, rfl, hi3⟩ := ho3.form
    have HI3 := Lib.hid hi3
    have HI23 := Lib.hid (HI2.out.keep hb3)
    have HB3 := Lib.hid (step2 HB2.out hb3)
    clear ho3 hi3 hb3
    go_wp2_with fail
    refine (l4SameRow_any _ _ _ (groupV a) _ _ _ (groupV b) _ HI23.out HI3.out).mono ?_
    rw [H4.out]
    rintro e w4 ⟨rfl, hd4⟩
    have HB4 := Lib.hid (HB3.out.trans (hd4.below _))
    clear hd4
    go_wp2_with fail
    refine (sSignOf_any _ _ _ a _ (HA.out.keep HB4.out)).mono ?_
    rintro e w5 ⟨rfl, hb5⟩
    have HB5 := Lib.hid (step2 HB4.out hb5)
    clear hb5
    go_wp2_with fail
    refine (sSignOf_any _ _ _ b _ (HB.out.keep HB5.out)).mono ?_
    rintro e w6 ⟨rfl, hb6⟩
    have HB6 := Lib.hid (step2 HB5.out hb6)
    clear hb6
    go_wp2_with fail
    go_ret
    exact ⟨ret_str hg.out.symm, HB6.out⟩
end Go.Proofs.YtbjoblgklcilpaaGreatDoor

namespace Go.Proofs.YtbjoblgklcilpaaGreatDoor
open Go.RowKit
set_option linter.all false
set_option maxHeartbeats 1600000 in
theorem sFlowLike_any (p : Option Addr) (n c : Nat) (a : List (List Int)) (p' : Option Addr) (n' c' : Nat) (b : List (List Int)) (w : World) (h : Intss w p n a) (h' : Intss w p' n' b) :
    Calls Tryz.prog 21 #[.slice p n c, .slice p' n' c'] w fun e w' => e = .returned (.bool (flowLike a b)) ∧ Below w.heap.size w w' := by
  have HA := Lib.hid h
  have HB := Lib.hid h'
  clear h h'
  cases h1 : isSmallM a
  · have hg : Hid (flowLike a b = false) := by show _ = _; simp [flowLike, h1]
    go_enter Tryz.func21, Tryz.ntmps21
    go_wp2_with (go_at_call 26; refine (sIsSmall_any _ _ _ a _ HA.out).mono ?_; rintro e w' ⟨rfl, rfl⟩)
    go_ret
    exact ⟨ret_bool hg.out.symm, Below.refl _ _⟩
  cases h2 : isSmallM b
  · have hg : Hid (flowLike a b = false) := by show _ = _; simp [flowLike, h2]
    go_enter Tryz.func21, Tryz.ntmps21
    go_wp2_with fail
    refine (sIsSmall_any _ _ _ a _ HA.out).mono ?_
    rintro e w' ⟨rfl, rfl⟩
    go_wp2_with fail
    refine (sIsSmall_any _ _ _ b _ HB.out).mono ?_
    rintro e w' ⟨rfl, rfl⟩
    go_wp2_with fail
    go_ret
    exact ⟨ret_bool hg.out.symm, Below.refl _ _⟩
  cases h3 : eqL (groupV a) (groupV b)
  · have hg : Hid (flowLike a b = false) := by show _ = _; simp [flowLike, h3]
    go_enter Tryz.func21, Tryz.ntmps21
    go_wp2_with fail
    refine (sIsSmall_any _ _ _ a _ HA.out).mono ?_
    rintro e w' ⟨rfl, rfl⟩
    go_wp2_with fail
    refine (sIsSmall_any _ _ _ b _ HB.out).mono ?_
    rintro e w' ⟨rfl, rfl⟩
    go_wp2_with fail
    refine (sGroupOf_any _ _ _ a _ HA.out).mono ?_
    rintro e w1 ⟨v1, rfl, ho1, hb1⟩
    obtain ⟨ao1, cap1, rfl, hi1⟩ := ho1.form
    have Hi1 := Lib.hid hi1
    have Hb1 := Lib.hid hb1
    clear ho1 hi1 hb1
    go_wp2_with fail
    refine (sGroupOf_any _ _ _ b _ (HB.out.keep Hb1.out)).mono ?_
    rintro e w2 ⟨v2, rfl, ho2, hb2⟩
    obtain ⟨ao2, cap2, rfl, hi2⟩ := ho2.form
    have Hi2 := Lib.hid hi2
    have Hb2 := Lib.hid hb2
    have Hb12 := Lib.hid (step2 Hb1.out hb2)
    clear ho2 hi2 hb2
    go_wp2_with fail
    refine (l4SameRow_any _ _ _ (groupV a) _ _ _ (groupV b) _ (Hi1.out.keep Hb2.out) Hi2.out).mono ?_
    rintro e w3 ⟨rfl, hd3⟩
    have Hb3 := Lib.hid (Hb12.out.trans (hd3.below _))
    clear hd3
    go_wp2_with fail
    go_ret
    exact ⟨ret_bool hg.out.symm, Hb3.out⟩
  · have hg : Hid (flowLike a b = (signOf a == signOf b)) := by show _ = _; simp [flowLike, h1, h2, h3]
    go_enter Tryz.func21, Tryz.ntmps21
    go_wp2_with fail
    refine (sIsSmall_any _ _ _ a _ HA.out).mono ?_
    rintro e w' ⟨rfl, rfl⟩
    go_wp2_with fail
    refine (sIsSmall_any _ _ _ b _ HB.out).mono ?_
    rintro e w' ⟨rfl, rfl⟩
    go_wp2_with fail
    refine (sGroupOf_any _ _ _ a _ HA.out).mono ?_
    rintro e w1 ⟨v1, rfl, ho1, hb1⟩
    obtain ⟨ao1, cap1, rfl, hi1⟩ := ho1.form
    have Hi1 := Lib.hid hi1
    have Hb1 := Lib.hid hb1
    clear ho1 hi1 hb1
    go_wp2_with fail
    refine (sGroupOf_any _ _ _ b _ (HB.out.keep Hb1.out)).mono ?_
    rintro e w2 ⟨v2, rfl, ho2, hb2⟩
    obtain ⟨ao2, cap2, rfl, hi2⟩ := ho2.form
    have Hi2 := Lib.hid hi2
    have Hb2 := Lib.hid hb2
    have Hb12 := Lib.hid (step2 Hb1.out hb2)
    clear ho2 hi2 hb2
    go_wp2_with fail
    refine (l4SameRow_any _ _ _ (groupV a) _ _ _ (groupV b) _ (Hi1.out.keep Hb2.out) Hi2.out).mono ?_
    rintro e w3 ⟨rfl, hd3⟩
    have Hb3 := Lib.hid (Hb12.out.trans (hd3.below _))
    clear hd3
    go_wp2_with fail
    refine (sSignOf_any _ _ _ a _ (HA.out.keep Hb3.out)).mono ?_
    rintro e w4 ⟨rfl, hb4⟩
    have Hb4 := Lib.hid (step2 Hb3.out hb4)
    clear hb4
    go_wp2_with fail
    refine (sSignOf_any _ _ _ b _ (HB.out.keep Hb4.out)).mono ?_
    rintro e w5 ⟨rfl, hb5⟩
    have Hb5 := Lib.hid (step2 Hb4.out hb5)
    clear hb5
    go_wp2_with fail
    go_ret
    exact ⟨ret_bool hg.out.symm, Hb5.out⟩
end Go.Proofs.YtbjoblgklcilpaaGreatDoor

namespace Go.Proofs.YtbjoblgklcilpaaGreatDoor
open Go.RowKit
set_option linter.all false
def txtMinus : ByteArray := ⟨#[109, 105, 110, 117, 115]⟩
def txtZero : ByteArray := ⟨#[122, 101, 114, 111]⟩
def txtPlus : ByteArray := ⟨#[112, 108, 117, 115]⟩
def sgT (s : Int) : ByteArray := if s < 0 then txtMinus else if s = 0 then txtZero else txtPlus
def linesV (m : List (List Int)) : List ByteArray := if isSmallM m then [groupTxt (groupV m), sgT (signOf m)] else []
theorem diagL_le {t : List (List Int)} (hb : Bnd 100 t) : ∀ (c k : Nat) (b : Int), 1 ≤ b → k + c ≤ 5 → ∀ x ∈ diagL t c k b, x ≤ 4611686018427387904
  | 0, _, _, _, _ => by simp [diagL]
  | c + 1, k, b, h1, h2 => by
    have hm := minorsI_small (k := k) hb (by omega)
    have hm2 := hm.2.2
    intro x hx
    unfold diagL at hx
    split at hx
    · rcases List.mem_cons.1 hx with rfl | hx
      · omega
      · exact diagL_le hb c (k + 1) b h1 (by omega) x hx
    · rcases List.mem_cons.1 hx with rfl | hx
      · have h3 : (minorsI t k).tdiv b = minorsI t k / b := Int.tdiv_eq_ediv_of_nonneg hm.1
        have h4 : minorsI t k / b ≤ minorsI t k := Int.ediv_le_self _ hm.1
        omega
      · exact diagL_le hb c (k + 1) _ (by omega) (by omega) x hx
theorem groupV_le (m : List (List Int)) : ∀ x ∈ groupV m, x ≤ 9223372036854775807 := by
  intro x hx
  unfold groupV at hx
  split at hx
  · rename_i h
    have h2 := (isSmallM_mat h).2.1
    have h3 := diagL_le (smith_bnd (less_smith h)) (lessT 1 1 m).length 1 1 (by omega) (by rw [lessT_len]; omega) x (List.mem_filter.1 hx).1
    omega
  · simp at hx
theorem groupV_len (m : List (List Int)) : (groupV m).length ≤ 1048576 := by
  unfold groupV
  split
  · rename_i h
    have h2 := (isSmallM_mat h).2.1
    have h3 := List.length_filter_le ne1 (diagN (lessT 1 1 m))
    rw [diagN_len, lessT_len] at h3
    omega
  · simp
theorem sgn_three (x : Int) : sgn x = -1 ∨ sgn x = 0 ∨ sgn x = 1 := by
  unfold sgn
  split
  · simp
  · split <;> simp
theorem signOf_three {m : List (List Int)} (h : isSmallM m = true) : signOf m = -1 ∨ signOf m = 0 ∨ signOf m = 1 := by
  unfold signOf
  rw [if_pos h]
  exact sgn_three _
end Go.Proofs.YtbjoblgklcilpaaGreatDoor

namespace Go.Proofs.YtbjoblgklcilpaaGreatDoor
open Go.RowKit
set_option linter.all false
set_option maxRecDepth 20000 in
set_option maxHeartbeats 3200000 in
theorem sLines_any (p : Option Addr) (n c : Nat) (m : List (List Int)) (w : World) (h : Intss w p n m) :
    Calls Tryz.prog 25 #[.slice p n c] w fun e w' => ∃ v, e = .returned v ∧ OStrs w' w.heap.size v (linesV m).length (linesV m) ∧ Below w.heap.size w w' := by
  have H := Lib.hid h
  clear h
  cases hs : isSmallM m
  · have hg : Hid (linesV m = []) := by show _ = _; simp [linesV, hs]
    have HS := Lib.hid hs
    clear hs
    go_enter Tryz.func25, Tryz.ntmps25
    go_wp2_with (go_at_call 26; refine (sIsSmall_any _ _ _ m _ H.out).mono ?_; rw [HS.out]; rintro e w' ⟨rfl, rfl⟩)
    go_ret
    rw [hg.out]
    exact ⟨_, rfl, OStrs.empty _ _ (Nat.le_refl _), belowA _ _⟩
  have hg : Hid (linesV m = [groupTxt (groupV m), sgT (signOf m)]) := by show _ = _; simp [linesV, hs]
  have H3 := Lib.hid (signOf_three hs)
  have HS := Lib.hid hs
  have HLE := Lib.hid (groupV_le m)
  have HLN := groupV_len m
  clear hs
  go_enter Tryz.func25, Tryz.ntmps25
  go_wp2_with fail
  refine (sIsSmall_any _ _ _ m _ H.out).mono ?_
  rw [HS.out]
  rintro e w' ⟨rfl, rfl⟩
  go_wp2_with fail
  refine (sGroupOf_any _ _ _ m _ H.out).mono ?_
  rintro e w1 ⟨v1, rfl, ho1, hb1⟩
  obtain ⟨a1, c1, rfl, hi1⟩ := ho1.form
  have HI1 := Lib.hid hi1
  have HB1 := Lib.hid hb1
  clear ho1 hi1 hb1
  go_wp2_with fail
  refine (sGroupText_any _ _ _ (groupV m) _ HI1.out HLN HLE.out).mono ?_
  rintro e w2 ⟨rfl, hb2⟩
  have HB2 := Lib.hid (step2 HB1.out hb2)
  clear hb2
  have HK := Lib.hid (heap_alloc_new w2 (.cells #[.string txtMinus, .string txtZero, .string txtPlus] 9))
  have HB3 := Lib.hid (step2 HB2.out (belowA w2 (.cells #[.string txtMinus, .string txtZero, .string txtPlus] 9)))
  have HBA := Lib.hid (belowA w2 (.cells #[.string txtMinus, .string txtZero, .string txtPlus] 9))
  have e1 : txtMinus = ⟨#[109, 105, 110, 117, 115]⟩ := rfl
  have e2 : txtZero = ⟨#[122, 101, 114, 111]⟩ := rfl
  have e3 : txtPlus = ⟨#[112, 108, 117, 115]⟩ := rfl
  rw [e1, e2, e3] at HK HB3 HBA
  clear e1 e2 e3
  go_wp2_with fail
  obtain ⟨g, hgs⟩ : ∃ g, w2.heap.size = g := ⟨_, rfl⟩
  rw [hgs] at HK
  simp only [hgs]
  generalize w2.alloc (.cells #[.string ⟨#[109, 105, 110, 117, 115]⟩, .string ⟨#[122, 101, 114, 111]⟩, .string ⟨#[112, 108, 117, 115]⟩] 9) = w3 at HK HB3 HBA ⊢
  clear hgs
  rcases H3.out with hz | hz | hz
  · have HZ := Lib.hid hz
    have HG : Hid (linesV m = [groupTxt (groupV m), txtMinus]) := by show _ = _; rw [hg.out, hz]; rfl
    clear hz
    refine (sSignOf_any _ _ _ m _ (H.out.keep HB3.out)).mono ?_
    rw [HZ.out]
    rintro e w4 ⟨rfl, hb4⟩
    have hblk := (hb4.block g (Array.getElem?_eq_some_iff.1 HK.out).1).trans HK.out
    have hcell := cell_of_row w4 g 0 _ 9 (0, 0) hblk
    have HB4 := Lib.hid (step2 HB3.out hb4)
    have HO := Lib.hid (OStrs.lit w4 w.heap.size [groupTxt (groupV m), txtMinus] HB4.out.size (by simp))
    have HB5 := Lib.hid (step2 HB4.out (belowA w4 (.cells #[.string (groupTxt (groupV m)), .string txtMinus] 9)))
    have e9 : txtMinus = ⟨#[109, 105, 110, 117, 115]⟩ := rfl
    rw [e9] at HO HB5
    clear hb4 hblk e9
    go_wp2_with fail
    go_ret
    rw [HG.out]
    exact ⟨_, rfl, HO.out, HB5.out⟩
  · have HZ := Lib.hid hz
    have HG : Hid (linesV m = [groupTxt (groupV m), txtZero]) := by show _ = _; rw [hg.out, hz]; rfl
    clear hz
    refine (sSignOf_any _ _ _ m _ (H.out.keep HB3.out)).mono ?_
    rw [HZ.out]
    rintro e w4 ⟨rfl, hb4⟩
    have hblk := (hb4.block g (Array.getElem?_eq_some_iff.1 HK.out).1).trans HK.out
    have hcell := cell_of_row w4 g 1 _ 9 (0, 0) hblk
    have HB4 := Lib.hid (step2 HB3.out hb4)
    have HO := Lib.hid (OStrs.lit w4 w.heap.size [groupTxt (groupV m), txtZero] HB4.out.size (by simp))
    have HB5 := Lib.hid (step2 HB4.out (belowA w4 (.cells #[.string (groupTxt (groupV m)), .string txtZero] 9)))
    have e9 : txtZero = ⟨#[122, 101, 114, 111]⟩ := rfl
    rw [e9] at HO HB5
    clear hb4 hblk e9
    go_wp2_with fail
    go_ret
    rw [HG.out]
    exact ⟨_, rfl, HO.out, HB5.out⟩
  · have HZ := Lib.hid hz
    have HG : Hid (linesV m = [groupTxt (groupV m), txtPlus]) := by show _ = _; rw [hg.out, hz]; rfl
    clear hz
    refine (sSignOf_any _ _ _ m _ (H.out.keep HB3.out)).mono ?_
    rw [HZ.out]
    rintro e w4 ⟨rfl, hb4⟩
    have hblk := (hb4.block g (Array.getElem?_eq_some_iff.1 HK.out).1).trans HK.out
    have hcell := cell_of_row w4 g 2 _ 9 (0, 0) hblk
    have HB4 := Lib.hid (step2 HB3.out hb4)
    have HO := Lib.hid (OStrs.lit w4 w.heap.size [groupTxt (groupV m), txtPlus] HB4.out.size (by simp))
    have HB5 := Lib.hid (step2 HB4.out (belowA w4 (.cells #[.string (groupTxt (groupV m)), .string txtPlus] 9)))
    have e9 : txtPlus = ⟨#[112, 108, 117, 115]⟩ := rfl
    rw [e9] at HO HB5
    clear hb4 hblk e9
    go_wp2_with fail
    go_ret
    rw [HG.out]
    exact ⟨_, rfl, HO.out, HB5.out⟩
end Go.Proofs.YtbjoblgklcilpaaGreatDoor

namespace Go.Proofs.YtbjoblgklcilpaaGreatDoor
open Go.RowKit
set_option linter.all false
def tpR (m : List (List Int)) (n i j a : Nat) : List Int := (List.range n).map fun b => if b < i ∨ (b = i ∧ a < j) then (m.getD b []).getD a 0 else 0
def tp (m : List (List Int)) (n i j : Nat) : List (List Int) := (List.range n).map (tpR m n i j)
theorem tp_len (m : List (List Int)) (n i j : Nat) : (tp m n i j).length = n := by simp [tp]
theorem tpR_len (m : List (List Int)) (n i j a : Nat) : (tpR m n i j a).length = n := by simp [tpR]
theorem tp_get {m : List (List Int)} {n i j a : Nat} (h : a < n) : (tp m n i j)[a]? = some (tpR m n i j a) := by simp [tp, h]
theorem tpR_get {m : List (List Int)} {n i j a b : Nat} (h : b < n) : (tpR m n i j a)[b]? = some (if b < i ∨ (b = i ∧ a < j) then (m.getD b []).getD a 0 else 0) := by simp [tpR, h]
theorem tp_ext {X Y : List (List Int)} {n : Nat} (hx : X.length = n) (hy : Y.length = n) (h : ∀ (a : Nat) (r s : List Int), X[a]? = some r → Y[a]? = some s → r = s) : X = Y := by
  apply List.ext_getElem?
  intro a
  by_cases ha : a < n
  · rw [List.getElem?_eq_getElem (by omega), List.getElem?_eq_getElem (by omega), h a _ _ (List.getElem?_eq_getElem (by omega)) (List.getElem?_eq_getElem (by omega))]
  · rw [List.getElem?_eq_none (by omega), List.getElem?_eq_none (by omega)]
theorem row_ext {r s : List Int} {n : Nat} (hx : r.length = n) (hy : s.length = n) (h : ∀ a : Nat, a < n → r[a]? = s[a]?) : r = s := by
  apply List.ext_getElem?
  intro a
  by_cases ha : a < n
  · exact h a ha
  · rw [List.getElem?_eq_none (by omega), List.getElem?_eq_none (by omega)]
theorem tp_zero (m : List (List Int)) (n : Nat) : List.replicate n (List.replicate n 0) = tp m n 0 0 := by
  refine tp_ext (n := n) (by simp) (tp_len _ _ _ _) fun a r s hr hs => ?_
  have ha : a < n := by have := (List.getElem?_eq_some_iff.1 hr).1; simpa using this
  rw [tp_get ha] at hs
  injection hs with hs
  have hr2 : r = List.replicate n 0 := by simpa [List.getElem?_replicate, ha, eq_comm] using hr
  subst hs
  subst hr2
  refine row_ext (n := n) (by simp) (tpR_len _ _ _ _ _) fun b hb => ?_
  rw [tpR_get hb]
  simp [List.getElem?_replicate, hb]
theorem tp_step {m : List (List Int)} {n i j : Nat} {x : Int} (hi : i < n) (hj : j < n) (hx : (m.getD i []).getD j 0 = x) : (tp m n i j).set j ((tpR m n i j j).set i x) = tp m n i (j + 1) := by
  refine tp_ext (n := n) (by simp [tp_len]) (tp_len _ _ _ _) fun a r s hr hs => ?_
  have ha : a < n := by have := (List.getElem?_eq_some_iff.1 hr).1; simpa [tp_len] using this
  rw [tp_get ha] at hs
  injection hs with hs
  subst hs
  rw [List.getElem?_set] at hr
  by_cases e : j = a
  · subst e
    rw [if_pos rfl, if_pos (by rw [tp_len]; exact ha)] at hr
    injection hr with hr
    subst hr
    refine row_ext (n := n) (by simp [tpR_len]) (tpR_len _ _ _ _ _) fun b hb => ?_
    rw [tpR_get hb, List.getElem?_set]
    by_cases e2 : i = b
    · subst e2
      rw [if_pos rfl, if_pos (by rw [tpR_len]; exact hb), hx, if_pos (by omega)]
    · rw [if_neg e2, tpR_get hb]
      congr 1
      by_cases e3 : b < i
      · rw [if_pos (by omega), if_pos (by omega)]
      · rw [if_neg (by omega), if_neg (by omega)]
  · rw [if_neg e, tp_get ha] at hr
    injection hr with hr
    subst hr
    refine row_ext (n := n) (tpR_len _ _ _ _ _) (tpR_len _ _ _ _ _) fun b hb => ?_
    rw [tpR_get hb, tpR_get hb]
    congr 1
    by_cases e3 : b < i ∨ (b = i ∧ a < j)
    · rw [if_pos e3, if_pos (by omega)]
    · rw [if_neg e3, if_neg (by omega)]
theorem tp_next (m : List (List Int)) (n i : Nat) : tp m n i n = tp m n (i + 1) 0 := by
  refine tp_ext (n := n) (tp_len _ _ _ _) (tp_len _ _ _ _) fun a r s hr hs => ?_
  have ha : a < n := by have := (List.getElem?_eq_some_iff.1 hr).1; simpa [tp_len] using this
  rw [tp_get ha] at hr hs
  injection hr with hr
  injection hs with hs
  subst hr
  subst hs
  refine row_ext (n := n) (tpR_len _ _ _ _ _) (tpR_len _ _ _ _ _) fun b hb => ?_
  rw [tpR_get hb, tpR_get hb]
  congr 1
  by_cases e3 : b < i ∨ (b = i ∧ a < n)
  · rw [if_pos e3, if_pos (by omega)]
  · rw [if_neg e3, if_neg (by omega)]
theorem tp_end {m : List (List Int)} {n : Nat} (h : m.length = n) : tp m n n 0 = turnT m := by
  refine tp_ext (n := n) (tp_len _ _ _ _) (by rw [turnT_len, h]) fun a r s hr hs => ?_
  have ha : a < n := by have := (List.getElem?_eq_some_iff.1 hr).1; simpa [tp_len] using this
  rw [tp_get ha] at hr
  rw [turnT_get (by omega)] at hs
  injection hr with hr
  injection hs with hs
  subst hr
  subst hs
  refine row_ext (n := n) (tpR_len _ _ _ _ _) (by simp [h]) fun b hb => ?_
  rw [tpR_get hb, if_pos (by omega)]
  have hbm : b < m.length := by omega
  simp [List.getD, hbm]
/-- The column as far as k. -/
theorem turn_push {m : List (List Int)} {i k : Nat} {r : List Int} {x : Int} (hr : m[k]? = some r) (hx : r[i]? = some x) : (m.map fun r => r.getD i 0)[k]? = some x := by simp [hr, List.getD, hx]
end Go.Proofs.YtbjoblgklcilpaaGreatDoor

namespace Go.Proofs.YtbjoblgklcilpaaGreatDoor
open Go.RowKit
set_option linter.all false
set_option maxRecDepth 20000 in
set_option maxHeartbeats 3200000 in
theorem sTurn4_any (p : Option Addr) (n c : Nat) (m : List (List Int)) (w : World) (h : Intss w p n m) (hr : RowsLen m n) (hn : n ≤ 1048576) :
    Calls Tryz.prog 56 #[.slice p n c] w fun e w' => ∃ v, e = .returned v ∧ OIntss w' w.heap.size v n (turnT m) ∧ Below w.heap.size w w' := by
  have HL : Hid (m.length = n) := h.1
  have H := Lib.hid h
  have HR := Lib.hid hr
  clear h hr
  go_enter Tryz.func56, Tryz.ntmps56
  go_wp2_with fail
  refine (sL4Zero_any n n _ hn hn).mono ?_
  rintro e w1 ⟨v1, rfl, ho1, hb1⟩
  obtain ⟨ao, cap, rfl, _⟩ := ho1.form
  rw [tp_zero m n] at ho1
  have Ho1 := Lib.hid ho1
  have Hb1 := Lib.hid hb1
  clear ho1 hb1
  go_wp2_with fail
  go_loopw [4] (fun x wr => ∃ i : Nat, i ≤ n ∧ x = .int .i64 i ∧ OIntss wr w.heap.size (.slice ao n cap) n (tp m n i 0) ∧ Below w.heap.size w wr) (fun x _ => n - (intOf x).toNat)
  case atStart => exact ⟨0, Nat.zero_le _, rfl, Ho1.out, Hb1.out⟩
  case round =>
    obtain ⟨i, hi, rfl, hown, hbl⟩ := hrel
    clear Ho1 Hb1
    by_cases hlt : i < n
    · obtain ⟨b1, o1, a1, c1, r, rfl, hca, hrow, hget⟩ := H.out.at_ hlt
      have hrl : r.length = n := HR.out _ _ hget.out
      have HRL := Lib.hid hrl
      have HGET := Lib.hid hget.out
      have Hca := Lib.hid hca
      have Hrow := Lib.hid hrow
      obtain ⟨g, cap', e⟩ := hown.head (by omega)
      injection e with e1 e2 e3
      subst e1
      have Hown := Lib.hid hown
      have Hbl := Lib.hid hbl
      clear hown hbl hca hrow hget hrl e2 e3
      go_wp2_with fail
      go_loopw [5] (fun x wr => ∃ j : Nat, j ≤ n ∧ x = .int .i64 j ∧ OIntss wr w.heap.size (.slice (some ⟨g, 0, none⟩) n cap) n (tp m n i j) ∧ Below w.heap.size w wr) (fun x _ => n - (intOf x).toNat)
      case atStart => exact ⟨0, Nat.zero_le _, rfl, Hown.out, Hbl.out⟩
      case round =>
        obtain ⟨j, hj, rfl, hown, hbl⟩ := hrel
        clear Hown Hbl
        by_cases hjn : j < n
        · obtain ⟨b2, o2, x, rfl, hcx, hgx⟩ := Hrow.out.at_ (k := j) (by have := HRL.out; omega)
          have q1 := (hbl.cell (World.block_lt_of_cell? w _ Hca.out)).trans Hca.out
          have q2 := (hbl.cell (World.block_lt_of_cell? w _ hcx)).trans hcx
          have hjr : j < r.length := by have := HRL.out; omega
          have hxe : (m.getD i []).getD j 0 = x := by simp only [List.getD, HGET.out, hgx.out, Option.getD_some]
          obtain ⟨gk, ck, h5, ho, hne, hlo⟩ := hown.rowAt (tp_get hjn) (by rw [tpR_len]; omega)
          have hset := hown.setIn (tp_get hjn) h5 ho i x
          rw [tp_step hlt hjn hxe] at hset
          rw [tpR_len] at h5 ho
          have h6 := ho.cell i hlt
          have h7 := ho.frozen i
          have hb' := hbl.setCell (p := ⟨gk, i, none⟩) hlo (.int .i64 x)
          have Hset := Lib.hid hset
          have Hb' := Lib.hid hb'
          clear hset hb' ho hown hbl hcx hgx hxe
          go_wp2_with fail
          go_region
          all_goals (go_wp2_with fail)
          all_goals go_roundw
          case rel => exact ⟨j + 1, hjn, by go_num, by first | exact Hset.out | exact Hset.out.drewN 1, by first | exact Hb'.out | exact Hb'.out.drew⟩
          case measure => simp [intOf]; omega
        · have e : j = n := by omega
          rw [e, tp_next] at hown
          have Hown := Lib.hid hown
          have Hbl := Lib.hid hbl
          clear hown hbl
          go_wp2_with fail
          go_roundw
          case rel => exact ⟨i + 1, hlt, by go_num, Hown.out, Hbl.out⟩
          case measure => simp [intOf]; omega
    · have e : i = n := by omega
      rw [e, tp_end HL.out] at hown
      go_wp2_with fail
      go_ret
      exact ⟨_, rfl, hown, hbl⟩
set_option maxHeartbeats 1600000 in
theorem sTurnM_any (p : Option Addr) (n c : Nat) (m : List (List Int)) (w : World) (h : Intss w p n m) :
    Calls Tryz.prog 28 #[.slice p n c] w fun e w' => ∃ v, e = .returned v ∧ OIntss w' w.heap.size v (turnM m).length (turnM m) ∧ Below w.heap.size w w' := by
  have HL : Hid (m.length = n) := h.1
  have H := Lib.hid h
  clear h
  cases hm : isMat m
  · have hv : Hid (turnM m = []) := by show _ = _; simp [turnM, hm]
    go_enter Tryz.func28, Tryz.ntmps28
    go_wp2_with (go_at_call 42; refine (sIsMatrix_any _ _ _ m _ H.out).mono ?_; rintro e w' ⟨rfl, rfl⟩)
    go_ret
    rw [hv.out]
    exact ⟨_, rfl, OIntss.empty _ _ (Nat.le_refl _), (Below.refl _ _).alloc (Nat.le_refl _) _⟩
  · have hv : Hid (turnM m = turnT m) := by show _ = _; simp [turnM, hm]
    have HR : Hid (RowsLen m n) := by rw [← HL.out]; exact isMat_rowsLen hm rfl
    have hn9 : n ≤ 9 := by have := (isMat_len hm).2; have := HL.out; omega
    have HE : Hid ((turnT m).length = n) := by show _ = _; rw [turnT_len, HL.out]
    go_enter Tryz.func28, Tryz.ntmps28
    go_wp2_with (go_at_call 42; refine (sIsMatrix_any _ _ _ m _ H.out).mono ?_; rintro e w' ⟨rfl, rfl⟩)
    refine (sTurn4_any _ _ _ m _ H.out HR.out (by omega)).mono ?_
    rintro e w1 ⟨v, rfl, ho, hb⟩
    go_wp2_with fail
    go_ret
    rw [hv.out, HE.out]
    exact ⟨_, rfl, ho, hb⟩
end Go.Proofs.YtbjoblgklcilpaaGreatDoor
