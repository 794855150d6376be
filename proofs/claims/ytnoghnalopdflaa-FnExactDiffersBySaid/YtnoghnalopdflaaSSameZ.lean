/- SSameZ: a part of the proofs of this seat. -/
import Derived.Test.YtnoghnalopdflaaProg
import Derived.Test.YtnoghnalopdflaaThA
import Derived.Test.YtnoghnalopdflaaSTurned
import Derived.Test.YtnoghnalopdflaaSIsSmall
namespace Go.Proofs.Ytnoghnalopdflaa
open Go.RowKit
set_option linter.all false
set_option maxRecDepth 20000 in
set_option maxHeartbeats 1600000 in
theorem sSameZ_any (p : Option Addr) (n c : Nat) (a : List (List Int)) (p' : Option Addr) (n' c' : Nat) (b : List (List Int)) (w : World) (h : Intss w p n a) (h' : Intss w p' n' b) :
    Calls Try.prog 102 #[.slice p n c, .slice p' n' c'] w fun e w' => e = .returned (.bool (sameZ a b)) ∧ Below w.heap.size w w' := by
  have HA := Lib.hid h
  have HB := Lib.hid h'
  clear h h'
  cases h1 : isSmallM a
  · have hg : Hid (sameZ a b = false) := by show _ = _; simp [sameZ, h1]
    have H1 := Lib.hid h1
    clear h1
    go_enter Try.func102, Try.ntmps102
    go_wp2_with (go_at_call 101; refine (sIsSmall_any _ _ _ a _ HA.out).mono ?_; rw [H1.out]; rintro e w' ⟨rfl, rfl⟩)
    go_ret
    exact ⟨ret_bool hg.out.symm, Below.refl _ _⟩
  cases h2 : isSmallM b
  · have hg : Hid (sameZ a b = false) := by show _ = _; simp [sameZ, h2]
    have H1 := Lib.hid h1
    have H2 := Lib.hid h2
    clear h1 h2
    go_enter Try.func102, Try.ntmps102
    go_wp2_with fail
    refine (sIsSmall_any _ _ _ a _ HA.out).mono ?_
    rw [H1.out]
    rintro e w' ⟨rfl, rfl⟩
    go_wp2_with fail
    refine (sIsSmall_any _ _ _ b _ HB.out).mono ?_
    rw [H2.out]
    rintro e w' ⟨rfl, rfl⟩
    go_wp2_with fail
    go_ret
    exact ⟨ret_bool hg.out.symm, Below.refl _ _⟩
  have hg : Hid (sameZ a b = eqL (turnedP a) (turnedP b)) := by show _ = _; simp [sameZ, h1, h2]
  have H1 := Lib.hid h1
  have H2 := Lib.hid h2
  clear h1 h2
  go_enter Try.func102, Try.ntmps102
  go_wp2_with fail
  refine (sIsSmall_any _ _ _ a _ HA.out).mono ?_
  rw [H1.out]
  rintro e w' ⟨rfl, rfl⟩
  go_wp2_with fail
  refine (sIsSmall_any _ _ _ b _ HB.out).mono ?_
  rw [H2.out]
  rintro e w' ⟨rfl, rfl⟩
  go_wp2_with fail
  refine (sTurned_any _ _ _ a _ HA.out).mono ?_
  rintro e w1 ⟨v1, rfl, ho1, hb1⟩
  obtain ⟨a1, c1, rfl, hi1⟩ := ho1.form
  have hc1 := ho1.capLe rfl
  have HI1 := Lib.hid hi1
  have HB1 := Lib.hid hb1
  clear ho1 hi1 hb1
  go_wp2_with fail
  refine (sTurned_any _ _ _ b _ (HB.out.keep HB1.out)).mono ?_
  rintro e w2 ⟨v2, rfl, ho2, hb2⟩
  obtain ⟨a2, c2, rfl, hi2⟩ := ho2.form
  have HI2 := Lib.hid hi2
  have HB2 := Lib.hid hb2
  clear ho2 hi2 hb2
  go_wp2_with fail
  refine (l4SameRow_any _ _ _ (turnedP a) _ _ _ (turnedP b) _ (HI1.out.keep HB2.out) HI2.out).mono ?_
  rintro e w3 ⟨rfl, hd3⟩
  have HB3 := Lib.hid ((step2 HB1.out HB2.out).trans (hd3.below _))
  clear hd3
  go_wp2_with fail
  go_ret
  exact ⟨ret_bool hg.out.symm, HB3.out⟩
end Go.Proofs.Ytnoghnalopdflaa
