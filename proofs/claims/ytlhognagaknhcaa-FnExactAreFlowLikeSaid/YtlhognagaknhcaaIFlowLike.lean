/- IFlowLike: a part of the proofs of this seat. -/
import Derived.Test.YtlhognagaknhcaaProg
import Derived.Test.YtlhognagaknhcaaFlowLike
import Derived.Test.YtlhognagaknhcaaIGroupOf
import Derived.Test.YtlhognagaknhcaaISignOf
import Derived.Test.YtlhognagaknhcaaIIsSmall
import Derived.Test.YtlhognagaknhcaaSlicesEq
namespace Go.Proofs.Ytlhognagaknhcaa
open Go.RowKit
set_option linter.all false
set_option maxHeartbeats 1600000 in
theorem iFlowLike_any (p : Option Addr) (n c : Nat) (a : List (List Int)) (p' : Option Addr) (n' c' : Nat) (b : List (List Int)) (w : World) (h : Intss w p n a) (h' : Intss w p' n' b) :
    Calls Try.prog 30 #[.slice p n c, .slice p' n' c'] w fun e w' => e = .returned (.bool (flowLike a b)) ∧ Below w.heap.size w w' := by
  have HA := Lib.hid h
  have HB := Lib.hid h'
  clear h h'
  cases h1 : isSmallM a
  · have hg : Hid (flowLike a b = false) := by show _ = _; simp [flowLike, h1]
    go_enter Try.func30, Try.ntmps30
    go_wp2_with (go_at_call 59; refine (iIsSmall_any _ _ _ a _ HA.out).mono ?_; rintro e w' ⟨rfl, rfl⟩)
    go_ret
    exact ⟨ret_bool hg.out.symm, Below.refl _ _⟩
  cases h2 : isSmallM b
  · have hg : Hid (flowLike a b = false) := by show _ = _; simp [flowLike, h2]
    go_enter Try.func30, Try.ntmps30
    go_wp2_with fail
    refine (iIsSmall_any _ _ _ a _ HA.out).mono ?_
    rintro e w' ⟨rfl, rfl⟩
    go_wp2_with fail
    refine (iIsSmall_any _ _ _ b _ HB.out).mono ?_
    rintro e w' ⟨rfl, rfl⟩
    go_wp2_with fail
    go_ret
    exact ⟨ret_bool hg.out.symm, Below.refl _ _⟩
  cases h3 : eqL (groupV a) (groupV b)
  · have hg : Hid (flowLike a b = false) := by show _ = _; simp [flowLike, h3]
    go_enter Try.func30, Try.ntmps30
    go_wp2_with fail
    refine (iIsSmall_any _ _ _ a _ HA.out).mono ?_
    rintro e w' ⟨rfl, rfl⟩
    go_wp2_with fail
    refine (iIsSmall_any _ _ _ b _ HB.out).mono ?_
    rintro e w' ⟨rfl, rfl⟩
    go_wp2_with fail
    refine (iGroupOf_any _ _ _ a _ HA.out).mono ?_
    rintro e w1 ⟨v1, rfl, ho1, hb1⟩
    obtain ⟨ao1, cap1, rfl, hi1⟩ := ho1.form
    have Hi1 := Lib.hid hi1
    have Hb1 := Lib.hid hb1
    clear ho1 hi1 hb1
    go_wp2_with fail
    refine (iGroupOf_any _ _ _ b _ (HB.out.keep Hb1.out)).mono ?_
    rintro e w2 ⟨v2, rfl, ho2, hb2⟩
    obtain ⟨ao2, cap2, rfl, hi2⟩ := ho2.form
    have Hi2 := Lib.hid hi2
    have Hb2 := Lib.hid hb2
    have Hb12 := Lib.hid (step2 Hb1.out hb2)
    clear ho2 hi2 hb2
    go_wp2_with fail
    refine (slicesEqual_any _ _ _ (groupV a) _ _ _ (groupV b) _ (Hi1.out.keep Hb2.out) Hi2.out).mono ?_
    rintro e w3 ⟨rfl, hd3⟩
    have Hb3 := Lib.hid (Hb12.out.trans (hd3.below _))
    clear hd3
    go_wp2_with fail
    go_ret
    exact ⟨ret_bool hg.out.symm, Hb3.out⟩
  · have hg : Hid (flowLike a b = (signOf a == signOf b)) := by show _ = _; simp [flowLike, h1, h2, h3]
    go_enter Try.func30, Try.ntmps30
    go_wp2_with fail
    refine (iIsSmall_any _ _ _ a _ HA.out).mono ?_
    rintro e w' ⟨rfl, rfl⟩
    go_wp2_with fail
    refine (iIsSmall_any _ _ _ b _ HB.out).mono ?_
    rintro e w' ⟨rfl, rfl⟩
    go_wp2_with fail
    refine (iGroupOf_any _ _ _ a _ HA.out).mono ?_
    rintro e w1 ⟨v1, rfl, ho1, hb1⟩
    obtain ⟨ao1, cap1, rfl, hi1⟩ := ho1.form
    have Hi1 := Lib.hid hi1
    have Hb1 := Lib.hid hb1
    clear ho1 hi1 hb1
    go_wp2_with fail
    refine (iGroupOf_any _ _ _ b _ (HB.out.keep Hb1.out)).mono ?_
    rintro e w2 ⟨v2, rfl, ho2, hb2⟩
    obtain ⟨ao2, cap2, rfl, hi2⟩ := ho2.form
    have Hi2 := Lib.hid hi2
    have Hb2 := Lib.hid hb2
    have Hb12 := Lib.hid (step2 Hb1.out hb2)
    clear ho2 hi2 hb2
    go_wp2_with fail
    refine (slicesEqual_any _ _ _ (groupV a) _ _ _ (groupV b) _ (Hi1.out.keep Hb2.out) Hi2.out).mono ?_
    rintro e w3 ⟨rfl, hd3⟩
    have Hb3 := Lib.hid (Hb12.out.trans (hd3.below _))
    clear hd3
    go_wp2_with fail
    refine (iSignOf_any _ _ _ a _ (HA.out.keep Hb3.out)).mono ?_
    rintro e w4 ⟨rfl, hb4⟩
    have Hb4 := Lib.hid (step2 Hb3.out hb4)
    clear hb4
    go_wp2_with fail
    refine (iSignOf_any _ _ _ b _ (HB.out.keep Hb4.out)).mono ?_
    rintro e w5 ⟨rfl, hb5⟩
    have Hb5 := Lib.hid (step2 Hb4.out hb5)
    clear hb5
    go_wp2_with fail
    go_ret
    exact ⟨ret_bool hg.out.symm, Hb5.out⟩
end Go.Proofs.Ytlhognagaknhcaa
