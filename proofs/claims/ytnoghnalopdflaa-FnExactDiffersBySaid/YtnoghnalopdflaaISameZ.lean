/- ISameZ: a part of the proofs of this seat. -/
import Derived.Test.YtnoghnalopdflaaProg
import Derived.Test.YtnoghnalopdflaaThA
import Derived.Test.YtnoghnalopdflaaITurned
import Derived.Test.YtnoghnalopdflaaIIsSmall
import Derived.Test.YtnoghnalopdflaaEqMat
namespace Go.Proofs.Ytnoghnalopdflaa
open Go.RowKit
set_option linter.all false
theorem one_row (W : World) (ai : Option Addr) (ci : Nat) (r : List Int) (h : Ints W ai r.length r) (hc : r.length ≤ ci) : Intss (W.alloc (.cells #[.slice ai r.length ci] 68)) (some ⟨W.heap.size, 0, none⟩) 1 [r] := by
  refine ⟨rfl, by omega, fun i r' hi => ?_⟩
  have hz : i = 0 := by
    have := (List.getElem?_eq_some_iff.1 hi).1
    simp at this
    omega
  subst hz
  simp at hi
  subst hi
  exact ⟨_, 0, ai, ci, rfl, World.cell?_alloc_new _ _ _ _, h.keep ((Below.refl _ _).alloc (Nat.le_refl _) _), hc⟩
theorem eqL_one (a b : List Int) : eqL [a] [b] = eqL a b := by simp [eqL]
set_option maxRecDepth 20000 in
set_option maxHeartbeats 1600000 in
theorem iSameZ_any (p : Option Addr) (n c : Nat) (a : List (List Int)) (p' : Option Addr) (n' c' : Nat) (b : List (List Int)) (w : World) (h : Intss w p n a) (h' : Intss w p' n' b) :
    Calls Try.prog 108 #[.slice p n c, .slice p' n' c'] w fun e w' => e = .returned (.bool (sameZ a b)) ∧ Below w.heap.size w w' := by
  have HA := Lib.hid h
  have HB := Lib.hid h'
  clear h h'
  cases h1 : isSmallM a
  · have hg : Hid (sameZ a b = false) := by show _ = _; simp [sameZ, h1]
    have H1 := Lib.hid h1
    clear h1
    go_enter Try.func108, Try.ntmps108
    go_wp2_with (go_at_call 107; refine (iIsSmall_any _ _ _ a _ HA.out).mono ?_; rw [H1.out]; rintro e w' ⟨rfl, rfl⟩)
    go_ret
    exact ⟨ret_bool hg.out.symm, Below.refl _ _⟩
  cases h2 : isSmallM b
  · have hg : Hid (sameZ a b = false) := by show _ = _; simp [sameZ, h2]
    have H1 := Lib.hid h1
    have H2 := Lib.hid h2
    clear h1 h2
    go_enter Try.func108, Try.ntmps108
    go_wp2_with fail
    refine (iIsSmall_any _ _ _ a _ HA.out).mono ?_
    rw [H1.out]
    rintro e w' ⟨rfl, rfl⟩
    go_wp2_with fail
    refine (iIsSmall_any _ _ _ b _ HB.out).mono ?_
    rw [H2.out]
    rintro e w' ⟨rfl, rfl⟩
    go_wp2_with fail
    go_ret
    exact ⟨ret_bool hg.out.symm, Below.refl _ _⟩
  have hg : Hid (sameZ a b = eqL (turnedP a) (turnedP b)) := by show _ = _; simp [sameZ, h1, h2]
  have H1 := Lib.hid h1
  have H2 := Lib.hid h2
  clear h1 h2
  go_enter Try.func108, Try.ntmps108
  go_wp2_with fail
  refine (iIsSmall_any _ _ _ a _ HA.out).mono ?_
  rw [H1.out]
  rintro e w' ⟨rfl, rfl⟩
  go_wp2_with fail
  refine (iIsSmall_any _ _ _ b _ HB.out).mono ?_
  rw [H2.out]
  rintro e w' ⟨rfl, rfl⟩
  go_wp2_with fail
  refine (iTurned_any _ _ _ a _ HA.out).mono ?_
  rintro e w1 ⟨v1, rfl, ho1, hb1⟩
  obtain ⟨a1, c1, rfl, hi1⟩ := ho1.form
  have hc1 := ho1.capLe rfl
  have HI1 := Lib.hid hi1
  have HB1 := Lib.hid hb1
  clear ho1 hi1 hb1
  have HR1 := Lib.hid (one_row w1 a1 c1 (turnedP a) HI1.out hc1)
  have HBA : Hid (Below w1.heap.size w1 (w1.alloc (.cells #[.slice a1 (turnedP a).length c1] 68))) := (Below.refl _ _).alloc (Nat.le_refl _) _
  go_wp2_with fail
  generalize w1.alloc (.cells #[.slice a1 (turnedP a).length c1] 68) = wa at HR1 HBA ⊢
  refine (iTurned_any _ _ _ b _ (HB.out.keep (step2 HB1.out HBA.out))).mono ?_
  rintro e w2 ⟨v2, rfl, ho2, hb2⟩
  obtain ⟨a2, c2, rfl, hi2⟩ := ho2.form
  have hc2 := ho2.capLe rfl
  have HR2 := Lib.hid (one_row w2 a2 c2 (turnedP b) hi2 hc2)
  have HBC : Hid (Below w2.heap.size w2 (w2.alloc (.cells #[.slice a2 (turnedP b).length c2] 68))) := (Below.refl _ _).alloc (Nat.le_refl _) _
  have HB2 := Lib.hid hb2
  clear ho2 hi2 hb2
  go_wp2_with fail
  generalize w2.alloc (.cells #[.slice a2 (turnedP b).length c2] 68) = wc at HR2 HBC ⊢
  refine (iEqMat_any _ _ _ [turnedP a] _ _ _ [turnedP b] _ (HR1.out.keep (step2 HB2.out HBC.out)) HR2.out).mono ?_
  rintro e w3 ⟨rfl, hd3⟩
  have HB3 := Lib.hid ((step2 (step2 (step2 HB1.out HBA.out) HB2.out) HBC.out).trans (hd3.below _))
  clear hd3
  go_wp2_with fail
  go_ret
  exact ⟨ret_bool (by rw [hg.out, eqL_one]), HB3.out⟩
end Go.Proofs.Ytnoghnalopdflaa
