/- SMulM: a part of the proofs of this seat. -/
import Derived.Test.YtnoghnalopdflaaDoorProg
import Derived.Test.YtnoghnalopdflaaDoorOrbT
import Derived.Test.YtnoghnalopdflaaDoorSTimes
import Derived.Test.YtnoghnalopdflaaDoorSIsMatrix
namespace Go.Proofs.YtnoghnalopdflaaDoor
open Go.RowKit
set_option linter.all false
set_option maxHeartbeats 1600000 in
theorem sMulM_any (pa : Option Addr) (na ca : Nat) (a : List (List Int)) (pb : Option Addr) (nb cb : Nat) (b : List (List Int)) (w : World) (ha : Intss w pa na a) (hb : Intss w pb nb b) :
    Calls Tryd.prog 164 #[.slice pa na ca, .slice pb nb cb] w fun e w' => ∃ v, e = .returned (.tuple #[v, .bool (mulM a b).isSome]) ∧ OIntss w' w.heap.size v ((mulM a b).getD []).length ((mulM a b).getD []) ∧ Below w.heap.size w w' := by
  have hma := ha.2.1
  have hmb := hb.2.1
  have HA := Lib.hid ha
  have HB := Lib.hid hb
  have HLA : Hid (a.length = na) := ha.1
  have HLB : Hid (b.length = nb) := hb.1
  clear ha hb
  have hempty := OIntss.empty w w.heap.size (Nat.le_refl _)
  have hbe : Below w.heap.size w (w.alloc (.cells #[] 22)) := (Below.refl _ _).alloc (Nat.le_refl _) _
  have Hempty := Lib.hid hempty
  have Hbe := Lib.hid hbe
  clear hempty hbe
  cases h1 : isMat a
  · have hg : Hid (mulM a b = none) := mulM_none1 h1
    go_enter Tryd.func164, Tryd.ntmps164
    go_wp2_with (first | (go_at_call 112; refine (sIsMatrix_any _ _ _ a _ HA.out).mono ?_; rintro e w' ⟨rfl, rfl⟩))
    go_ret2
    rw [hg.out]
    exact ⟨_, rfl, Hempty.out, Hbe.out⟩
  cases h2 : isMat b
  · have hg : Hid (mulM a b = none) := mulM_none2 h2
    go_enter Tryd.func164, Tryd.ntmps164
    go_wp2_with fail
    refine (sIsMatrix_any _ _ _ a _ HA.out).mono ?_
    rintro e w' ⟨rfl, rfl⟩
    go_wp2_with fail
    refine (sIsMatrix_any _ _ _ b _ HB.out).mono ?_
    rintro e w' ⟨rfl, rfl⟩
    go_wp2_with fail
    go_ret2
    rw [hg.out]
    exact ⟨_, rfl, Hempty.out, Hbe.out⟩
  by_cases hn : na = nb
  · subst hn
    have hne : ((na : Int) != (na : Int)) = false := by simp
    have hn9 : na ≤ 9 := by have := isMat_len h1; have := HLA.out; omega
    have HRA := Lib.hid (isMat_rowsLen h1 HLA.out)
    have HRB := Lib.hid (isMat_rowsLen h2 HLB.out)
    have hlab : Hid (a.length = b.length) := by show a.length = b.length; rw [HLA.out, HLB.out]
    have H12 : Hid (isMat a = true ∧ isMat b = true) := ⟨h1, h2⟩
    go_enter Tryd.func164, Tryd.ntmps164
    go_wp2_with fail
    refine (sIsMatrix_any _ _ _ a _ HA.out).mono ?_
    rintro e w' ⟨rfl, rfl⟩
    go_wp2_with fail
    refine (sIsMatrix_any _ _ _ b _ HB.out).mono ?_
    rintro e w' ⟨rfl, rfl⟩
    go_wp2_with fail
    clear h1 h2
    refine (sL4Times_any _ _ _ a _ _ _ b na _ HA.out HB.out HRA.out HRB.out (by omega) (by omega)).mono ?_
    rintro e w1 ⟨v, rfl, hown, hbl⟩
    obtain ⟨ao, cap, rfl, hi⟩ := hown.form
    have Hown := Lib.hid hown
    have Hbl := Lib.hid hbl
    have Hi := Lib.hid hi
    clear hown hbl hi
    cases h3 : isMat (mulT a b na)
    · have hg : Hid (mulM a b = none) := mulM_none4 (by rw [HLB.out]; exact h3)
      go_wp2_with fail
      refine (sIsMatrix_any _ _ _ (mulT a b na) _ Hi.out).mono ?_
      rintro e w' ⟨rfl, rfl⟩
      go_wp2_with fail
      go_ret2
      rw [hg.out]
      exact ⟨_, rfl, OIntss.empty w1 _ Hbl.out.size, Hbl.out.alloc Hbl.out.size _⟩
    · have hg : Hid (mulM a b = some (mulT a b na)) := by
        have := mulM_some H12.out.1 H12.out.2 hlab.out (by rw [HLB.out]; exact h3)
        rw [HLB.out] at this
        exact this
      go_wp2_with fail
      refine (sIsMatrix_any _ _ _ (mulT a b na) _ Hi.out).mono ?_
      rintro e w' ⟨rfl, rfl⟩
      go_wp2_with fail
      go_ret2
      rw [hg.out]
      refine ⟨_, rfl, ?_, Hbl.out⟩
      show OIntss w1 w.heap.size _ (mulT a b na).length (mulT a b na)
      rw [Hown.out.len]
      exact Hown.out
  · have hg : Hid (mulM a b = none) := mulM_none3 (by rw [HLA.out, HLB.out]; exact hn)
    have hne : ((na : Int) != (nb : Int)) = true := by simp; omega
    clear hn
    go_enter Tryd.func164, Tryd.ntmps164
    go_wp2_with fail
    refine (sIsMatrix_any _ _ _ a _ HA.out).mono ?_
    rintro e w' ⟨rfl, rfl⟩
    go_wp2_with fail
    refine (sIsMatrix_any _ _ _ b _ HB.out).mono ?_
    rintro e w' ⟨rfl, rfl⟩
    go_wp2_with fail
    go_ret2
    rw [hg.out]
    exact ⟨_, rfl, Hempty.out, Hbe.out⟩
end Go.Proofs.YtnoghnalopdflaaDoor
