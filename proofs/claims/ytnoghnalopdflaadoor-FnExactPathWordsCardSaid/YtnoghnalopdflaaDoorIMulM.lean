/- IMulM: a part of the proofs of this seat. -/
import Derived.Test.YtnoghnalopdflaaDoorProg
import Derived.Test.YtnoghnalopdflaaDoorOrbT
import Derived.Test.YtnoghnalopdflaaDoorITimes
import Derived.Test.YtnoghnalopdflaaDoorIIsMatrix
namespace Go.Proofs.YtnoghnalopdflaaDoor
open Go.RowKit
set_option linter.all false
set_option maxHeartbeats 800000 in
theorem iChecked_any (p : Option Addr) (n c : Nat) (a : List (List Int)) (lo : Nat) (w : World) (h : OIntss w lo (.slice p n c) n a) :
    Calls Tryd.prog 184 #[.slice p n c] w fun e w' => ∃ v, e = .returned (.tuple #[v, .bool (isMat a)]) ∧ OIntss w' lo v (if isMat a then a else []).length (if isMat a then a else []) ∧ w = w' := by
  obtain ⟨ao, cap, e, hi⟩ := h.form
  injection e with e1 e2 e3
  subst e1
  subst e3
  have Hi := Lib.hid hi
  have H := Lib.hid h
  clear h hi
  cases h1 : isMat a
  · go_enter Tryd.func184, Tryd.ntmps184
    go_wp2_with (first | (go_at_call 110; refine (iIsMatrix_any _ _ _ a _ Hi.out).mono ?_; rintro e w' ⟨rfl, rfl⟩))
    go_ret2
    exact ⟨_, rfl, OIntss.none_ _ _, rfl⟩
  · go_enter Tryd.func184, Tryd.ntmps184
    go_wp2_with (first | (go_at_call 110; refine (iIsMatrix_any _ _ _ a _ Hi.out).mono ?_; rintro e w' ⟨rfl, rfl⟩))
    go_ret2
    refine ⟨_, rfl, ?_, rfl⟩
    show OIntss w lo _ a.length a
    rw [H.out.len]
    exact H.out

set_option maxHeartbeats 1600000 in
theorem iMulM_any (pa : Option Addr) (na ca : Nat) (a : List (List Int)) (pb : Option Addr) (nb cb : Nat) (b : List (List Int)) (w : World) (ha : Intss w pa na a) (hb : Intss w pb nb b) :
    Calls Tryd.prog 166 #[.slice pa na ca, .slice pb nb cb] w fun e w' => ∃ v, e = .returned (.tuple #[v, .bool (mulM a b).isSome]) ∧ OIntss w' w.heap.size v ((mulM a b).getD []).length ((mulM a b).getD []) ∧ Below w.heap.size w w' := by
  have hma := ha.2.1
  have hmb := hb.2.1
  have HA := Lib.hid ha
  have HB := Lib.hid hb
  have HLA : Hid (a.length = na) := ha.1
  have HLB : Hid (b.length = nb) := hb.1
  clear ha hb
  cases h1 : isMat a
  · have hg : Hid (mulM a b = none) := mulM_none1 h1
    go_enter Tryd.func166, Tryd.ntmps166
    go_wp2_with (first | (go_at_call 110; refine (iIsMatrix_any _ _ _ a _ HA.out).mono ?_; rintro e w' ⟨rfl, rfl⟩))
    go_ret2
    rw [hg.out]
    exact ⟨_, rfl, OIntss.none_ _ _, Below.refl _ _⟩
  cases h2 : isMat b
  · have hg : Hid (mulM a b = none) := mulM_none2 h2
    go_enter Tryd.func166, Tryd.ntmps166
    go_wp2_with fail
    refine (iIsMatrix_any _ _ _ a _ HA.out).mono ?_
    rintro e w' ⟨rfl, rfl⟩
    go_wp2_with fail
    refine (iIsMatrix_any _ _ _ b _ HB.out).mono ?_
    rintro e w' ⟨rfl, rfl⟩
    go_wp2_with fail
    go_ret2
    rw [hg.out]
    exact ⟨_, rfl, OIntss.none_ _ _, Below.refl _ _⟩
  by_cases hn : na = nb
  · subst hn
    have hne : ((na : Int) != (na : Int)) = false := by simp
    have hn9 : na ≤ 9 := by have := isMat_len h1; have := HLA.out; omega
    have hn0 : 0 < na := by have := isMat_len h1; have := HLA.out; omega
    have HRA := Lib.hid (isMat_rowsLen h1 HLA.out)
    have HRB := Lib.hid (isMat_rowsLen h2 HLB.out)
    have hg : Hid (mulM a b = if isMat (mulT a b na) then some (mulT a b na) else none) := by
      show mulM a b = _
      unfold mulM
      rw [h1, h2, HLA.out, HLB.out]
      simp
    go_enter Tryd.func166, Tryd.ntmps166
    go_wp2_with fail
    refine (iIsMatrix_any _ _ _ a _ HA.out).mono ?_
    rintro e w' ⟨rfl, rfl⟩
    go_wp2_with fail
    refine (iIsMatrix_any _ _ _ b _ HB.out).mono ?_
    rintro e w' ⟨rfl, rfl⟩
    go_wp2_with fail
    clear h1 h2
    refine (iTimes_any _ _ _ a _ _ _ b na _ HA.out HB.out HRA.out HRB.out (by omega) (by omega) hn0).mono ?_
    rintro e w1 ⟨v, rfl, hown, hbl⟩
    obtain ⟨ao, cap, rfl, hi⟩ := hown.form
    have Hown := Lib.hid hown
    have Hbl := Lib.hid hbl
    clear hown hbl hi
    go_wp2_with fail
    refine (iChecked_any _ _ _ (mulT a b na) _ _ Hown.out).mono ?_
    rintro e w' ⟨v, rfl, hv, rfl⟩
    have Hv := Lib.hid hv
    clear hv
    go_wp2_with fail
    go_ret2
    rw [hg.out]
    refine ⟨v, ?_, ?_, Hbl.out⟩
    · cases isMat (mulT a b na) <;> rfl
    · have := Hv.out
      revert this
      cases isMat (mulT a b na) <;> exact id
  · have hg : Hid (mulM a b = none) := mulM_none3 (by rw [HLA.out, HLB.out]; exact hn)
    have hne : ((na : Int) != (nb : Int)) = true := by simp; omega
    clear hn
    go_enter Tryd.func166, Tryd.ntmps166
    go_wp2_with fail
    refine (iIsMatrix_any _ _ _ a _ HA.out).mono ?_
    rintro e w' ⟨rfl, rfl⟩
    go_wp2_with fail
    refine (iIsMatrix_any _ _ _ b _ HB.out).mono ?_
    rintro e w' ⟨rfl, rfl⟩
    go_wp2_with fail
    go_ret2
    rw [hg.out]
    exact ⟨_, rfl, OIntss.none_ _ _, Below.refl _ _⟩
end Go.Proofs.YtnoghnalopdflaaDoor
