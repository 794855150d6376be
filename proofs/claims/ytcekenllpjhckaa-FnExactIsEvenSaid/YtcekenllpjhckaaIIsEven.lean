/- IIsEven: a part of the proofs of this seat. -/
import Derived.Test.YtcekenllpjhckaaProg
import Derived.Test.YtcekenllpjhckaaRowBounds
import Derived.Test.YtcekenllpjhckaaSIsEven
namespace Go.Proofs.Ytcekenllpjhckaa
open Go.RowKit
set_option linter.all false
theorem isEven_bounds (xss : List (List Int)) : isEven xss = (isMat xss && decide (rowMin xss = rowMax xss)) := by
  unfold isEven rowMin rowMax
  cases h : isMat xss
  · simp
  · simp only [Bool.true_and, if_true]
    have hl := isMat_len h
    match xss, hl with
    | r :: rs, _ =>
      have hb := bounds_same (r :: rs) (isum 0 r)
      simp only [List.getD_cons_zero, List.drop_succ_cons, List.drop_zero]
      rw [Bool.eq_iff_iff, decide_eq_true_iff, hb]
      simp [sameSum]

set_option maxHeartbeats 800000 in
theorem iIsEven_any (ao : Option Addr) (n cap : Nat) (xss : List (List Int)) (w : World) (h : Intss w ao n xss) :
    Calls Try.prog 28 #[.slice ao n cap] w fun e w' => e = .returned (.bool (isEven xss)) ∧ Drew w w' := by
  have H := Lib.hid h
  have hg : Hid (isEven xss = (isMat xss && decide (rowMin xss = rowMax xss))) := isEven_bounds xss
  clear h
  go_enter Try.func28, Try.ntmps28
  go_wp2_with fail
  refine (rowBounds_any _ _ _ xss _ H.out).mono ?_
  rintro e w' ⟨rfl, ⟨m, rfl⟩⟩
  go_wp2_with fail
  refine (iIsMatrix_any _ _ _ xss _ (by first | exact H.out | exact H.out.drewN _)).mono ?_
  rintro e w' ⟨rfl, rfl⟩
  cases hmat : isMat xss
  · go_wp2_with fail
    go_ret
    exact ⟨ret_bool (by rw [hg.out, hmat]; rfl), (by first | exact Drew.refl _ | exact Drew.mk _ _ | exact (Drew.mk _ _).drewN _)⟩
  · go_wp2_with fail
    go_ret
    exact ⟨ret_bool (by rw [hg.out, hmat]; simp; rfl), (by first | exact Drew.refl _ | exact Drew.mk _ _ | exact (Drew.mk _ _).drewN _)⟩
end Go.Proofs.Ytcekenllpjhckaa
