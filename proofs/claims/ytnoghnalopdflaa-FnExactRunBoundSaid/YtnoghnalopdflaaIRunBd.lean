/- IRunBd: a part of the proofs of this seat. -/
import Derived.Test.YtnoghnalopdflaaProg
import Derived.Test.YtnoghnalopdflaaRunMatT
import Derived.Test.YtnoghnalopdflaaIRunMat
import Derived.Test.YtnoghnalopdflaaIFloor
import Derived.Test.YtnoghnalopdflaaRunBd
namespace Go.Proofs.Ytnoghnalopdflaa
open Go.RowKit
set_option linter.all false
set_option maxHeartbeats 1600000 in
theorem iRunBound_any (d k : Int) (w : World) : Calls Try.prog 17 #[.int .i64 d, .int .i64 k] w fun e w' => e = .returned (.int .i64 (runBound d k)) ∧ Below w.heap.size w w' := by
  cases hm : runMO d k
  · have HM := Lib.hid hm
    have HR : Hid (runBound d k = -1) := by show _ = _; simp [runBound, hm]
    clear hm
    go_enter Try.func17, Try.ntmps17
    go_wp2_with fail
    refine (iRunMatrix_any d k _).mono ?_
    rw [HM.out]
    rintro e w1 ⟨v, rfl, ho1, hb1⟩
    have HB := Lib.hid hb1
    clear ho1 hb1
    go_wp2_with fail
    go_ret
    exact ⟨ret_int HR.out.symm, HB.out⟩
  · have HM := Lib.hid hm
    by_cases hk : 3 < k
    · have HR : Hid (runBound d k = -1) := by show _ = _; simp [runBound, hk]
      have d1 : decide (3 < k) = true := decide_eq_true hk
      clear hm
      go_enter Try.func17, Try.ntmps17
      go_wp2_with fail
      refine (iRunMatrix_any d k _).mono ?_
      rw [HM.out]
      rintro e w1 ⟨v, rfl, ho1, hb1⟩
      have HB := Lib.hid hb1
      clear ho1 hb1
      go_wp2_with fail
      go_ret
      exact ⟨ret_int HR.out.symm, HB.out⟩
    · have HR : Hid (runBound d k = floorG (runMV d k) 100) := by show _ = _; simp [runBound, hm, hk]
      have d1 : decide (3 < k) = false := decide_eq_false hk
      clear hm
      go_enter Try.func17, Try.ntmps17
      go_wp2_with fail
      refine (iRunMatrix_any d k _).mono ?_
      rw [HM.out]
      rintro e w1 ⟨v, rfl, ho1, hb1⟩
      obtain ⟨a1, c1, rfl, hi1⟩ := ho1.form
      have HI := Lib.hid hi1
      have HB := Lib.hid hb1
      clear ho1 hb1 hi1
      go_wp2_with fail
      refine (iFloor_any _ _ _ (runMV d k) 100 _ HI.out).mono ?_
      rintro e w2 ⟨rfl, hb2⟩
      have HB2 := Lib.hid (step2 HB.out hb2)
      clear hb2
      go_wp2_with fail
      go_ret
      exact ⟨ret_int HR.out.symm, HB2.out⟩
end Go.Proofs.Ytnoghnalopdflaa
