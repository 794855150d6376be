/- SBefore: a part of the proofs of this seat. -/
import Derived.Test.YtobmljclokmbcaaProg
import Derived.Test.YtobmljclokmbcaaLabT
namespace Go.Proofs.Ytobmljclokmbcaa
open Go.RowKit
set_option linter.all false
set_option maxHeartbeats 1600000 in
theorem sBefore_any (x y z a b c : Int) (w : World) : Calls Try.prog 119 #[.agg #[.int .i64 x, .int .i64 y, .int .i64 z], .agg #[.int .i64 a, .int .i64 b, .int .i64 c]] w fun e w' => e = .returned (.bool (ltA (x, y, z) (a, b, c))) ∧ Below w.heap.size w w' := by
  by_cases h1 : x = a
  · have e1 : (x != a) = false := by simp [h1]
    by_cases h2 : z = c
    · have e2 : (z != c) = false := by simp [h2]
      have HE := Lib.hid (ltA_3 (x := (x, y, z)) (y := (a, b, c)) h1 h2)
      clear h1 h2
      go_enter Try.func119, Try.ntmps119
      go_wp2_with fail
      go_ret
      exact ⟨ret_bool HE.out.symm, below2 _ _ _⟩
    · have e2 : (z != c) = true := by simp [h2]
      have HE := Lib.hid (ltA_2 (x := (x, y, z)) (y := (a, b, c)) h1 h2)
      clear h1 h2
      go_enter Try.func119, Try.ntmps119
      go_wp2_with fail
      go_ret
      exact ⟨ret_bool HE.out.symm, below2 _ _ _⟩
  · have e1 : (x != a) = true := by simp [h1]
    have HE := Lib.hid (ltA_1 (x := (x, y, z)) (y := (a, b, c)) h1)
    clear h1
    go_enter Try.func119, Try.ntmps119
    go_wp2_with fail
    go_ret
    exact ⟨ret_bool HE.out.symm, below2 _ _ _⟩
end Go.Proofs.Ytobmljclokmbcaa
