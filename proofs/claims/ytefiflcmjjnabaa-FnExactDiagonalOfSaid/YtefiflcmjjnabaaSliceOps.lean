/- Parts of slices of ints, as equations for the walk. -/
import Derived.Test.YtefiflcmjjnabaaProg
import Derived.Test.YtefiflcmjjnabaaMem
namespace Go.Proofs.Ytefiflcmjjnabaa
open Go.RowKit
set_option linter.all false
theorem sizeOf_int (w : World) : (sizeOf 3).run Try.prog w = .ok 1 w := by
  obtain ⟨i, hi, _, hz, _⟩ := info_parts info_int
  simp [sizeOf, typeInfo, hi, hz]
theorem elem_ints : Try.prog.elem 24 = 3 := by kernel_rfl
theorem slice_to (a : Option Addr) (len cap j : Nat) (hj : j ≤ cap) (w : World) :
    (Instr.slice 24 (.slice a len cap) none (some (.int .i64 (j : Int))) none).run Try.prog w = .ok (.slice a j cap) w := by
  rw [run_slice_h (P := Try.prog) w 24 a len cap (by rw [elem_ints]; exact Try.underlying24) .i64 (j : Int) (by omega) (by omega), elem_ints, sizeOf_int]
  cases a <;> simp [sliced, Result.andThen, Addr.add]
theorem slice_from (a : Option Addr) (len cap j : Nat) (hj : j + 1 ≤ len) (w : World) :
    (Instr.slice 24 (.slice a len cap) (some (.int .i64 ((j : Int) + 1))) none none).run Try.prog w = .ok (.slice (if cap = j + 1 then a else a.map (·.add (j + 1))) (len - (j + 1)) (cap - (j + 1))) w := by
  rw [run_slice_l (P := Try.prog) w 24 a len cap (by rw [elem_ints]; exact Try.underlying24) .i64 ((j : Int) + 1) (by omega) (by omega), elem_ints, sizeOf_int]
  simp [sliced, Result.andThen, show ((j : Int) + 1).toNat = j + 1 from by omega]
end Go.Proofs.Ytefiflcmjjnabaa
