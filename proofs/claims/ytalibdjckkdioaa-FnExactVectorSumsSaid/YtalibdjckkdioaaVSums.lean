/- The sums of the rows of a matrix's power. -/
import Derived.Test.YtalibdjckkdioaaPowM
import Derived.Test.YtalibdjckkdioaaTotal
namespace Go.Proofs.Ytalibdjckkdioaa
open Go.RowKit
set_option linter.all false
def vsL (m : List (List Int)) (n : Int) : List Int := ((powM m n).getD []).map (isum 0)
theorem vsL_none {m : List (List Int)} {n : Int} (h : powM m n = none) : vsL m n = [] := by simp [vsL, h]
theorem vsL_get {m p : List (List Int)} {n : Int} (h : powM m n = some p) {k : Nat} {r : List Int} (hk : p[k]? = some r) : (vsL m n)[k]? = some (isum 0 r) := by simp [vsL, h, hk]
theorem vsL_len {m p : List (List Int)} {n : Int} (h : powM m n = some p) : (vsL m n).length = p.length := by simp [vsL, h]
end Go.Proofs.Ytalibdjckkdioaa
