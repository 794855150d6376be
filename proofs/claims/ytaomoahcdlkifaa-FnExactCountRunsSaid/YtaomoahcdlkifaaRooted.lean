/- Rooted: a part of the proofs of this seat. -/
import Derived.Test.YtaomoahcdlkifaaPowM
namespace Go.Proofs.Ytaomoahcdlkifaa
open Go.RowKit
set_option linter.all false
/-- The paths of a length from a vertex to itself. -/
def rooted (m : List (List Int)) (i n : Int) : Int :=
  if isMat m && (inR i 0 (m.length - 1) && inR n 1 30) then (match powM m n with
    | none => -1
    | some p => (p.getD i.toNat []).getD i.toNat 0) else -1
theorem rooted_mat {m : List (List Int)} {i n : Int} (h : isMat m = false) : rooted m i n = -1 := by simp [rooted, h]
theorem rooted_i {m : List (List Int)} {i n : Int} (h : inR i 0 (m.length - 1) = false) : rooted m i n = -1 := by simp [rooted, h]
theorem rooted_n {m : List (List Int)} {i n : Int} (h : inR n 1 30 = false) : rooted m i n = -1 := by simp [rooted, h]
theorem rooted_none {m : List (List Int)} {i n : Int} (h : powM m n = none) : rooted m i n = -1 := by simp [rooted, h]
theorem rooted_some {m p r : List (List Int)} {i : Nat} {n x : Int} {q : List Int} (h1 : isMat m = true) (h2 : inR (i : Int) 0 (m.length - 1) = true) (h3 : inR n 1 30 = true) (h : powM m n = some p) (hq : p[i]? = some q) (hx : q[i]? = some x) : rooted m i n = x := by
  simp [rooted, h1, h2, h3, h, List.getD, hq, hx]
end Go.Proofs.Ytaomoahcdlkifaa
