/- The rows and columns of a table that two lists name. -/
import Derived.Test.YtnoghnalopdflaaMulT
namespace Go.Proofs.Ytnoghnalopdflaa
open Go.RowKit
set_option linter.all false
def pickRow (r cs : List Int) : List Int := cs.map (fun c => r.getD c.toNat 0)
def someT (t : List (List Int)) (rs cs : List Int) : List (List Int) := rs.map (fun a => pickRow (t.getD a.toNat []) cs)
theorem pickRow_len (r cs : List Int) : (pickRow r cs).length = cs.length := by simp [pickRow]
theorem someT_len (t : List (List Int)) (rs cs : List Int) : (someT t rs cs).length = rs.length := by simp [someT]
theorem pickRow_get {r cs : List Int} {j c : Nat} {x : Int} (h : cs[j]? = some (c : Int)) (hx : r[c]? = some x) : (pickRow r cs)[j]? = some x := by
  simp [pickRow, h, List.getD, hx]
theorem someT_get {t : List (List Int)} {rs cs r : List Int} {i a : Nat} (h : rs[i]? = some (a : Int)) (hr : t[a]? = some r) : (someT t rs cs)[i]? = some (pickRow r cs) := by
  simp [someT, h, List.getD, hr]
theorem someT_rowsLen (t : List (List Int)) (rs cs : List Int) : RowsLen (someT t rs cs) cs.length := by
  intro k r hk
  simp only [someT, List.getElem?_map, Option.map_eq_some_iff] at hk
  obtain ⟨q, _, rfl⟩ := hk
  exact pickRow_len _ _
/-- All numbers of a list are indices below n. -/
def Idx (n : Nat) (xs : List Int) : Prop := ∀ x ∈ xs, 0 ≤ x ∧ x < n
theorem Idx.get {n k : Nat} {xs : List Int} {x : Int} (h : Idx n xs) (hk : xs[k]? = some x) : ∃ a : Nat, x = (a : Int) ∧ a < n := by
  have := h x (List.mem_of_getElem? hk)
  exact ⟨x.toNat, by omega, by omega⟩
end Go.Proofs.Ytnoghnalopdflaa
