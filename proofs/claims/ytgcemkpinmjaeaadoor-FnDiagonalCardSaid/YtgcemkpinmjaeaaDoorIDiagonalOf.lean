/- IDiagonalOf: a part of the proofs of this seat. -/
import Derived.Test.YtgcemkpinmjaeaaDoorProg
import Derived.Test.YtgcemkpinmjaeaaDoorIDiagonal
import Derived.Test.YtgcemkpinmjaeaaDoorIIsSmith
namespace Go.Proofs.YtgcemkpinmjaeaaDoor
open Go.RowKit
set_option linter.all false
set_option maxHeartbeats 800000 in
theorem iDiagonalOf_any (p : Option Addr) (n c : Nat) (t : List (List Int)) (w : World) (h : Intss w p n t) :
    Calls Tryd.prog 6 #[.slice p n c] w fun e w' => ∃ v, e = .returned (.tuple #[v, .bool (smith t)]) ∧ OInts w' w.heap.size v (diagV t).length (diagV t) ∧ Below w.heap.size w w' := by
  have hm := h.2.1
  have H := Lib.hid h
  clear h
  cases hs : smith t
  · have hg : Hid (diagV t = []) := by show diagV t = _; simp [diagV, hs]
    go_enter Tryd.func6, Tryd.ntmps6
    go_wp2_with (first | (go_at_call 23; refine (iIsSmith_any _ _ _ t _ H.out).mono ?_; rintro e w' ⟨rfl, rfl⟩))
    go_ret2
    rw [hg.out]
    exact ⟨_, rfl, OInts.none_ _ _, Below.refl _ _⟩
  · have HG : Hid (diagV t = diagN t) := by show diagV t = _; simp [diagV, hs]
    have HS := Lib.hid hs
    go_enter Tryd.func6, Tryd.ntmps6
    go_wp2_with (first | (go_at_call 23; refine (iIsSmith_any _ _ _ t _ H.out).mono ?_; rintro e w' ⟨rfl, rfl⟩) | (go_at_call 24; refine (iDiagonal_any _ _ _ t _ H.out HS.out).mono ?_; rintro e w1 ⟨v1, rfl, ho1, hb1⟩))
    go_ret2
    rw [HG.out]
    exact ⟨_, rfl, ho1, hb1⟩
end Go.Proofs.YtgcemkpinmjaeaaDoor
