/- IIsSmith: a part of the proofs of this seat. -/
import Derived.Test.YtgcemkpinmjaeaaDoorProg
import Derived.Test.YtgcemkpinmjaeaaDoorIIsSquare
namespace Go.Proofs.YtgcemkpinmjaeaaDoor
open Go.RowKit
set_option linter.all false
set_option maxHeartbeats 800000 in
theorem iIsSmith_any (ao : Option Addr) (n cap : Nat) (xss : List (List Int)) (w : World) (h : Intss w ao n xss) :
    Calls Tryd.prog 23 #[.slice ao n cap] w fun e w' => e = .returned (.bool (smith xss)) ∧ w = w' := by
  have hm := h.2.1
  have HL := Lib.hid h.1
  have H := Lib.hid h
  have hg0 : Hid (smith xss = (decide (0 < n) && square 100 xss)) := by show smith xss = _; rw [smith_square, h.1]
  clear h
  by_cases h0 : 0 < n
  · have hg : Hid (smith xss = square 100 xss) := by show smith xss = _; rw [hg0.out]; simp [h0]
    have hd : decide ((n : Int) > 0) = true := by simp; omega
    go_enter Tryd.func23, Tryd.ntmps23
    go_wp2_with (first | (go_at_call 42; refine (iIsSquare_any _ _ _ xss _ _ H.out (by omega) (by omega)).mono ?_; rintro e w' ⟨rfl, rfl⟩))
    go_ret
    exact ⟨ret_bool hg.out.symm, rfl⟩
  · have hg : Hid (smith xss = false) := by show smith xss = _; rw [hg0.out]; simp [h0]
    have hd : decide ((n : Int) > 0) = false := by simp; omega
    go_enter Tryd.func23, Tryd.ntmps23
    go_wp2_with fail
    go_ret
    exact ⟨ret_bool hg.out.symm, rfl⟩
end Go.Proofs.YtgcemkpinmjaeaaDoor
