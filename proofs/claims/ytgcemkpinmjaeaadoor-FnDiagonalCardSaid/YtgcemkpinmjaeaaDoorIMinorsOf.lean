/- IMinorsOf: a part of the proofs of this seat. -/
import Derived.Test.YtgcemkpinmjaeaaDoorProg
import Derived.Test.YtgcemkpinmjaeaaDoorIMinors
import Derived.Test.YtgcemkpinmjaeaaDoorIIsSmith
namespace Go.Proofs.YtgcemkpinmjaeaaDoor
open Go.RowKit
set_option linter.all false
set_option maxHeartbeats 1600000 in
theorem iMinorsOf_any (p : Option Addr) (n c : Nat) (t : List (List Int)) (k : Int) (w : World) (h : Intss w p n t) :
    Calls Tryd.prog 12 #[.slice p n c, .int .i64 k] w fun e w' => e = .returned (.int .i64 (minorsOf t k)) ∧ Below w.heap.size w w' := by
  have hm := h.2.1
  have HL : Hid (t.length = n) := h.1
  have H := Lib.hid h
  clear h
  cases hs : smith t
  · have hg : Hid (minorsOf t k = -1) := by show minorsOf t k = _; simp [minorsOf, hs]
    go_enter Tryd.func12, Tryd.ntmps12
    go_wp2_with (first | (go_at_call 23; refine (iIsSmith_any _ _ _ t _ H.out).mono ?_; rintro e w' ⟨rfl, rfl⟩))
    go_ret
    exact ⟨ret_int hg.out.symm, Below.refl _ _⟩
  by_cases h0 : k < 0
  · have hg : Hid (minorsOf t k = -1) := by show minorsOf t k = _; simp [minorsOf, inR_no (.inl h0)]
    have hd : decide (k < 0) = true := by simpa using h0
    go_enter Tryd.func12, Tryd.ntmps12
    go_wp2_with (first | (go_at_call 23; refine (iIsSmith_any _ _ _ t _ H.out).mono ?_; rintro e w' ⟨rfl, rfl⟩))
    go_ret
    exact ⟨ret_int hg.out.symm, Below.refl _ _⟩
  have hd : decide (k < 0) = false := by simpa using h0
  by_cases h1 : (n : Int) < k
  · have hg : Hid (minorsOf t k = -1) := by show minorsOf t k = _; simp [minorsOf, HL.out, inR_no (.inr h1)]
    go_enter Tryd.func12, Tryd.ntmps12
    go_wp2_with (first | (go_at_call 23; refine (iIsSmith_any _ _ _ t _ H.out).mono ?_; rintro e w' ⟨rfl, rfl⟩))
    go_ret
    exact ⟨ret_int hg.out.symm, Below.refl _ _⟩
  obtain ⟨k, rfl⟩ : ∃ m : Nat, k = (m : Int) := ⟨k.toNat, by omega⟩
  have hkn : k ≤ n := by omega
  have HG : Hid (minorsI t k = minorsOf t k) := by
    show _ = minorsOf t k
    simp only [minorsOf, HL.out, hs, inR_mk (x := (k : Int)) (lo := 0) (hi := n) ⟨by omega, by omega⟩, Bool.and_self, if_true, Int.toNat_natCast]
  go_enter Tryd.func12, Tryd.ntmps12
  go_wp2_with (first | (go_at_call 23; refine (iIsSmith_any _ _ _ t _ H.out).mono ?_; rintro e w' ⟨rfl, rfl⟩) | (go_at_call 30; refine (iMinors_any _ _ _ t k _ H.out hs hkn).mono ?_; rintro e w1 ⟨rfl, hb1⟩))
  go_ret
  exact ⟨ret_int HG.out, hb1⟩
end Go.Proofs.YtgcemkpinmjaeaaDoor
