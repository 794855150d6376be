/- The sign of the determinant. -/
import Derived.Test.YtnoghnalopdflaaDoorProg
import Derived.Test.YtnoghnalopdflaaDoorSIsSmall
import Derived.Test.YtnoghnalopdflaaDoorSL23Table
import Derived.Test.YtnoghnalopdflaaDoorSDet
import Derived.Test.YtnoghnalopdflaaDoorThA
namespace Go.Proofs.YtnoghnalopdflaaDoor
open Go.RowKit
set_option linter.all false
def sgn (x : Int) : Int := if 0 < x then 1 else if x < 0 then -1 else 0
def signOf (t : List (List Int)) : Int := if isSmallM t then sgn (det t.length (lessT 1 1 t)) else -2
theorem sgn_bits (x : Int) : bit (decide (0 < x)) - bit (decide (x < 0)) = sgn x := by
  unfold sgn bit
  by_cases h1 : 0 < x
  · have h2 : ¬ x < 0 := by omega
    simp [h1, h2]
  · by_cases h2 : x < 0 <;> simp [h1, h2]
theorem bit_bounds (b : Bool) : 0 ≤ bit b ∧ bit b ≤ 1 := by cases b <;> decide

set_option maxHeartbeats 1600000 in
theorem sSignOf_any (ao : Option Addr) (n cap : Nat) (xss : List (List Int)) (w : World) (h : Intss w ao n xss) :
    Calls Tryd.prog 79 #[.slice ao n cap] w fun e w' => e = .returned (.int .i64 (signOf xss)) ∧ Below w.heap.size w w' := by
  have HL : Hid (xss.length = n) := h.1
  have H := Lib.hid h
  clear h
  cases hs : isSmallM xss
  · have hg : Hid (signOf xss = -2) := by show signOf xss = _; simp [signOf, hs]
    go_enter Tryd.func79, Tryd.ntmps79
    go_wp2_with (first | (go_at_call 70; refine (sIsSmall_any _ _ _ xss _ H.out).mono ?_; rintro e w' ⟨rfl, rfl⟩))
    go_ret
    exact ⟨ret_int hg.out.symm, Below.refl _ _⟩
  · have hg : Hid (signOf xss = sgn (det n (tabT xss))) := by show signOf xss = _; rw [tab_less hs]; simp [signOf, hs, HL.out]
    have hsm := isSmallM_mat hs
    have HR := Lib.hid (isMat_rowsLen hsm.1 HL.out)
    have hn4 : n ≤ 4 := by have := HL.out; omega
    have HT := Lib.hid (tabT_rowsLen xss)
    have HTL : Hid ((tabT xss).length = n) := by show (tabT xss).length = n; rw [tabT_len, HL.out]
    clear hsm
    go_enter Tryd.func79, Tryd.ntmps79
    go_wp2_with (first
      | (go_at_call 70; refine (sIsSmall_any _ _ _ xss _ H.out).mono ?_; rintro e w' ⟨rfl, rfl⟩)
      | (go_at_call 117; refine (sL23Table_any _ _ _ xss _ H.out HR.out (by omega)).mono ?_; rintro e w1 ⟨v1, rfl, ho1, hb1⟩; obtain ⟨ao1, cap1, rfl, hi1⟩ := ho1.form; have Hi1 := Lib.hid hi1; have Hb1 := Lib.hid hb1; clear ho1 hb1 hi1)
      | (go_at_call 118; refine (sDet_any n _ _ _ (tabT xss) _ rfl (by omega) Hi1.out (by have := HT.out; rw [HL.out] at this; exact this)).mono ?_; rintro e w2 ⟨rfl, hb2⟩; have Hb2 := Lib.hid (Hb1.out.trans (hb2.mono Hb1.out.size)); clear hb2; have hg' := hg.out; generalize det n (tabT xss) = z at *; have hz1 := bit_bounds (decide (0 < z)); have hz2 := bit_bounds (decide (z < 0)); have hz : Hid (bit (decide (0 < z)) - bit (decide (z < 0)) = signOf xss) := (sgn_bits z).trans hg'.symm; clear hg' hg)
      | (go_at_call 119; refine (l1Bit_any _ _).mono ?_; rintro e w' ⟨rfl, rfl⟩))
    go_ret
    exact ⟨ret_int hz.out, Hb2.out⟩
end Go.Proofs.YtnoghnalopdflaaDoor
