/- IFG: a part of the proofs of this seat. -/
import Derived.Test.YtnoghnalopdflaaDoorProg
import Derived.Test.YtnoghnalopdflaaDoorOrbT
namespace Go.Proofs.YtnoghnalopdflaaDoor
open Go.RowKit
set_option linter.all false
set_option maxHeartbeats 1600000 in
theorem iFG_any (p : Option Addr) (n c : Nat) (xs : List Int) (p' : Option Addr) (n' c' : Nat) (ys : List Int) (w : World) (h : Ints w p n xs) (h' : Ints w p' n' ys) (hl : n ≤ n') :
    Calls Tryd.prog 77 #[.slice p n c, .slice p' n' c'] w fun e w' => e = .returned (.int .i64 (fgI 0 xs ys)) ∧ w = w' := by
  have hm := h.2.1
  have hm' := h'.2.1
  have HL : Hid (xs.length = n) := h.1
  have H := Lib.hid h
  have H' := Lib.hid h'
  clear h h'
  go_enter Tryd.func77, Tryd.ntmps77
  go_wp2_with fail
  go_loop [9] (fun v => ∃ k : Nat, k ≤ n ∧ v = .int .i64 k ∧ Hid (fgI k (xs.drop k) (ys.drop k) = fgI 0 xs ys)) (fun v => n - (intOf v).toNat)
  case atStart => exact ⟨0, Nat.zero_le _, rfl, rfl⟩
  case round =>
    obtain ⟨k, hk, rfl, hr⟩ := hrel
    by_cases hlt : k < n
    · have hlt' : k < n' := by omega
      obtain ⟨b1, o1, x, rfl, hcx, hgx⟩ := H.out.at_ hlt
      obtain ⟨b2, o2, y, rfl, hcy, hgy⟩ := H'.out.at_ hlt'
      have HS := Lib.hid (fgI_step hgx.out hgy.out hr.out)
      clear hgx hgy hr
      by_cases h1 : y < x
      · have hd : decide (y < x) = true := by simpa using h1
        have HR := Lib.hid (HS.out.1 h1)
        clear HS h1
        go_wp2_with fail
        go_ret
        exact ⟨ret_int HR.out.symm, rfl⟩
      · have hd : decide (y < x) = false := by simpa using h1
        have HR := Lib.hid (HS.out.2 h1)
        clear HS h1
        go_wp2_with fail
        go_round
        case rel => exact ⟨k + 1, hlt, by go_num, HR.out⟩
        case measure => simp [intOf]; omega
    · have HR := Lib.hid (fgI_end (by rw [HL.out]; omega) hr.out)
      clear hr
      go_wp2_with fail
      go_ret
      exact ⟨ret_int HR.out.symm, rfl⟩
end Go.Proofs.YtnoghnalopdflaaDoor
