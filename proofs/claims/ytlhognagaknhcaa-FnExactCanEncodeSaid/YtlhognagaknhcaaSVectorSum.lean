/- SVectorSum: a part of the proofs of this seat. -/
import Derived.Test.YtlhognagaknhcaaProg
import Derived.Test.YtlhognagaknhcaaL26Fits
import Derived.Test.YtlhognagaknhcaaTotal
namespace Go.Proofs.Ytlhognagaknhcaa
open Go.RowKit
set_option linter.all false
def vsum (xs : List Int) : Int := if 9 < xs.length then -1 else if all9 xs then isum 0 xs else -1

set_option maxHeartbeats 400000 in
theorem sVectorSum_any (ao : Option Addr) (n cap : Nat) (xs : List Int) (w : World) (h : Ints w ao n xs) :
    Calls Try.prog 50 #[.slice ao n cap] w fun e w' => e = .returned (.int .i64 (vsum xs)) ∧ w = w' := by
  have h0 := h
  obtain ⟨hn, hm, hc⟩ := h
  subst hn
  by_cases h9 : 9 < xs.length
  · have hg : Hid (vsum xs = -1) := by show vsum xs = -1; simp [vsum, h9]
    have hd : decide (9 < xs.length) = true := by simpa using h9
    clear h0 hc
    go_enter Try.func50, Try.ntmps50
    go_wp2
    go_ret
    exact ⟨ret_int hg.out.symm, rfl⟩
  · have hd : decide (9 < xs.length) = false := by simpa using h9
    have H0 := Lib.hid h0
    clear h0
    cases ha : all9 xs
    · have hg : Hid (vsum xs = -1) := by show vsum xs = -1; simp [vsum, h9, ha]
      go_enter Try.func50, Try.ntmps50
      go_wp2_with (first | (go_at_call 96; refine (l26Fits_any _ _ _ xs _ _ H0.out).mono ?_; rintro e w' ⟨rfl, rfl⟩))
      go_ret
      exact ⟨ret_int hg.out.symm, rfl⟩
    · have hg : Hid (vsum xs = isum 0 xs) := by show vsum xs = _; simp [vsum, h9, ha]
      go_enter Try.func50, Try.ntmps50
      go_wp2_with (first | (go_at_call 96; refine (l26Fits_any _ _ _ xs _ _ H0.out).mono ?_; rintro e w' ⟨rfl, rfl⟩))
      go_loop [3, 4] (fun s i => ∃ (k : Nat) (o : Int), k ≤ xs.length ∧ i = .int .i64 k ∧ s = .int .i64 o ∧ Hid (isum o (xs.drop k) = isum 0 xs)) (fun _ i => xs.length - (intOf i).toNat)
      case atStart => exact ⟨0, 0, Nat.zero_le _, rfl, rfl, rfl⟩
      case round =>
        obtain ⟨k, o, hk, rfl, rfl, hr⟩ := hrel
        by_cases hlt : k < xs.length
        · obtain ⟨b, of, rfl, hcell⟩ := hc k hlt
          clear hc H0
          go_wp2
          go_round
          case rel => exact ⟨k + 1, _, hlt, by go_num, rfl, by rw [List.drop_eq_getElem_cons hlt] at hr; exact hr⟩
          case measure => simp [intOf]; omega
        · go_wp2
          go_ret
          rw [drop_all xs k (by omega)] at hr
          exact ⟨ret_int (hr.out.trans hg.out.symm), rfl⟩
end Go.Proofs.Ytlhognagaknhcaa
