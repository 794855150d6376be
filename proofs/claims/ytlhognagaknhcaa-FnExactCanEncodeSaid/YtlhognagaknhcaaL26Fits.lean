/- L26Fits: a part of the proofs of this seat. -/
import Derived.Test.YtlhognagaknhcaaProg
import Derived.Test.YtlhognagaknhcaaBase
namespace Go.Proofs.Ytlhognagaknhcaa
open Go.RowKit
set_option linter.all false
def all9 (xs : List Int) : Bool := xs.all (fun x => inR x 0 9)
theorem all9_step {xs : List Int} {k : Nat} {b : Bool} (hk : k < xs.length) (h : all9 (xs.drop k) = b) :
    (inR xs[k] 0 9 = true → all9 (xs.drop (k + 1)) = b) ∧ (inR xs[k] 0 9 = false → b = false) := by
  rw [List.drop_eq_getElem_cons hk] at h
  generalize List.drop (k + 1) xs = r at *
  generalize xs[k] = x at *
  constructor
  · intro e; simpa [all9, e] using h
  · intro e; simpa [all9, e] using h.symm

set_option maxHeartbeats 400000 in
theorem l26Fits_any (ao : Option Addr) (n cap : Nat) (xs : List Int) (m : Int) (w : World) (h : Ints w ao n xs) :
    Calls Try.prog 96 #[.slice ao n cap, .int .i64 m] w fun e w' => e = .returned (.bool (all9 xs && ((n : Int) == m))) ∧ w = w' := by
  obtain ⟨hn, hm, hc⟩ := h
  subst hn
  go_enter Try.func96, Try.ntmps96
  go_wp2
  go_loop [5] (fun i => ∃ (k : Nat), k ≤ xs.length ∧ i = .int .i64 k ∧ Hid (all9 (xs.drop k) = all9 xs)) (fun i => xs.length - (intOf i).toNat)
  case atStart => exact ⟨0, Nat.zero_le _, rfl, rfl⟩
  case round =>
    obtain ⟨k, hk, rfl, hr⟩ := hrel
    by_cases hlt : k < xs.length
    · obtain ⟨b, of, rfl, hcell⟩ := hc k hlt
      clear hc
      have Hst := Lib.hid (all9_step hlt hr.out)
      clear hr
      cases hi : inR xs[k] 0 9
      · have hr1 : Hid _ := Hst.out.2 hi
        clear Hst
        go_wp2_with (first | (go_at_call 46; refine (l1In_any _ _ _ _).mono ?_; rintro e w' ⟨rfl, rfl⟩))
        go_ret
        exact ⟨ret_bool (by rw [hr1.out]; rfl), rfl⟩
      · have hr1 : Hid _ := Hst.out.1 hi
        clear Hst
        go_wp2_with (first | (go_at_call 46; refine (l1In_any _ _ _ _).mono ?_; rintro e w' ⟨rfl, rfl⟩))
        go_round
        case rel => exact ⟨k + 1, hlt, by go_num, hr1⟩
        case measure => simp [intOf]; omega
    · go_wp2
      go_ret
      rw [drop_all xs k (by omega)] at hr
      exact ⟨ret_bool (by rw [← hr.out]; simp [all9]), rfl⟩
end Go.Proofs.Ytlhognagaknhcaa
