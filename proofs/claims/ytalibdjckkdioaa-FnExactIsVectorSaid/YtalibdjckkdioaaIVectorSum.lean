/- IVectorSum: a part of the proofs of this seat. -/
import Derived.Test.YtalibdjckkdioaaProg
import Derived.Test.YtalibdjckkdioaaSVectorSum
namespace Go.Proofs.Ytalibdjckkdioaa
open Go.RowKit
set_option linter.all false
set_option maxHeartbeats 400000 in
theorem iVectorSum_any (ao : Option Addr) (n cap : Nat) (xs : List Int) (w : World) (h : Ints w ao n xs) :
    Calls Try.prog 61 #[.slice ao n cap] w fun e w' => e = .returned (.int .i64 (vsum xs)) ∧ w = w' := by
  have H0 := Lib.hid h
  obtain ⟨hn, hm, hc⟩ := h
  subst hn
  by_cases h9 : 9 < xs.length
  · have hg : Hid (vsum xs = -1) := by show vsum xs = -1; simp [vsum, h9]
    clear H0 hc
    go_enter Try.func61, Try.ntmps61
    go_wp2
    go_ret
    exact ⟨ret_int hg.out.symm, rfl⟩
  · have hg : Hid (vsum xs = if all9 xs then isum 0 xs else -1) := by show vsum xs = _; simp [vsum, h9]
    go_enter Try.func61, Try.ntmps61
    go_wp2
    go_loop [10] (fun i => ∃ (k : Nat), k ≤ xs.length ∧ i = .int .i64 k ∧ Hid (all9 (xs.drop k) = all9 xs)) (fun i => xs.length - (intOf i).toNat)
    case atStart => exact ⟨0, Nat.zero_le _, rfl, rfl⟩
    case round =>
      obtain ⟨k, hk, rfl, hr⟩ := hrel
      by_cases hlt : k < xs.length
      · obtain ⟨b, of, rfl, hcell⟩ := hc k hlt
        clear hc H0
        have Hst := Lib.hid (all9_step hlt hr.out)
        clear hr
        by_cases h0 : xs[k] < 0
        · have hr1 : Hid _ := Hst.out.2 (inR_no (.inl h0))
          clear Hst
          go_wp2
          go_ret
          exact ⟨ret_int (by rw [hg.out, hr1.out]; rfl), rfl⟩
        · by_cases h1 : 9 < xs[k]
          · have hr1 : Hid _ := Hst.out.2 (inR_no (.inr h1))
            clear Hst
            have hd : decide (xs[k] < 0) = false := by simpa using h0
            go_wp2
            go_ret
            exact ⟨ret_int (by rw [hg.out, hr1.out]; rfl), rfl⟩
          · have hr1 : Hid _ := Hst.out.1 (inR_mk ⟨by omega, by omega⟩)
            clear Hst
            have hd : decide (xs[k] < 0) = false := by simpa using h0
            go_wp2
            go_round
            case rel => exact ⟨k + 1, hlt, by go_num, hr1⟩
            case measure => simp [intOf]; omega
      · go_wp2_with (first | (go_at_call 94; refine (total_any _ _ _ xs _ H0.out).mono ?_; rintro e w' ⟨rfl, rfl⟩))
        go_ret
        rw [drop_all xs k (by omega)] at hr
        exact ⟨ret_int (by rw [hg.out, ← hr.out]; rfl), rfl⟩
end Go.Proofs.Ytalibdjckkdioaa
