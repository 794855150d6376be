/- ISumOf: a part of the proofs of this seat. -/
import Derived.Test.YtnoghnalopdflaaDoorProg
import Derived.Test.YtnoghnalopdflaaDoorThA
import Derived.Test.YtnoghnalopdflaaDoorIIsMatrix
namespace Go.Proofs.YtnoghnalopdflaaDoor
open Go.RowKit
set_option linter.all false
set_option maxHeartbeats 800000 in
theorem iSumOf_any (ao : Option Addr) (n cap : Nat) (xss : List (List Int)) (w : World) (h : Intss w ao n xss) :
    Calls Tryd.prog 66 #[.slice ao n cap] w fun e w' => e = .returned (.int .i64 (sumOf xss)) ∧ w = w' := by
  have hm := h.2.1
  have HL := Lib.hid h.1
  have H := Lib.hid h
  clear h
  cases hmat : isMat xss
  · have hg : Hid (sumOf xss = -1) := by show sumOf xss = _; simp [sumOf, hmat]
    go_enter Tryd.func66, Tryd.ntmps66
    go_wp2_with (first | (go_at_call 110; refine (iIsMatrix_any _ _ _ xss _ H.out).mono ?_; rintro e w' ⟨rfl, rfl⟩))
    go_ret
    exact ⟨ret_int hg.out.symm, rfl⟩
  · have hg : Hid (sumOf xss = msum xss) := by show sumOf xss = _; simp [sumOf, hmat]
    have HM := Lib.hid hmat
    have hms := isMat_msum hmat
    go_enter Tryd.func66, Tryd.ntmps66
    go_wp2_with (first | (go_at_call 110; refine (iIsMatrix_any _ _ _ xss _ H.out).mono ?_; rintro e w' ⟨rfl, rfl⟩))
    go_loop [3, 11] (fun s i => ∃ (k : Nat) (t : Int), k ≤ n ∧ i = .int .i64 k ∧ s = .int .i64 t ∧ 0 ≤ t ∧ Hid (t + msum (xss.drop k) = msum xss)) (fun _ i => n - (intOf i).toNat)
    case atStart => exact ⟨0, 0, Nat.zero_le _, rfl, rfl, by omega, Int.zero_add _⟩
    case round =>
      obtain ⟨k, t, hk, rfl, rfl, ht, hr⟩ := hrel
      by_cases hlt : k < n
      · obtain ⟨b, o, ai, ci, r, rfl, hcell, hrow, hget⟩ := H.out.at_ hlt
        have Hrow := Lib.hid hrow
        clear hrow H
        have h1 := row_sum HM.out hget.out
        have h2 := rest_nonneg HM.out (k + 1)
        have hd := hr.out
        rw [drop_of_get hget.out, msum_cons] at hd
        have h0 : 0 ≤ isum 0 r := by omega
        have h3 : t + isum 0 r ≤ 81000000 := by omega
        have hr1 : Hid (t + isum 0 r + msum (xss.drop (k + 1)) = msum xss) := by show t + isum 0 r + msum (xss.drop (k + 1)) = msum xss; omega
        clear hr hd h1 h2
        go_wp2_with (first | (go_at_call 93; refine (total_any _ _ _ r _ Hrow.out).mono ?_; rintro e w' ⟨rfl, rfl⟩))
        go_round
        case rel => exact ⟨k + 1, _, hlt, by go_num, rfl, by omega, hr1⟩
        case measure => simp [intOf]; omega
      · go_wp2
        go_ret
        rw [drop_all xss k (by have := HL.out; omega)] at hr
        exact ⟨ret_int (by rw [hg.out, ← hr.out]; simp [msum]), rfl⟩
end Go.Proofs.YtnoghnalopdflaaDoor
