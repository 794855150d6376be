/- SSumOf: a part of the proofs of this seat. -/
import Derived.Test.YtnoghnalopdflaaDoorProg
import Derived.Test.YtnoghnalopdflaaDoorThA
import Derived.Test.YtnoghnalopdflaaDoorSIsMatrix
namespace Go.Proofs.YtnoghnalopdflaaDoor
open Go.RowKit
set_option linter.all false
set_option maxHeartbeats 800000 in
theorem sSumOf_any (ao : Option Addr) (n cap : Nat) (xss : List (List Int)) (w : World) (h : Intss w ao n xss) :
    Calls Tryd.prog 141 #[.slice ao n cap] w fun e w' => e = .returned (.int .i64 (sumOf xss)) ∧ w = w' := by
  have hm := h.2.1
  have HL := Lib.hid h.1
  have H := Lib.hid h
  clear h
  cases hmat : isMat xss
  · have hg : Hid (sumOf xss = -1) := by show sumOf xss = _; simp [sumOf, hmat]
    go_enter Tryd.func141, Tryd.ntmps141
    go_wp2_with (first | (go_at_call 112; refine (sIsMatrix_any _ _ _ xss _ H.out).mono ?_; rintro e w' ⟨rfl, rfl⟩))
    go_ret
    exact ⟨ret_int hg.out.symm, rfl⟩
  · have hg : Hid (sumOf xss = msum xss) := by show sumOf xss = _; simp [sumOf, hmat]
    have HM := Lib.hid hmat
    have hms := isMat_msum hmat
    go_enter Tryd.func141, Tryd.ntmps141
    go_wp2_with (first | (go_at_call 112; refine (sIsMatrix_any _ _ _ xss _ H.out).mono ?_; rintro e w' ⟨rfl, rfl⟩))
    go_loop [3, 4] (fun s i => ∃ (k : Nat) (t : Int), k ≤ n ∧ i = .int .i64 k ∧ s = .int .i64 t ∧ 0 ≤ t ∧ Hid (t + msum (xss.drop k) = msum xss)) (fun _ i => n - (intOf i).toNat)
    case atStart => exact ⟨0, 0, Nat.zero_le _, rfl, rfl, by omega, Int.zero_add _⟩
    case round =>
      obtain ⟨k, t, hk, rfl, rfl, ht, hr⟩ := hrel
      by_cases hlt : k < n
      · obtain ⟨b, o, ai, ci, r, rfl, hcell, hrow, hget⟩ := H.out.at_ hlt
        have Hrow := Lib.hid hrow
        clear hrow H
        have HR := Lib.hid (isMat_row HM.out hget.out)
        have hrl : r.length ≤ n := by have := HR.out.1; have := HL.out; omega
        have hrl' : n ≤ r.length := by have := HR.out.1; have := HL.out; omega
        have h2 := rest_nonneg HM.out (k + 1)
        have hd := hr.out
        rw [drop_of_get hget.out, msum_cons] at hd
        have hr0 : Hid (t + r.sum + msum (xss.drop (k + 1)) = msum xss) := by show t + r.sum + msum (xss.drop (k + 1)) = msum xss; omega
        have hq : t + r.sum ≤ 81000000 := by omega
        clear hr hd h2
        go_wp2
        go_loop [3, 5] (fun s i => ∃ (j : Nat) (u : Int), j ≤ n ∧ i = .int .i64 j ∧ s = .int .i64 u ∧ 0 ≤ u ∧ Hid (u + (r.drop j).sum = t + r.sum)) (fun _ i => n - (intOf i).toNat)
        case atStart => exact ⟨0, t, Nat.zero_le _, rfl, rfl, ht, rfl⟩
        case round =>
          obtain ⟨j, u, hj, rfl, rfl, hu, hrj⟩ := hrel
          by_cases hjn : j < n
          · obtain ⟨b', o', x, rfl, hcell', hget'⟩ := Hrow.out.at_ (k := j) (by omega)
            have hjr : j < r.length := by omega
            have hx := allIn_get HR.out.2 hget'.out
            have h4 := rest_row (by decide) HR.out.2 (j + 1)
            have hd := hrj.out
            rw [drop_of_get hget'.out, List.sum_cons] at hd
            have h5 : u + x ≤ 81000000 := by omega
            have hr1 : Hid (u + x + (r.drop (j + 1)).sum = t + r.sum) := by show u + x + (r.drop (j + 1)).sum = t + r.sum; omega
            clear hrj hd h4 Hrow
            go_wp2
            go_round
            case rel => exact ⟨j + 1, _, hjn, by go_num, rfl, by omega, hr1⟩
            case measure => simp [intOf]; omega
          · have hr1 : Hid (u + msum (xss.drop (k + 1)) = msum xss) := by
              have h6 := hrj.out
              rw [drop_all r j (by omega), List.sum_nil, Int.add_zero] at h6
              have h7 := hr0.out
              show u + msum (xss.drop (k + 1)) = msum xss
              omega
            clear hrj Hrow
            go_wp2
            go_round
            case rel => exact ⟨k + 1, _, hlt, by go_num, rfl, hu, hr1⟩
            case measure => simp [intOf]; omega
      · go_wp2
        go_ret
        rw [drop_all xss k (by have := HL.out; omega)] at hr
        exact ⟨ret_int (by rw [hg.out, ← hr.out]; simp [msum]), rfl⟩
end Go.Proofs.YtnoghnalopdflaaDoor
