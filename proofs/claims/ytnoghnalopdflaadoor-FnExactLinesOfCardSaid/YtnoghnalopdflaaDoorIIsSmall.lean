/- IIsSmall: a part of the proofs of this seat. -/
import Derived.Test.YtnoghnalopdflaaDoorProg
import Derived.Test.YtnoghnalopdflaaDoorThA
import Derived.Test.YtnoghnalopdflaaDoorIIsMatrix
namespace Go.Proofs.YtnoghnalopdflaaDoor
open Go.RowKit
set_option linter.all false
set_option maxHeartbeats 1600000 in
theorem iIsSmall_any (ao : Option Addr) (n cap : Nat) (xss : List (List Int)) (w : World) (h : Intss w ao n xss) :
    Calls Tryd.prog 73 #[.slice ao n cap] w fun e w' => e = .returned (.bool (isSmallM xss)) ∧ w = w' := by
  have hm := h.2.1
  have HL := Lib.hid h.1
  have H := Lib.hid h
  have hg0 : Hid (isSmallM xss = (isMat xss && (!decide (4 < n) && le9T xss))) := by show isSmallM xss = _; unfold isSmallM; rw [h.1]
  clear h
  cases hmat : isMat xss
  · have hg : Hid (isSmallM xss = false) := by show isSmallM xss = _; rw [hg0.out, hmat]; rfl
    go_enter Tryd.func73, Tryd.ntmps73
    go_wp2_with (first | (go_at_call 110; refine (iIsMatrix_any _ _ _ xss _ H.out).mono ?_; rintro e w' ⟨rfl, rfl⟩))
    go_ret
    exact ⟨ret_bool hg.out.symm, rfl⟩
  by_cases h4 : 4 < n
  · have hg : Hid (isSmallM xss = false) := by show isSmallM xss = _; rw [hg0.out]; simp [h4]
    go_enter Tryd.func73, Tryd.ntmps73
    go_wp2_with (first | (go_at_call 110; refine (iIsMatrix_any _ _ _ xss _ H.out).mono ?_; rintro e w' ⟨rfl, rfl⟩))
    go_ret
    exact ⟨ret_bool hg.out.symm, rfl⟩
  · have hg : Hid (isSmallM xss = le9T xss) := by show isSmallM xss = _; rw [hg0.out, hmat]; simp [h4]
    go_enter Tryd.func73, Tryd.ntmps73
    go_wp2_with (first | (go_at_call 110; refine (iIsMatrix_any _ _ _ xss _ H.out).mono ?_; rintro e w' ⟨rfl, rfl⟩))
    clear hmat
    go_loop [17] (fun i => ∃ k : Nat, k ≤ n ∧ i = .int .i64 k ∧ Hid (le9T (xss.drop k) = le9T xss)) (fun i => n - (intOf i).toNat)
    case atStart => exact ⟨0, Nat.zero_le _, rfl, rfl⟩
    case round =>
      obtain ⟨k, hk, rfl, hr⟩ := hrel
      by_cases hlt : k < n
      · obtain ⟨b, o, ai, ci, r, rfl, hcell, hrow, hget⟩ := H.out.at_ hlt
        have hrb := hrow.2.1
        have Hst := Lib.hid (le9T_step hget.out hr.out)
        have Hrow := Lib.hid hrow
        clear hrow hr H
        go_wp2_with fail
        go_loop [23] (fun i => ∃ j : Nat, j ≤ r.length ∧ i = .int .i64 j ∧ Hid (le9 (r.drop j) = le9 r)) (fun i => r.length - (intOf i).toNat)
        case atStart => exact ⟨0, Nat.zero_le _, rfl, rfl⟩
        case round =>
          obtain ⟨j, hj, rfl, hrj⟩ := hrel
          by_cases hjn : j < r.length
          · obtain ⟨b', o', x, rfl, hcell', hget'⟩ := Hrow.out.at_ hjn
            have Hsj := Lib.hid (le9_step hget'.out hrj.out)
            clear hrj Hrow
            by_cases h9 : 9 < x
            · have hr1 : Hid _ := Hst.out.1 (Hsj.out.1 h9)
              clear Hst Hsj
              go_wp2_with fail
              go_ret
              exact ⟨ret_bool (by rw [hg.out, hr1.out]), rfl⟩
            · have hr1 : Hid _ := Hsj.out.2 h9
              clear Hst Hsj
              go_wp2_with fail
              go_round
              case rel => exact ⟨j + 1, hjn, by go_num, hr1⟩
              case measure => simp [intOf]; omega
          · have hr1 : Hid _ := Hst.out.2 (by have := hrj.out; rw [drop_all r j (by omega)] at this; exact this.symm)
            clear Hst hrj Hrow
            go_wp2_with fail
            go_round
            case rel => exact ⟨k + 1, hlt, by go_num, hr1⟩
            case measure => simp [intOf]; omega
      · rw [drop_all xss k (by have := HL.out; omega)] at hr
        have hr1 : Hid _ := hr.out.symm
        clear hr H
        go_wp2_with fail
        go_ret
        exact ⟨ret_bool (by rw [hg.out, hr1.out]; rfl), rfl⟩
end Go.Proofs.YtnoghnalopdflaaDoor
