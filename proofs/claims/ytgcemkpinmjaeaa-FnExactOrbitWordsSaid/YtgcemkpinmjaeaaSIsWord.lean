/- SIsWord: a part of the proofs of this seat. -/
import Derived.Test.YtgcemkpinmjaeaaProg
import Derived.Test.YtgcemkpinmjaeaaWordT
namespace Go.Proofs.Ytgcemkpinmjaeaa
open Go.RowKit
set_option linter.all false
set_option maxHeartbeats 1600000 in
theorem sIsWord_any (k : Int) (s : ByteArray) (w : World) (hs : s.size ≤ 1048576) : Calls Try.prog 98 #[.int .i64 k, .string s] w fun e w' => e = .returned (.bool (isWd k s)) ∧ w = w' := by
  go_enter Try.func98, Try.ntmps98
  go_wp2_with fail
  go_loop [5] (fun x => ∃ i : Nat, i ≤ s.size ∧ x = .int .i64 i ∧ Hid (okW k s i (s.size - i) = okW k s 0 s.size)) (fun x => s.size - (intOf x).toNat)
  case atStart => exact ⟨0, Nat.zero_le _, rfl, rfl⟩
  case round =>
    obtain ⟨i, hi, rfl, hr⟩ := hrel
    by_cases hlt : i < s.size
    · have hr2 := hr.out
      rw [show s.size - i = (s.size - (i + 1)) + 1 by omega] at hr2
      have HST := Lib.hid (okW_step hr2)
      clear hr hr2
      obtain ⟨c, hc⟩ : ∃ c : Nat, s[i].toNat = c := ⟨_, rfl⟩
      have hb : bl s i = c := (bl_get hlt).trans hc
      have hc2 : c < 256 := by rw [← hb]; exact bl_lt s i
      by_cases g1 : 97 ≤ c
      · have d : decide ((c : Int) < 97) = false := decide_eq_false (by omega)
        by_cases g2 : (c : Int) - 97 < k
        · have d2 : decide (k ≤ (c : Int) - 97) = false := decide_eq_false (by omega)
          have HN := Lib.hid (HST.out.2.2 (by rw [hb]; exact g1) (by rw [hb]; exact g2))
          clear hb g1 g2
          go_wp2_with fail
          go_round
          case rel => exact ⟨i + 1, hlt, by go_num, HN.out⟩
          case measure => simp [intOf]; omega
        · have d2 : decide (k ≤ (c : Int) - 97) = true := decide_eq_true (by omega)
          have HF := Lib.hid (HST.out.2.1 (by rw [hb]; exact g2))
          have HR : Hid (isWd k s = false) := by show _ = _; simp [isWd, HF.out]
          clear hb g1 g2
          go_wp2_with fail
          go_ret
          exact ⟨ret_bool HR.out.symm, rfl⟩
      · have d : decide ((c : Int) < 97) = true := decide_eq_true (by omega)
        have HF := Lib.hid (HST.out.1 (by rw [hb]; exact g1))
        have HR : Hid (isWd k s = false) := by show _ = _; simp [isWd, HF.out]
        clear hb g1
        go_wp2_with fail
        go_ret
        exact ⟨ret_bool HR.out.symm, rfl⟩
    · have HT : Hid (okW k s 0 s.size = true) := by show _ = _; rw [← hr.out, show s.size - i = 0 by omega]; rfl
      clear hr
      cases b1 : inR k 1 3
      · have B1 := Lib.hid b1
        have HR : Hid (isWd k s = false) := by show _ = _; simp [isWd, b1]
        clear b1
        go_wp2_with (go_at_call 76; refine (l1In_any _ _ _ _).mono ?_; rw [B1.out]; rintro e w' ⟨rfl, rfl⟩)
        go_ret
        exact ⟨ret_bool HR.out.symm, rfl⟩
      · have B1 := Lib.hid b1
        have HR : Hid (isWd k s = decide (s.size ≤ 16)) := by show _ = _; simp [isWd, b1, HT.out]
        clear b1
        by_cases h16 : s.size ≤ 16
        · have d : decide ((s.size : Int) ≤ 16) = true := decide_eq_true (by omega)
          go_wp2_with (go_at_call 76; refine (l1In_any _ _ _ _).mono ?_; rw [B1.out]; rintro e w' ⟨rfl, rfl⟩)
          go_ret
          exact ⟨ret_bool (by rw [HR.out]; simp [h16]), rfl⟩
        · have d : decide ((s.size : Int) ≤ 16) = false := decide_eq_false (by omega)
          go_wp2_with (go_at_call 76; refine (l1In_any _ _ _ _).mono ?_; rw [B1.out]; rintro e w' ⟨rfl, rfl⟩)
          go_ret
          exact ⟨ret_bool (by rw [HR.out]; simp [h16]), rfl⟩
end Go.Proofs.Ytgcemkpinmjaeaa
