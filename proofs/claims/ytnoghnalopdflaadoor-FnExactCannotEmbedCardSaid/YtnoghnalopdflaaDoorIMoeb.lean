/- IMoeb: a part of the proofs of this seat. -/
import Derived.Test.YtnoghnalopdflaaDoorProg
import Derived.Test.YtnoghnalopdflaaDoorOrbT
namespace Go.Proofs.YtnoghnalopdflaaDoor
open Go.RowKit
set_option linter.all false
set_option maxHeartbeats 1600000 in
theorem iMoeb_any (n : Int) (w : World) : Calls Tryd.prog 148 #[.int .i64 n] w fun e w' => e = .returned (.int .i64 (moeb n)) ∧ w = w' := by
  by_cases hl : n < 1
  · have hg : Hid (moeb n = 0) := by show _ = _; simp [moeb, inR_no (x := n) (lo := 1) (hi := 1000) (.inl hl)]
    go_enter Tryd.func148, Tryd.ntmps148
    go_wp2_with fail
    go_ret
    exact ⟨ret_int hg.out.symm, rfl⟩
  by_cases hh : 1000 < n
  · have hg : Hid (moeb n = 0) := by show _ = _; simp [moeb, inR_no (x := n) (lo := 1) (hi := 1000) (.inr hh)]
    have hd1 : decide (n < 1) = false := by simpa using hl
    go_enter Tryd.func148, Tryd.ntmps148
    go_wp2_with fail
    go_ret
    exact ⟨ret_int hg.out.symm, rfl⟩
  have h1 : inR n 1 1000 = true := inR_mk ⟨by omega, by omega⟩
  have hd1 : decide (n < 1) = false := by simpa using hl
  have hd2 : decide (1000 < n) = false := by simpa using hh
  have hb := inR_true h1
  obtain ⟨n0, rfl⟩ := Int.eq_ofNat_of_zero_le (show 0 ≤ n by omega)
  have HM : Hid (mb (1001 - 2) n0 2 1 = moeb (n0 : Int)) := by show _ = _; simp [moeb, h1]
  have hn0 : n0 ≤ 1000 := by omega
  clear hb
  go_enter Tryd.func148, Tryd.ntmps148
  go_wp2_with fail
  clear h1
  go_loop [0, 3, 4] (fun vn vo vp => ∃ (n p : Nat) (o : Int), vn = .int .i64 n ∧ vo = .int .i64 o ∧ vp = .int .i64 p ∧ n ≤ 1000 ∧ 2 ≤ p ∧ p ≤ 1001 ∧ -1 ≤ o ∧ o ≤ 1 ∧ Hid (mb (1001 - p) n p o = moeb (n0 : Int))) (fun _ _ vp => 1001 - (intOf vp).toNat)
  case atStart => exact ⟨n0, 2, 1, rfl, rfl, rfl, hn0, by omega, by omega, by omega, by omega, HM.out⟩
  case round =>
    clear hn0 HM
    obtain ⟨n, p, o, rfl, rfl, rfl, hn, hp2, hp1, ho1, ho2, hm⟩ := hrel
    by_cases hle : p ≤ n
    · have Hst := Lib.hid (mb_step hn hle hm)
      clear hm
      have hp0 : 0 < p := by omega
      have HD : n / p ≤ n := Nat.div_le_self n p
      have hq0 := (divI_bounds n p).1
      have hq1 : (n : Int) / (p : Int) ≤ 1000 := Int.le_trans (divI_bounds n p).2 (by omega)
      by_cases hz : n % p = 0
      · have hz1 := modI_z hz
        by_cases hz2 : n / p % p = 0
        · have hz3 := divmodI_z hz2
          have HR := Lib.hid (Hst.out.2.1 hz hz2)
          clear Hst hz hz2
          go_wp2_with fail
          go_ret
          exact ⟨ret_int HR.out.symm, rfl⟩
        · have hz3 := divmodI_nz hz2
          have HR := Hst.out.2.2 hz hz2
          clear Hst hz hz2
          go_wp2_with fail
          go_round
          case rel => exact ⟨n / p, p + 1, -o, by rw [divI], rfl, by go_num, by omega, by omega, by omega, by omega, by omega, HR⟩
          case measure => simp [intOf]; omega
      · have hz1 := modI_nz hz
        have HR := Hst.out.1 hz
        clear Hst hz
        go_wp2_with fail
        go_round
        case rel => exact ⟨n, p + 1, o, rfl, rfl, by go_num, by omega, by omega, by omega, by omega, by omega, HR⟩
        case measure => simp [intOf]; omega
    · have HR : Hid (o = moeb (n0 : Int)) := by have := hm.out; rw [mb_stop (by omega)] at this; exact this
      clear hm
      go_wp2_with fail
      go_ret
      exact ⟨ret_int HR.out, rfl⟩
end Go.Proofs.YtnoghnalopdflaaDoor
