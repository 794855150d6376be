/- SLeastP: a part of the proofs of this seat. -/
import Derived.Test.YtnoghnalopdflaaDoorProg
import Derived.Test.YtnoghnalopdflaaDoorOrbT
import Derived.Test.YtnoghnalopdflaaDoorSMoeb
import Derived.Test.YtnoghnalopdflaaDoorSClosed
namespace Go.Proofs.YtnoghnalopdflaaDoor
open Go.RowKit
set_option linter.all false
set_option maxHeartbeats 1600000 in
theorem sLp_any (pm : Option Addr) (nm cm : Nat) (m : List (List Int)) (n : Int) (w : World) (h : Intss w pm nm m) :
    Calls Tryd.prog 111 #[.slice pm nm cm, .int .i64 n] w fun e w' => e = .returned (.int .i64 (lp m n)) ∧ Below w.heap.size w w' := by
  have H := Lib.hid h
  clear h
  by_cases h12 : 12 < n
  · have hg : Hid (lp m n = -1) := by show _ = _; simp [lp, h12]
    go_enter Tryd.func111, Tryd.ntmps111
    go_wp2_with fail
    go_ret
    exact ⟨ret_int hg.out.symm, Below.refl _ _⟩
  have hd12 : decide (12 < n) = false := by simpa using h12
  by_cases hc : closed m n < 0
  · have hg : Hid (lp m n = -1) := by show _ = _; simp [lp, h12, hc]
    have hdc : decide (closed m n < 0) = true := by simpa using hc
    clear hc
    go_enter Tryd.func111, Tryd.ntmps111
    go_wp2_with (go_at_call 144; refine (sClosed_any _ _ _ m _ _ H.out).mono ?_; rintro e w1 ⟨rfl, hb1⟩; have Hb1 := Lib.hid hb1; clear hb1)
    go_ret
    exact ⟨ret_int hg.out.symm, Hb1.out⟩
  have hr := closed_range hc
  have hdc : decide (closed m n < 0) = false := by simpa using hc
  obtain ⟨n0, rfl⟩ := Int.eq_ofNat_of_zero_le (show 0 ≤ n by omega)
  have hn0 : n0 ≤ 12 := by omega
  have HG : Hid (lpLoop m n0 (n0 + 1 - 1) 1 0 = lp m (n0 : Int)) := by show _ = _; simp [lp, h12, hc]
  clear hr h12 hc
  go_enter Tryd.func111, Tryd.ntmps111
  go_wp2_with (go_at_call 144; refine (sClosed_any _ _ _ m _ _ H.out).mono ?_; rintro e w1 ⟨rfl, hb1⟩; have Hb1 := Lib.hid hb1; clear hb1)
  clear hdc hd12
  go_loopw [5, 6] (fun vs vd wr => ∃ (d : Nat) (s : Int), 1 ≤ d ∧ d ≤ n0 + 1 ∧ vs = .int .i64 s ∧ vd = .int .i64 d ∧ Hid (lpLoop m n0 (n0 + 1 - d) d s = lp m (n0 : Int)) ∧ Below w.heap.size w wr) (fun _ vd _ => n0 + 1 - (intOf vd).toNat)
  case atStart => exact ⟨1, 0, by omega, by omega, rfl, rfl, HG.out, Hb1.out⟩
  case round =>
    obtain ⟨d, s, hd1, hd2, rfl, rfl, hl, hb⟩ := hrel
    have HB := Lib.hid hb
    have HM := Lib.hid (H.out.keep hb)
    clear hb
    by_cases hle : d ≤ n0
    · have HS := Lib.hid (lp_step hle hl)
      have hq0 := (divI_bounds n0 d).1
      have hq1 : (n0 : Int) / (d : Int) ≤ 12 := Int.le_trans (divI_bounds n0 d).2 (by omega)
      clear hl
      by_cases hz : n0 % d = 0
      · have hz1 := modE_z hz
        have HR := HS.out.1 hz
        clear HS hz
        go_wp2_with (first
          | (go_at_call 145; refine (sMoeb_any _ _).mono ?_; rintro e w' ⟨rfl, rfl⟩)
          | (go_at_call 144; refine (sClosed_any _ _ _ m _ _ HM.out).mono ?_; rintro e w2 ⟨rfl, hb2⟩; have Hb2 := Lib.hid hb2; clear hb2))
        go_roundw
        case rel => exact ⟨d + 1, _, by omega, by omega, rfl, by go_num, HR, step2 HB.out Hb2.out⟩
        case measure => simp [intOf]; omega
      · have hz1 := modE_nz hz
        have HR := HS.out.2 hz
        clear HS hz
        go_wp2_with fail
        go_roundw
        case rel => exact ⟨d + 1, s, by omega, by omega, rfl, by go_num, HR, HB.out⟩
        case measure => simp [intOf]; omega
    · have HE : Hid (s = lp m (n0 : Int)) := by have := hl.out; rw [show n0 + 1 - d = 0 by omega] at this; exact this
      clear hl
      go_wp2_with fail
      go_ret
      exact ⟨ret_int HE.out, HB.out⟩
end Go.Proofs.YtnoghnalopdflaaDoor
