/- SKeeps: a part of the proofs of this seat. -/
import Derived.Test.YtnoghnalopdflaaDoorProg
import Derived.Test.YtnoghnalopdflaaDoorKeepsT
import Derived.Test.YtnoghnalopdflaaDoorSLens
import Derived.Test.YtnoghnalopdflaaDoorSIsWord
namespace Go.Proofs.YtnoghnalopdflaaDoor
open Go.RowKit
set_option linter.all false
set_option maxRecDepth 20000 in
set_option maxHeartbeats 3200000 in
theorem sKeepsRuns_any (d k : Int) (s : ByteArray) (w : World) (hs : s.size ≤ 1048576) : Calls Tryd.prog 39 #[.int .i64 d, .int .i64 k, .string s] w fun e w' => e = .returned (.bool (keepsB d k s)) ∧ Below w.heap.size w w' := by
  cases b1 : fitsR d k
  · have B1 := Lib.hid b1
    have HR : Hid (keepsB d k s = false) := by show _ = _; simp [keepsB, b1]
    clear b1
    go_enter Tryd.func39, Tryd.ntmps39
    go_wp2_with (go_at_call 54; refine (l25Fits_any _ _ _).mono ?_; rw [B1.out]; rintro e w' ⟨rfl, rfl⟩)
    go_ret
    exact ⟨ret_bool HR.out.symm, Below.refl _ _⟩
  have B1 := Lib.hid b1
  cases b2 : isWd 2 s
  · have B2 := Lib.hid b2
    have HR : Hid (keepsB d k s = false) := by show _ = _; simp [keepsB, b2]
    clear b1 b2
    go_enter Tryd.func39, Tryd.ntmps39
    go_wp2_with fail
    refine (l25Fits_any _ _ _).mono ?_
    rw [B1.out]
    rintro e w' ⟨rfl, rfl⟩
    go_wp2_with fail
    refine (sIsWord_any _ _ _ hs).mono ?_
    rw [B2.out]
    rintro e w' ⟨rfl, rfl⟩
    go_wp2_with fail
    go_ret
    exact ⟨ret_bool HR.out.symm, Below.refl _ _⟩
  have B2 := Lib.hid b2
  have HR : Hid (keepsB d k s = keepsL d k (lens s)) := by show _ = _; simp [keepsB, b1, b2]
  clear b1 b2
  go_enter Tryd.func39, Tryd.ntmps39
  go_wp2_with fail
  refine (l25Fits_any _ _ _).mono ?_
  rw [B1.out]
  rintro e w' ⟨rfl, rfl⟩
  go_wp2_with fail
  refine (sIsWord_any _ _ _ hs).mono ?_
  rw [B2.out]
  rintro e w' ⟨rfl, rfl⟩
  go_wp2_with fail
  refine (sLens_any s _ hs).mono ?_
  rintro e w2 ⟨v2, rfl, ho2, hb2⟩
  obtain ⟨a2, c2, rfl, hi2⟩ := ho2.form
  have HI := Lib.hid hi2
  have HB := Lib.hid hb2
  have hmx := hi2.2.1
  clear ho2 hb2 hi2
  obtain ⟨xs, hxs⟩ : ∃ xs, lens s = xs := ⟨_, rfl⟩
  rw [hxs] at HI HR hmx ⊢
  clear hxs
  go_wp2_with fail
  go_loop [8] (fun x => ∃ i : Nat, i ≤ xs.length ∧ x = .int .i64 i ∧ Hid (kpF d k xs.length i (xs.drop i) = keepsL d k xs)) (fun x => xs.length - (intOf x).toNat)
  case atStart => exact ⟨0, Nat.zero_le _, rfl, rfl⟩
  case round =>
    obtain ⟨i, hi, rfl, hr⟩ := hrel
    by_cases hlt : i < xs.length
    · obtain ⟨b, o, x, rfl, hc, hx⟩ := HI.out.at_ hlt
      have HST := Lib.hid (kp_step hx.out hr.out)
      clear hx hr
      by_cases g1 : k < x
      · have d1 : decide (k < x) = true := decide_eq_true g1
        have HF : Hid (keepsB d k s = false) := HR.out.trans (HST.out.1 (by simp [kpBad, g1]))
        clear g1
        go_wp2_with fail
        go_ret
        exact ⟨ret_bool HF.out.symm, HB.out⟩
      · have d1 : decide (k < x) = false := decide_eq_false g1
        by_cases g2 : 0 < i
        · have d2 : decide ((0 : Int) < (i : Int)) = true := decide_eq_true (by omega)
          by_cases g3 : i + 1 < xs.length
          · have d3 : decide ((i : Int) + 1 < (xs.length : Int)) = true := decide_eq_true (by omega)
            by_cases g4 : x < d
            · have d4 : decide (x < d) = true := decide_eq_true g4
              have HF : Hid (keepsB d k s = false) := HR.out.trans (HST.out.1 (by simp [kpBad, g2, g3, g4]))
              clear g1 g4
              go_wp2_with fail
              go_ret
              exact ⟨ret_bool HF.out.symm, HB.out⟩
            · have d4 : decide (x < d) = false := decide_eq_false g4
              have HN := Lib.hid (HST.out.2 (by simp [kpBad, g1, g4]))
              clear g1 g4
              go_wp2_with fail
              go_round
              case rel => exact ⟨i + 1, hlt, by go_num, HN.out⟩
              case measure => simp [intOf]; omega
          · have d3 : decide ((i : Int) + 1 < (xs.length : Int)) = false := decide_eq_false (by omega)
            have HN := Lib.hid (HST.out.2 (by simp [kpBad, g1, g3]))
            clear g1
            go_wp2_with fail
            go_round
            case rel => exact ⟨i + 1, hlt, by go_num, HN.out⟩
            case measure => simp [intOf]; omega
        · have d2 : decide ((0 : Int) < (i : Int)) = false := decide_eq_false (by omega)
          have HN := Lib.hid (HST.out.2 (by simp [kpBad, g1, g2]))
          clear g1
          go_wp2_with fail
          go_round
          case rel => exact ⟨i + 1, hlt, by go_num, HN.out⟩
          case measure => simp [intOf]; omega
    · have HT := Lib.hid (kp_end (by omega) hr.out)
      clear hr
      go_wp2_with fail
      go_ret
      exact ⟨ret_bool (HT.out.symm.trans HR.out.symm), HB.out⟩
end Go.Proofs.YtnoghnalopdflaaDoor
