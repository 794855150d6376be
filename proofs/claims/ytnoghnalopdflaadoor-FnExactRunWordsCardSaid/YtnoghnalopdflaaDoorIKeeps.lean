/- IKeeps: a part of the proofs of this seat. -/
import Derived.Test.YtnoghnalopdflaaDoorProg
import Derived.Test.YtnoghnalopdflaaDoorKeepsT
import Derived.Test.YtnoghnalopdflaaDoorIRuns
import Derived.Test.YtnoghnalopdflaaDoorIIsWord
import Derived.Test.YtnoghnalopdflaaDoorIRunFits
namespace Go.Proofs.YtnoghnalopdflaaDoor
open Go.RowKit
set_option linter.all false
set_option maxRecDepth 20000 in
set_option maxHeartbeats 3200000 in
theorem iKeeps_any (d k : Int) (s : ByteArray) (w : World) (hs : s.size ≤ 1048576) (hm : MaxL w) : Calls Tryd.prog 60 #[.int .i64 d, .int .i64 k, .string s] w fun e w' => e = .returned (.bool (keepsL d k (lens s))) ∧ Below w.heap.size w w' := by
  go_enter Tryd.func60, Tryd.ntmps60
  go_wp2_with fail
  refine (iRuns_any s _ hs hm).mono ?_
  rintro e w2 ⟨v2, rfl, ho2, hb2⟩
  obtain ⟨a2, c2, rfl, hi2⟩ := ho2.form
  have HI := Lib.hid hi2
  have HB := Lib.hid hb2
  have hmx := hi2.2.1
  clear ho2 hb2 hi2
  obtain ⟨xs, hxs⟩ : ∃ xs, lens s = xs := ⟨_, rfl⟩
  have HR : Hid (keepsL d k (lens s) = keepsL d k xs) := by show _ = _; rw [hxs]
  rw [hxs] at HI hmx ⊢
  clear hxs
  go_wp2_with fail
  go_loop [14] (fun x => ∃ i : Nat, i ≤ xs.length ∧ x = .int .i64 i ∧ Hid (kpF d k xs.length i (xs.drop i) = keepsL d k xs)) (fun x => xs.length - (intOf x).toNat)
  case atStart => exact ⟨0, Nat.zero_le _, rfl, rfl⟩
  case round =>
    obtain ⟨i, hi, rfl, hr⟩ := hrel
    by_cases hlt : i < xs.length
    · obtain ⟨b, o, x, rfl, hc, hx⟩ := HI.out.at_ hlt
      have HST := Lib.hid (kp_step hx.out hr.out)
      clear hx hr
      by_cases g1 : k < x
      · have d1 : decide (k < x) = true := decide_eq_true g1
        have HF : Hid (keepsL d k xs = false) := (HST.out.1 (by simp [kpBad, g1]))
        clear g1
        go_wp2_with fail
        go_ret
        exact ⟨ret_bool (HF.out.symm.trans HR.out.symm), HB.out⟩
      · have d1 : decide (k < x) = false := decide_eq_false g1
        by_cases g2 : 0 < i
        · have d2 : decide ((0 : Int) < (i : Int)) = true := decide_eq_true (by omega)
          by_cases g3 : i + 1 < xs.length
          · have d3 : decide ((i : Int) < (xs.length : Int) - 1) = true := decide_eq_true (by omega)
            by_cases g4 : x < d
            · have d4 : decide (x < d) = true := decide_eq_true g4
              have HF : Hid (keepsL d k xs = false) := (HST.out.1 (by simp [kpBad, g2, g3, g4]))
              clear g1 g4
              go_wp2_with fail
              go_ret
              exact ⟨ret_bool (HF.out.symm.trans HR.out.symm), HB.out⟩
            · have d4 : decide (x < d) = false := decide_eq_false g4
              have HN := Lib.hid (HST.out.2 (by simp [kpBad, g1, g4]))
              clear g1 g4
              go_wp2_with fail
              go_round
              case rel => exact ⟨i + 1, hlt, by go_num, HN.out⟩
              case measure => simp [intOf]; omega
          · have d3 : decide ((i : Int) < (xs.length : Int) - 1) = false := decide_eq_false (by omega)
            have HN := Lib.hid (HST.out.2 (by simp [kpBad, g1, g3]))
            clear g1
            go_wp2_with fail
            go_round
            case rel => exact ⟨i + 1, hlt, by go_num, HN.out⟩
            case measure => simp [intOf]; omega
        · have d2 : decide ((0 : Int) < (i : Int)) = false := decide_eq_false (by omega)
          have HN := Lib.hid (HST.out.2 (by simp [kpBad, g1, g2]))
          clear g1
          go_wp2_with fail
          go_round
          case rel => exact ⟨i + 1, hlt, by go_num, HN.out⟩
          case measure => simp [intOf]; omega
    · have HT := Lib.hid (kp_end (by omega) hr.out)
      clear hr
      go_wp2_with fail
      go_ret
      exact ⟨ret_bool (HT.out.symm.trans HR.out.symm), HB.out⟩

set_option maxHeartbeats 1600000 in
theorem iKeepsRuns_any (d k : Int) (s : ByteArray) (w : World) (hs : s.size ≤ 1048576) (hm : MaxL w) : Calls Tryd.prog 38 #[.int .i64 d, .int .i64 k, .string s] w fun e w' => e = .returned (.bool (keepsB d k s)) ∧ Below w.heap.size w w' := by
  cases b1 : fitsR d k
  · have B1 := Lib.hid b1
    have HR : Hid (keepsB d k s = false) := by show _ = _; simp [keepsB, b1]
    clear b1
    go_enter Tryd.func38, Tryd.ntmps38
    go_wp2_with fail
    refine (isRange_any _ _ _).mono ?_
    rw [B1.out]
    rintro e w' ⟨rfl, rfl⟩
    go_wp2_with fail
    go_ret
    exact ⟨ret_bool HR.out.symm, Below.refl _ _⟩
  have B1 := Lib.hid b1
  cases b2 : isWd 2 s
  · have B2 := Lib.hid b2
    have HR : Hid (keepsB d k s = false) := by show _ = _; simp [keepsB, b2]
    clear b1 b2
    go_enter Tryd.func38, Tryd.ntmps38
    go_wp2_with fail
    refine (isRange_any _ _ _).mono ?_
    rw [B1.out]
    rintro e w' ⟨rfl, rfl⟩
    go_wp2_with fail
    refine (iIsWord_any _ _ _ hs).mono ?_
    rw [B2.out]
    rintro e w' ⟨rfl, rfl⟩
    go_wp2_with fail
    go_ret
    exact ⟨ret_bool HR.out.symm, Below.refl _ _⟩
  have B2 := Lib.hid b2
  have HR : Hid (keepsB d k s = keepsL d k (lens s)) := by show _ = _; simp [keepsB, b1, b2]
  clear b1 b2
  go_enter Tryd.func38, Tryd.ntmps38
  go_wp2_with fail
  refine (isRange_any _ _ _).mono ?_
  rw [B1.out]
  rintro e w' ⟨rfl, rfl⟩
  go_wp2_with fail
  refine (iIsWord_any _ _ _ hs).mono ?_
  rw [B2.out]
  rintro e w' ⟨rfl, rfl⟩
  go_wp2_with fail
  refine (iKeeps_any _ _ _ _ hs hm).mono ?_
  rintro e w' ⟨rfl, hb⟩
  have HB := Lib.hid hb
  clear hb
  go_wp2_with fail
  go_ret
  exact ⟨ret_bool HR.out.symm, HB.out⟩
end Go.Proofs.YtnoghnalopdflaaDoor
