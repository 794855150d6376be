/- IIsLab: a part of the proofs of this seat. -/
import Derived.StillTailTactics
import Derived.Test.YtmkodbkbgpjgoaaProg
import Derived.Test.YtmkodbkbgpjgoaaEG0a
import Derived.Test.YtmkodbkbgpjgoaaEG0b
import Derived.Test.YtmkodbkbgpjgoaaEG0c
namespace Go.Proofs.Ytmkodbkbgpjgoaa
open Go.RowKit
set_option linter.all false
set_option maxRecDepth 40000 in
set_option maxHeartbeats 12800000 in
theorem iIsLabels_any (L S : Int) (ao : Option Addr) (n cap : Nat) (xs : List Ar) (w : World) (h : Arcs w ao n xs) :
    Calls Try.prog 38 #[.agg #[.int .i64 L, .int .i64 S, .slice ao n cap]] w fun e w' => e = .returned (.bool (isLab L S xs)) ∧ Below w.heap.size w w' := by
  have hm := h.2.1
  have HL := Lib.hid h.1
  have HB1 := Lib.hid (below1 w (.cells #[.int .i64 L, .int .i64 S, .slice ao n cap] 26))
  have H := Lib.hid (h.keep HB1.out)
  have HK := Lib.hid (Blk.new w 26 #[.int .i64 L, .int .i64 S, .slice ao n cap])
  clear h
  cases b1 : inR L 1 3
  · have HR : Hid (isLab L S xs = false) := by show _ = _; simp [isLab, b1]
    have B1 := Lib.hid b1
    clear b1
    go_enter Try.func38, Try.ntmps38
    go_wp2_with (go_at_call 49; refine (isLetters_any _ _).mono ?_; rw [B1.out]; rintro e w' ⟨rfl, rfl⟩)
    go_ret
    exact ⟨ret_bool HR.out.symm, HB1.out⟩
  have B1 := Lib.hid b1
  cases b2 : inR S 1 12
  · have HR : Hid (isLab L S xs = false) := by show _ = _; simp [isLab, b2]
    rcases inR_false b2 with h1 | h1
    · have d1 : decide (S < 1) = true := decide_eq_true h1
      clear b1 b2 h1
      go_enter Try.func38, Try.ntmps38
      go_wp2_with (go_at_call 49; refine (isLetters_any _ _).mono ?_; rw [B1.out]; rintro e w' ⟨rfl, rfl⟩)
      go_ret
      exact ⟨ret_bool HR.out.symm, HB1.out⟩
    · have d1 : decide (S < 1) = false := decide_eq_false (by omega)
      have d2 : decide (12 < S) = true := decide_eq_true h1
      clear b1 b2 h1
      go_enter Try.func38, Try.ntmps38
      go_wp2_with (go_at_call 49; refine (isLetters_any _ _).mono ?_; rw [B1.out]; rintro e w' ⟨rfl, rfl⟩)
      go_ret
      exact ⟨ret_bool HR.out.symm, HB1.out⟩
  have hLr := inR_true b1
  have hSr := inR_true b2
  have e1 : decide (S < 1) = false := decide_eq_false (by omega)
  have e2 : decide (12 < S) = false := decide_eq_false (by omega)
  have HI : Hid (okFrom (S - 1) (L - 1) none xs = isLab L S xs) := by show _ = _; simp [isLab, b1, b2]
  clear b1 b2
  go_enter Try.func38, Try.ntmps38
  go_wp2_with (go_at_call 49; refine (isLetters_any _ _).mono ?_; rw [B1.out]; rintro e w' ⟨rfl, rfl⟩)
  have HE1 := Lib.hid e1
  clear e1 e2
  generalize w.alloc (.cells #[.int .i64 L, .int .i64 S, .slice ao n cap] 26) = w1 at HB1 H HK ⊢
  go_loopw [22] (fun x wr => ∃ k : Nat, k ≤ n ∧ x = .int .i64 k ∧ Hid (okFrom (S - 1) (L - 1) (prevOf xs k) (xs.drop k) = okFrom (S - 1) (L - 1) none xs) ∧ Below w1.heap.size w1 wr) (fun x _ => n - (intOf x).toNat)
  case atStart => exact ⟨0, Nat.zero_le _, rfl, rfl, Below.refl _ _⟩
  case round =>
    obtain ⟨k, hk, rfl, hr, hbl⟩ := hrel
    have HB := Lib.hid hbl
    clear hbl
    by_cases hlt : k < n
    · obtain ⟨b, o, x, y, z, rfl, c1, c2, c3, hx⟩ := (H.out.keep HB.out).at_ hlt
      have HST := Lib.hid (okFrom_step hx.out hr.out)
      have HA := Lib.hid (Blk.new wr 55 #[.int .i64 x, .int .i64 y, .int .i64 z])
      have HB2 := Lib.hid (below1 wr (.cells #[.int .i64 x, .int .i64 y, .int .i64 z] 55))
      have HK2 := Lib.hid ((HK.out.keep HB.out).keep HB2.out)
      clear hx hr
      go_wp2_with fail
      generalize wr.alloc (.cells #[.int .i64 x, .int .i64 y, .int .i64 z] 55) = w5 at HA HB2 HK2 ⊢
      have HB5 := Lib.hid (HB.out.trans (HB2.out.mono HB.out.size))
      clear c1 c2 c3
      have a0 := HA.out.c0
      have a1 := HA.out.c1
      have a2 := HA.out.c2
      have k0 := HK2.out.c0
      have k1 := HK2.out.c1
      have k2 := HK2.out.c2
      by_cases g1 : x < 0
      · have d1 : decide (x < 0) = true := decide_eq_true g1
        have HF : Hid (arcB (S - 1) (L - 1) (x, y, z) = false) := by show _ = _; cases hb : arcB (S - 1) (L - 1) (x, y, z); rfl; have := arcB_get hb; omega
        have HR : Hid (isLab L S xs = false) := by show _ = _; rw [← HI.out, HST.out.1 HF.out]
        clear HF g1
        go_quiet (fail)
        go_wp2_with fail
        go_ret
        exact ⟨ret_bool HR.out.symm, step2 HB1.out (by first | exact below_drewN HB5.out _ | exact below_drewN (below_drewN HB5.out _) _)⟩
      have d1 : decide (x < 0) = false := decide_eq_false g1
      by_cases g2 : S ≤ x
      · have d2 : decide (S ≤ x) = true := decide_eq_true g2
        have HF : Hid (arcB (S - 1) (L - 1) (x, y, z) = false) := by show _ = _; cases hb : arcB (S - 1) (L - 1) (x, y, z); rfl; have := arcB_get hb; omega
        have HR : Hid (isLab L S xs = false) := by show _ = _; rw [← HI.out, HST.out.1 HF.out]
        clear HF g1 g2
        go_quiet (fail)
        go_wp2_with fail
        go_ret
        exact ⟨ret_bool HR.out.symm, step2 HB1.out (by first | exact below_drewN HB5.out _ | exact below_drewN (below_drewN HB5.out _) _)⟩
      have d2 : decide (S ≤ x) = false := decide_eq_false g2
      by_cases g3 : y < 0
      · have d3 : decide (y < 0) = true := decide_eq_true g3
        have HF : Hid (arcB (S - 1) (L - 1) (x, y, z) = false) := by show _ = _; cases hb : arcB (S - 1) (L - 1) (x, y, z); rfl; have := arcB_get hb; omega
        have HR : Hid (isLab L S xs = false) := by show _ = _; rw [← HI.out, HST.out.1 HF.out]
        clear HF g1 g2 g3
        go_quiet (fail)
        go_wp2_with fail
        go_ret
        exact ⟨ret_bool HR.out.symm, step2 HB1.out (by first | exact below_drewN HB5.out _ | exact below_drewN (below_drewN HB5.out _) _)⟩
      have d3 : decide (y < 0) = false := decide_eq_false g3
      by_cases g4 : S ≤ y
      · have d4 : decide (S ≤ y) = true := decide_eq_true g4
        have HF : Hid (arcB (S - 1) (L - 1) (x, y, z) = false) := by show _ = _; cases hb : arcB (S - 1) (L - 1) (x, y, z); rfl; have := arcB_get hb; omega
        have HR : Hid (isLab L S xs = false) := by show _ = _; rw [← HI.out, HST.out.1 HF.out]
        clear HF g1 g2 g3 g4
        go_quiet (fail)
        go_wp2_with fail
        go_ret
        exact ⟨ret_bool HR.out.symm, step2 HB1.out (by first | exact below_drewN HB5.out _ | exact below_drewN (below_drewN HB5.out _) _)⟩
      have d4 : decide (S ≤ y) = false := decide_eq_false g4
      by_cases g5 : z < 0
      · have d5 : decide (z < 0) = true := decide_eq_true g5
        have HF : Hid (arcB (S - 1) (L - 1) (x, y, z) = false) := by show _ = _; cases hb : arcB (S - 1) (L - 1) (x, y, z); rfl; have := arcB_get hb; omega
        have HR : Hid (isLab L S xs = false) := by show _ = _; rw [← HI.out, HST.out.1 HF.out]
        clear HF g1 g2 g3 g4 g5
        go_quiet (fail)
        go_wp2_with fail
        go_ret
        exact ⟨ret_bool HR.out.symm, step2 HB1.out (by first | exact below_drewN HB5.out _ | exact below_drewN (below_drewN HB5.out _) _)⟩
      have d5 : decide (z < 0) = false := decide_eq_false g5
      by_cases g6 : L ≤ z
      · have d6 : decide (L ≤ z) = true := decide_eq_true g6
        have HF : Hid (arcB (S - 1) (L - 1) (x, y, z) = false) := by show _ = _; cases hb : arcB (S - 1) (L - 1) (x, y, z); rfl; have := arcB_get hb; omega
        have HR : Hid (isLab L S xs = false) := by show _ = _; rw [← HI.out, HST.out.1 HF.out]
        clear HF g1 g2 g3 g4 g5 g6
        go_quiet (fail)
        go_wp2_with fail
        go_ret
        exact ⟨ret_bool HR.out.symm, step2 HB1.out (by first | exact below_drewN HB5.out _ | exact below_drewN (below_drewN HB5.out _) _)⟩
      have d6 : decide (L ≤ z) = false := decide_eq_false g6
      have HBT : Hid (arcB (S - 1) (L - 1) (x, y, z) = true) := Lib.hid (arcB_t (inR_mk (by omega)) (inR_mk (by omega)) (inR_mk (by omega)))
      clear g1 g2 g3 g4 g5 g6
      rcases Nat.eq_zero_or_pos k with hk0 | hk0
      · subst hk0
        have HN := Lib.hid (HST.out.2.2 HBT.out (behind_0 xs _))
        go_quiet (fail)
        go_wp2_with fail
        go_roundw
        case rel => exact ⟨0 + 1, hlt, by go_num, HN.out, (by first | exact below_drewN HB5.out _ | exact below_drewN (below_drewN HB5.out _) _)⟩
        case measure => simp [intOf]; omega
      · obtain ⟨j, rfl⟩ : ∃ j, k = j + 1 := ⟨k - 1, by omega⟩
        obtain ⟨bq, oq, qx, qy, qz, eq, c1, c2, c3, hq⟩ := ((H.out.keep HB.out).keep HB2.out).at_ (k := j) (by omega)
        injection eq with eq
        injection eq with eq1 eq2
        subst eq1 eq2
        have HQ := Lib.hid (behind_S (x := (x, y, z)) hq.out)
        have HC := Lib.hid (cmpA_lt (x := (qx, qy, qz)) (y := (x, y, z)))
        have hjw : IntKind.i64.wrap ((j : Int) + 1 - 1) = (j : Int) := by rw [IntKind.wrap_i64]; omega
        have hpos : decide ((0 : Int) < (j : Int) + 1) = true := decide_eq_true (by omega)
        have hj0 : IntKind.i64.wrap (j : Int) = (j : Int) := by rw [IntKind.wrap_i64]; omega
        have hjn : j < n := by omega
        have hjn2 : (j : Int) < (n : Int) := by omega
        have hj00 : (0 : Int) ≤ (j : Int) := by omega
        clear hq hk0
        cases b4 : ltA (qx, qy, qz) (x, y, z)
        · have HF := Lib.hid (HST.out.2.1 (HQ.out.trans b4))
          have HR : Hid (isLab L S xs = false) := by show _ = _; rw [← HI.out, HF.out]
          have HC2 := Lib.hid (HC.out.trans (by rw [b4]; rfl : (!ltA (qx, qy, qz) (x, y, z)) = true))
          clear b4
          go_still_tail 45, (by kernel_rfl)
          change wpList _ _ _ _ _ w5.drew
          go_wp2_with fail
          refine (compare_any _ _ _ _ _ _ _).mono ?_
          rintro e w6 ⟨rfl, hb6⟩
          have HB6 := Lib.hid hb6
          have hc2 := HC2.out
          clear hb6
          go_wp2_with fail
          go_ret
          exact ⟨ret_bool HR.out.symm, step2 HB1.out ((below_drewN HB5.out 1).trans (HB6.out.mono HB5.out.size))⟩
        · have HN := Lib.hid (HST.out.2.2 HBT.out (HQ.out.trans b4))
          have HC2 := Lib.hid (HC.out.trans (by rw [b4]; rfl : (!ltA (qx, qy, qz) (x, y, z)) = false))
          clear b4
          go_still_tail 45, (by kernel_rfl)
          change wpList _ _ _ _ _ w5.drew
          go_wp2_with fail
          refine (compare_any _ _ _ _ _ _ _).mono ?_
          rintro e w6 ⟨rfl, hb6⟩
          have HB6 := Lib.hid hb6
          have hc2 := HC2.out
          clear hb6
          go_wp2_with fail
          go_roundw
          case rel => exact ⟨j + 1 + 1, hlt, by go_num, HN.out, (below_drewN HB5.out 1).trans (HB6.out.mono HB5.out.size)⟩
          case measure => simp [intOf]; omega
    · have HT := Lib.hid (okFrom_end (by have := HL.out; omega) hr.out)
      have HR : Hid (isLab L S xs = true) := by show _ = _; rw [← HI.out, HT.out]
      clear hr
      go_wp2_with fail
      go_ret
      exact ⟨ret_bool HR.out.symm, step2 HB1.out HB.out⟩
end Go.Proofs.Ytmkodbkbgpjgoaa
