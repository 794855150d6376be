/- SIsLab: a part of the proofs of this seat. -/
import Derived.StillTailTactics
import Derived.Test.YtmkodbkbgpjgoaaProg
import Derived.Test.YtmkodbkbgpjgoaaEG0b
namespace Go.Proofs.Ytmkodbkbgpjgoaa
open Go.RowKit
set_option linter.all false
set_option maxRecDepth 40000 in
set_option maxHeartbeats 12800000 in
theorem sIsLabels_any (L S : Int) (ao : Option Addr) (n cap : Nat) (xs : List Ar) (w : World) (h : Arcs w ao n xs) :
    Calls Try.prog 24 #[.agg #[.int .i64 L, .int .i64 S, .slice ao n cap]] w fun e w' => e = .returned (.bool (isLab L S xs)) ∧ Below w.heap.size w w' := by
  have hm := h.2.1
  have HL := Lib.hid h.1
  have HB1 := Lib.hid (below1 w (.cells #[.int .i64 L, .int .i64 S, .slice ao n cap] 26))
  have H := Lib.hid (h.keep HB1.out)
  have HK := Lib.hid (Blk.new w 26 #[.int .i64 L, .int .i64 S, .slice ao n cap])
  have HI := Lib.hid (isLab_eq (L := L) (S := S) (xs := xs))
  obtain ⟨s, hs⟩ : ∃ s, IntKind.i64.wrap (S - 1) = s := ⟨_, rfl⟩
  obtain ⟨l, hl⟩ : ∃ l, IntKind.i64.wrap (L - 1) = l := ⟨_, rfl⟩
  rw [← wrapI (S - 1), ← wrapI (L - 1), hs, hl] at HI
  clear h
  go_enter Try.func24, Try.ntmps24
  go_wp2_with fail
  generalize w.alloc (.cells #[.int .i64 L, .int .i64 S, .slice ao n cap] 26) = w1 at HB1 H HK ⊢
  go_loopw [3] (fun x wr => ∃ k : Nat, k ≤ n ∧ x = .int .i64 k ∧ Hid (okFrom s l (prevOf xs k) (xs.drop k) = okFrom s l none xs) ∧ Below w1.heap.size w1 wr) (fun x _ => n - (intOf x).toNat)
  case atStart => exact ⟨0, Nat.zero_le _, rfl, rfl, Below.refl _ _⟩
  case round =>
    obtain ⟨k, hk, rfl, hr, hbl⟩ := hrel
    have HB := Lib.hid hbl
    have k0 := (HK.out.keep hbl).c0
    have k1 := (HK.out.keep hbl).c1
    have k2 := (HK.out.keep hbl).c2
    clear hbl
    by_cases hlt : k < n
    · obtain ⟨b, o, x, y, z, rfl, c1, c2, c3, hx⟩ := (H.out.keep HB.out).at_ hlt
      have HST := Lib.hid (okFrom_step hx.out hr.out)
      have HA := Lib.hid (Blk.new wr 55 #[.int .i64 x, .int .i64 y, .int .i64 z])
      have HB2 := Lib.hid (below1 wr (.cells #[.int .i64 x, .int .i64 y, .int .i64 z] 55))
      have HK2 := Lib.hid ((HK.out.keep HB.out).keep HB2.out)
      clear hx hr
      go_wp2_with fail
      generalize wr.alloc (.cells #[.int .i64 x, .int .i64 y, .int .i64 z] 55) = w5 at HA HB2 HK2 ⊢
      have HB5 := Lib.hid (HB.out.trans (HB2.out.mono HB.out.size))
      clear c1 c2 c3 k0 k1 k2
      have a0 := HA.out.c0
      have a1 := HA.out.c1
      have a2 := HA.out.c2
      have k0 := HK2.out.c0
      have k1 := HK2.out.c1
      have k2 := HK2.out.c2
      cases b1 : inR x 0 s
      · have HF := Lib.hid (HST.out.1 (arcB_1 b1))
        have HR : Hid (isLab L S xs = false) := by show _ = _; rw [← HI.out, HF.out]; rfl
        have B1 := Lib.hid b1
        go_quiet ((go_at_call 34; first | exact quiet_L (l1In_any _ _ _ _) | exact quiet_La (l1In_any _ _ _ _)))
        go_wp2_with fail
        go_ret
        exact ⟨ret_bool HR.out.symm, step2 HB1.out (by first | exact below_drewN HB5.out _ | exact below_drewN (below_drewN HB5.out _) _)⟩
      have B1 := Lib.hid b1
      cases b2 : inR y 0 s
      · have HF := Lib.hid (HST.out.1 (arcB_2 b2))
        have HR : Hid (isLab L S xs = false) := by show _ = _; rw [← HI.out, HF.out]; rfl
        have B2 := Lib.hid b2
        go_quiet ((go_at_call 34; first | exact quiet_L (l1In_any _ _ _ _) | exact quiet_La (l1In_any _ _ _ _)))
        go_wp2_with fail
        go_ret
        exact ⟨ret_bool HR.out.symm, step2 HB1.out (by first | exact below_drewN HB5.out _ | exact below_drewN (below_drewN HB5.out _) _)⟩
      have B2 := Lib.hid b2
      cases b3 : inR z 0 l
      · have HF := Lib.hid (HST.out.1 (arcB_3 b3))
        have HR : Hid (isLab L S xs = false) := by show _ = _; rw [← HI.out, HF.out]; rfl
        have B3 := Lib.hid b3
        go_quiet ((go_at_call 34; first | exact quiet_L (l1In_any _ _ _ _) | exact quiet_La (l1In_any _ _ _ _)))
        go_wp2_with fail
        go_ret
        exact ⟨ret_bool HR.out.symm, step2 HB1.out (by first | exact below_drewN HB5.out _ | exact below_drewN (below_drewN HB5.out _) _)⟩
      have B3 := Lib.hid b3
      have HBT := Lib.hid (arcB_t b1 b2 b3)
      rcases Nat.eq_zero_or_pos k with hk0 | hk0
      · subst hk0
        have HN := Lib.hid (HST.out.2.2 HBT.out (behind_0 xs _))
        go_quiet ((go_at_call 34; first | exact quiet_L (l1In_any _ _ _ _) | exact quiet_La (l1In_any _ _ _ _)))
        go_wp2_with fail
        go_roundw
        case rel => exact ⟨0 + 1, hlt, by go_num, HN.out, (by first | exact below_drewN HB5.out _ | exact below_drewN (below_drewN HB5.out _) _)⟩
        case measure => simp [intOf]; omega
      · obtain ⟨j, rfl⟩ : ∃ j, k = j + 1 := ⟨k - 1, by omega⟩
        obtain ⟨bq, oq, qx, qy, qz, eq, d1, d2, d3, hq⟩ := ((H.out.keep HB.out).keep HB2.out).at_ (k := j) (by omega)
        injection eq with eq
        injection eq with eq1 eq2
        subst eq1 eq2
        have HQ := Lib.hid (behind_S (x := (x, y, z)) hq.out)
        have hjw : IntKind.i64.wrap ((j : Int) + 1 - 1) = (j : Int) := by rw [IntKind.wrap_i64]; omega
        have hpos : decide ((0 : Int) < (j : Int) + 1) = true := decide_eq_true (by omega)
        have hj0 : IntKind.i64.wrap (j : Int) = (j : Int) := by rw [IntKind.wrap_i64]; omega
        have hjn : j < n := by omega
        have hjn2 : (j : Int) < (n : Int) := by omega
        have hj00 : (0 : Int) ≤ (j : Int) := by omega
        clear hq hk0 b1 b2 b3
        cases b4 : ltA (qx, qy, qz) (x, y, z)
        · have HF := Lib.hid (HST.out.2.1 (HQ.out.trans b4))
          have HR : Hid (isLab L S xs = false) := by show _ = _; rw [← HI.out, HF.out]; rfl
          have B4 := Lib.hid b4
          clear b4
          go_still_tail 36, (by kernel_rfl)
          still_call ((l1In_any _ _ _ _).mono fun _ _ h => ⟨h.1.trans (by rw [B1.out]), h.2.symm⟩)
          repeat still_step
          still_call ((l1In_any _ _ _ _).mono fun _ _ h => ⟨h.1.trans (by rw [B2.out]), h.2.symm⟩)
          repeat still_step
          still_call ((l1In_any _ _ _ _).mono fun _ _ h => ⟨h.1.trans (by rw [B3.out]), h.2.symm⟩)
          repeat still_step
          refine wpStill_nil ?_
          change wpList _ _ _ _ _ w5.drew
          go_wp2_with (go_at_call 45; refine (sBefore_any _ _ _ _ _ _ _).mono ?_; rw [B4.out]; rintro e w6 ⟨rfl, hb6⟩; have HB6 := Lib.hid hb6; clear hb6)
          go_ret
          exact ⟨ret_bool HR.out.symm, step2 HB1.out ((below_drewN HB5.out 1).trans (HB6.out.mono HB5.out.size))⟩
        · have HN := Lib.hid (HST.out.2.2 HBT.out (HQ.out.trans b4))
          have B4 := Lib.hid b4
          clear b4
          go_still_tail 36, (by kernel_rfl)
          still_call ((l1In_any _ _ _ _).mono fun _ _ h => ⟨h.1.trans (by rw [B1.out]), h.2.symm⟩)
          repeat still_step
          still_call ((l1In_any _ _ _ _).mono fun _ _ h => ⟨h.1.trans (by rw [B2.out]), h.2.symm⟩)
          repeat still_step
          still_call ((l1In_any _ _ _ _).mono fun _ _ h => ⟨h.1.trans (by rw [B3.out]), h.2.symm⟩)
          repeat still_step
          refine wpStill_nil ?_
          change wpList _ _ _ _ _ w5.drew
          go_wp2_with (go_at_call 45; refine (sBefore_any _ _ _ _ _ _ _).mono ?_; rw [B4.out]; rintro e w6 ⟨rfl, hb6⟩; have HB6 := Lib.hid hb6; clear hb6)
          go_roundw
          case rel => exact ⟨j + 1 + 1, hlt, by go_num, HN.out, (below_drewN HB5.out 1).trans (HB6.out.mono HB5.out.size)⟩
          case measure => simp [intOf]; omega
    · have HT := Lib.hid (okFrom_end (by have := HL.out; omega) hr.out)
      have HE : Hid (isLab L S xs = (inR L 1 3 && inR S 1 12)) := by show _ = _; rw [← HI.out, HT.out]; rfl
      clear hr
      cases b1 : inR L 1 3
      · have B1 := Lib.hid b1
        have HR : Hid (isLab L S xs = false) := by show _ = _; rw [HE.out, b1]; rfl
        clear b1
        go_wp2_with (go_at_call 34; refine (l1In_any _ _ _ _).mono ?_; rw [B1.out]; rintro e w' ⟨rfl, rfl⟩)
        go_ret
        exact ⟨ret_bool HR.out.symm, step2 HB1.out HB.out⟩
      · have B1 := Lib.hid b1
        have HR : Hid (isLab L S xs = inR S 1 12) := by show _ = _; rw [HE.out, b1]; rfl
        clear b1
        go_wp2_with fail
        refine (l1In_any _ _ _ _).mono ?_
        rw [B1.out]
        rintro e w' ⟨rfl, rfl⟩
        go_wp2_with fail
        refine (l1In_any _ _ _ _).mono ?_
        rintro e w' ⟨rfl, rfl⟩
        go_wp2_with fail
        go_ret
        exact ⟨ret_bool HR.out.symm, step2 HB1.out HB.out⟩
end Go.Proofs.Ytmkodbkbgpjgoaa
