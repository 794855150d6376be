/- IChanceOf: a part of the proofs of this seat. -/
import Derived.Test.YtjkpndhfdlnpdaaProg
import Derived.Test.YtjkpndhfdlnpdaaChWalk
import Derived.Test.YtjkpndhfdlnpdaaIResting
import Derived.Test.YtjkpndhfdlnpdaaTotal
import Derived.Test.YtjkpndhfdlnpdaaBase
namespace Go.Proofs.Ytjkpndhfdlnpdaa
open Go.RowKit
set_option linter.all false
set_option maxRecDepth 20000 in
set_option maxHeartbeats 3200000 in
theorem iChanceOf_any (p : Option Addr) (n c : Nat) (t : List (List Int)) (p' : Option Addr) (n' c' : Nat) (ws : List Int) (w : World) (h : Intss w p n t) (h' : Ints w p' n' ws) :
    Calls Try.prog 19 #[.slice p n c, .slice p' n' c'] w fun e w' => e = .returned (.tuple #[.int .i64 (chA t ws), .int .i64 (chB t ws), .bool (walkOk t ws)]) ∧ Below w.heap.size w w' := by
  have HL : Hid (t.length = n) := h.1
  have HL' : Hid (ws.length = n') := h'.1
  have hm' := h'.2.1
  have H := Lib.hid h
  have H' := Lib.hid h'
  clear h h'
  have no : Hid (∀ {e : Ending}, walkOk t ws = false → e = .returned (.tuple #[.int .i64 0, .int .i64 0, .bool false]) → e = .returned (.tuple #[.int .i64 (chA t ws), .int .i64 (chB t ws), .bool (walkOk t ws)])) := by
    intro e h1 h2; rw [h2]; simp [chA, chB, h1]
  cases hok : restOk t
  · have hg : Hid (walkOk t ws = false) := by show _ = _; simp [walkOk, hok]
    go_enter Try.func19, Try.ntmps19
    go_wp2_with (go_at_call 53; refine (iResting_any _ _ _ t _ H.out).mono ?_; rintro e w1 ⟨v1, rfl, ho1, hb1⟩; obtain ⟨ao1, cap1, rfl, _⟩ := ho1.form; have Hb1 := Lib.hid hb1; clear ho1 hb1)
    go_ret3
    exact ⟨no.out hg.out rfl, Hb1.out⟩
  by_cases hw1 : n' < 1
  · have hg : Hid (walkOk t ws = false) := by show _ = _; simp [walkOk, HL'.out, inR_no (x := (n' : Int)) (lo := 1) (hi := 6) (.inl (by omega))]
    have hd : decide ((n' : Int) < 1) = true := by simp; omega
    go_enter Try.func19, Try.ntmps19
    go_wp2_with (go_at_call 53; refine (iResting_any _ _ _ t _ H.out).mono ?_; rintro e w1 ⟨v1, rfl, ho1, hb1⟩; obtain ⟨ao1, cap1, rfl, _⟩ := ho1.form; have Hb1 := Lib.hid hb1; clear ho1 hb1)
    go_ret3
    exact ⟨no.out hg.out rfl, Hb1.out⟩
  by_cases hw6 : 6 < n'
  · have hg : Hid (walkOk t ws = false) := by show _ = _; simp [walkOk, HL'.out, inR_no (x := (n' : Int)) (lo := 1) (hi := 6) (.inr (by omega))]
    have hd : decide ((n' : Int) < 1) = false := by simp; omega
    have hd6 : decide ((6 : Int) < (n' : Int)) = true := by simp; omega
    go_enter Try.func19, Try.ntmps19
    go_wp2_with (go_at_call 53; refine (iResting_any _ _ _ t _ H.out).mono ?_; rintro e w1 ⟨v1, rfl, ho1, hb1⟩; obtain ⟨ao1, cap1, rfl, _⟩ := ho1.form; have Hb1 := Lib.hid hb1; clear ho1 hb1)
    go_ret3
    exact ⟨no.out hg.out rfl, Hb1.out⟩
  have hw1 : 1 ≤ n' := by omega
  have hw6 : n' ≤ 6 := by omega
  have hin : inR n' 1 6 = true := inR_mk ⟨by omega, by omega⟩
  have hd1 : decide ((n' : Int) < 1) = false := by simp; omega
  have hd6 : decide ((6 : Int) < (n' : Int)) = false := by simp; omega
  have hc : isChance t = true := by have hok' := hok; simp only [restOk, Bool.and_eq_true] at hok'; exact hok'.1
  have hf := chance_facts hc
  have hn1 : 1 ≤ n := by have := HL.out; omega
  have hn4 : n ≤ 4 := by have := HL.out; omega
  have HRL : Hid ((restV t).length = n) := (restV_len hok).trans HL.out
  have HR := Lib.hid (isMat_rowsLen (chance_mat hc) HL.out)
  have HG : Hid (walkOk t ws = allIn 0 ((n : Int) - 1) ws) := by show _ = _; simp [walkOk, hok, HL.out, HL'.out, hin]
  obtain ⟨b0, o0, a0, c0, r0, rfl, hc0, hrow0, hget0⟩ := H.out.at_ (k := 0) (by omega)
  rw [Nat.add_zero] at hc0
  have hsum : Hid (isum 0 (t.getD 0 []) = isum 0 r0) := by show _ = _; rw [getD_get3 hget0.out]
  have HC0 := Lib.hid hc0
  have HRow0 := Lib.hid hrow0
  clear hc hf hc0 hrow0 hget0
  go_enter Try.func19, Try.ntmps19
  go_wp2_with ((go_at_call 53; refine (iResting_any _ _ _ t _ H.out).mono ?_; rintro e w1 ⟨v1, rfl, ho1, hb1⟩; rw [HRL.out] at ho1; obtain ⟨ao1, cap1, rfl, hi1⟩ := ho1.form; have HI1 := Lib.hid hi1; have HT1 := Lib.hid (H.out.keep hb1); have HW1 := Lib.hid (H'.out.keep hb1); have HR1 := Lib.hid (HRow0.out.keep hb1); have HC1 := Lib.hid ((hb1.cell (World.block_lt_of_cell? w _ HC0.out)).trans HC0.out); have Hb1 := Lib.hid hb1; clear ho1 hb1 hi1))
  clear hok hin hd1 hd6
  go_loop [33] (fun x => ∃ i : Nat, i ≤ n' ∧ x = .int .i64 i ∧ Hid (allIn 0 ((n : Int) - 1) (ws.drop i) = allIn 0 ((n : Int) - 1) ws)) (fun x => n' - (intOf x).toNat)
  case atStart => exact ⟨0, Nat.zero_le _, rfl, rfl⟩
  case round =>
    obtain ⟨i, hi, rfl, hr⟩ := hrel
    by_cases hlt : i < n'
    · obtain ⟨b1, o1, x, rfl, hcx, hgx⟩ := HW1.out.at_ hlt
      have HS := Lib.hid (allIn_step hgx.out hr.out)
      clear hr hgx
      by_cases h0 : x < 0
      · have HF := Lib.hid (HS.out.2 (inR_no (.inl h0)))
        have hd : decide (x < 0) = true := by simpa using h0
        clear HS h0
        go_wp2_with fail
        go_ret3
        exact ⟨no.out (HG.out.trans HF.out) rfl, Hb1.out⟩
      by_cases h1 : (n : Int) ≤ x
      · have HF := Lib.hid (HS.out.2 (inR_no (.inr (by omega))))
        have hd : decide (x < 0) = false := by simpa using h0
        have hd2 : decide ((n : Int) ≤ x) = true := by simpa using h1
        clear HS h1 h0
        go_wp2_with fail
        go_ret3
        exact ⟨no.out (HG.out.trans HF.out) rfl, Hb1.out⟩
      · have HF := Lib.hid (HS.out.1 (inR_mk ⟨by omega, by omega⟩))
        have hd : decide (x < 0) = false := by simpa using h0
        have hd2 : decide ((n : Int) ≤ x) = false := by simpa using h1
        clear HS h1 h0
        go_wp2_with fail
        go_round
        case rel => exact ⟨i + 1, hlt, by go_num, HF.out⟩
        case measure => simp [intOf]; omega
    · have HA : Hid (allIn 0 ((n : Int) - 1) ws = true) := by
        have := hr.out
        rw [drop_all ws i (by have := HL'.out; omega)] at this
        exact this.symm
      clear hr
      have hwk : Hid (walkOk t ws = true) := HG.out.trans HA.out
      obtain ⟨b2, o2, x0, rfl, hcx0, hgx0⟩ := HW1.out.at_ (k := 0) (by omega)
      obtain ⟨u0, rfl, hu0⟩ := allIn_nat HA.out hgx0.out
      obtain ⟨b3, o3, y0, rfl, hcy0, hgy0⟩ := HI1.out.at_ (k := u0) hu0
      rw [Nat.add_zero] at hcx0
      have HA0 : Hid (chA t ws = chTop t y0 ws) := by
        show _ = _
        simp only [chA, hwk.out, if_true, List.getD, hgx0.out, Option.getD_some, Int.toNat_natCast, hgy0.out]
      have HB0 : Hid (chB t ws = chLow (isum 0 r0) (isum 0 (restV t)) ws) := by
        show _ = _
        simp only [chB, hwk.out, if_true, hsum.out]
      clear hgx0 hgy0
      go_wp2_with fail
      go_quiet ((go_at_call 67; exact quiet_L (total_any _ _ _ (restV t) _ HI1.out)))
      go_wp2_with fail
      clear hcx0 hcy0 hlt hi
      go_loopw [11, 12, 13] (fun va vb x wr => ∃ (k : Nat) (a b : Int), k + 1 ≤ n' ∧ x = .int .i64 ((k : Int) + 1) ∧ va = .int .i64 a ∧ vb = .int .i64 b ∧ Hid (chTop t a (ws.drop k) = chA t ws) ∧ Hid (chLow (isum 0 r0) b (ws.drop k) = chB t ws) ∧ Drew w1 wr) (fun _ _ x _ => n' - (intOf x).toNat)
      case atStart => exact ⟨0, _, _, by omega, rfl, rfl, rfl, HA0.out.symm, HB0.out.symm, (by first | exact Drew.refl _ | exact Drew.mk _ _ | exact (Drew.mk _ _).drewN _)⟩
      case round =>
        obtain ⟨k, a, b, hk, rfl, rfl, rfl, hra, hrb, q, rfl⟩ := hrel
        by_cases hlt : k + 1 < n'
        · obtain ⟨b4, o4, x, e4, hcx, hgx⟩ := HW1.out.at_ (k := k) (by omega)
          injection e4 with e4
          injection e4 with e5 e6
          subst e5
          subst e6
          obtain ⟨b5, o5, y, e7, hcy, hgy⟩ := HW1.out.at_ hlt
          injection e7 with e7
          injection e7 with e8 e9
          subst e8
          subst e9
          obtain ⟨u, rfl, hu⟩ := allIn_nat HA.out hgx.out
          obtain ⟨v, rfl, hv⟩ := allIn_nat HA.out hgy.out
          obtain ⟨b6, o6, a6, c6, r6, e10, hc6, hrow6, hg6⟩ := HT1.out.at_ hu
          injection e10 with e10
          injection e10 with e11 e12
          subst e11
          subst e12
          have hv6 : v < r6.length := by have := HR.out _ _ hg6.out; omega
          obtain ⟨b7, o7, z, rfl, hcz, hgz⟩ := hrow6.at_ hv6
          have ha := chTop_step hgx.out hgy.out hra.out
          have hb := chLow_step hgx.out hgy.out hrb.out
          rw [Int.toNat_natCast, Int.toNat_natCast, en_get hg6.out hgz.out] at ha
          have HAk := Lib.hid ha
          have HBk := Lib.hid hb
          have hc1 := HC1.out
          clear ha hb hra hrb hgx hgy hg6 hgz hrow6
          go_wp2_with fail
          go_quiet (fail)
          go_wp2_with (go_at_call 67; refine (total_any _ _ _ r0 _ (by first | exact HR1.out | exact HR1.out.drewN _)).mono ?_; rintro e w' ⟨rfl, rfl⟩)
          go_roundw
          case rel => exact ⟨k + 1, _, _, hlt, by go_num, rfl, rfl, HAk.out, HBk.out, (by first | exact Drew.refl _ | exact Drew.mk _ _ | exact (Drew.mk _ _).drewN _)⟩
          case measure => simp [intOf]; omega
        · have ha := chTop_end (by have := HL'.out; omega) hra.out
          have hb := chLow_end (by have := HL'.out; omega) hrb.out
          have HAk := Lib.hid ha
          have HBk := Lib.hid hb
          clear ha hb hra hrb
          go_wp2_with fail
          go_ret3
          exact ⟨by rw [HAk.out, HBk.out, hwk.out]; rfl, below_drewN Hb1.out _⟩
end Go.Proofs.Ytjkpndhfdlnpdaa
