/- SFits2: a part of the proofs of this seat. -/
import Derived.Test.YtlhognagaknhcaaProg
import Derived.Test.YtlhognagaknhcaaSOrb
namespace Go.Proofs.Ytlhognagaknhcaa
open Go.RowKit
set_option linter.all false
set_option maxHeartbeats 1600000 in
theorem sFitsInto_any (pa : Option Addr) (na ca : Nat) (a : List (List Int)) (pb : Option Addr) (nb cb : Nat) (b : List (List Int)) (n : Int) (w : World) (ha : Intss w pa na a) (hb : Intss w pb nb b) :
    Calls Try.prog 31 #[.slice pa na ca, .slice pb nb cb, .int .i64 n] w fun e w' => e = .returned (.bool (fits a b n)) ∧ Below w.heap.size w w' := by
  have HA := Lib.hid ha
  have HB := Lib.hid hb
  clear ha hb
  obtain ⟨X, hX⟩ : ∃ X, orbV a n = X := ⟨_, rfl⟩
  obtain ⟨Y, hY⟩ : ∃ Y, orbV b n = Y := ⟨_, rfl⟩
  have HG : Hid (fits a b n = (fitL X Y && (decide (0 < X.length) && decide (0 < Y.length)))) := by show _ = _; rw [← hX, ← hY]; rfl
  have HX := Lib.hid hX
  have HY := Lib.hid hY
  clear hX hY
  go_enter Try.func31, Try.ntmps31
  go_wp2_with fail
  refine (sOrb_any _ _ _ a _ _ HA.out).mono ?_
  rintro e w1 ⟨v1, rfl, ho1, hb1⟩
  rw [HX.out] at ho1
  obtain ⟨ao1, cap1, rfl, hi1⟩ := ho1.form
  have Hi1 := Lib.hid hi1
  have Hb1 := Lib.hid hb1
  clear ho1 hi1 hb1
  go_wp2_with fail
  refine (sOrb_any _ _ _ b _ _ (HB.out.keep Hb1.out)).mono ?_
  rintro e w2 ⟨v2, rfl, ho2, hb2⟩
  rw [HY.out] at ho2
  obtain ⟨ao2, cap2, rfl, hi2⟩ := ho2.form
  have Hi2 := Lib.hid hi2
  have Hi1' := Lib.hid (Hi1.out.keep hb2)
  have Hb2 := Lib.hid (step2 Hb1.out hb2)
  have hxm := hi2.2.1
  have hym := Hi1.out.2.1
  clear ho2 hi2 hb2
  go_wp2_with fail
  go_loopw [9] (fun v wr => ∃ k : Nat, k ≤ X.length ∧ k ≤ Y.length ∧ v = .int .i64 k ∧ Hid (fitL (X.drop k) (Y.drop k) = fitL X Y) ∧ Drew w2 wr) (fun v _ => X.length - (intOf v).toNat)
  case atStart => exact ⟨0, Nat.zero_le _, Nat.zero_le _, rfl, rfl, Drew.refl _⟩
  case round =>
    obtain ⟨k, hk1, hk2, rfl, hr, m, rfl⟩ := hrel
    by_cases h1 : k < X.length
    · by_cases h2 : k < Y.length
      · obtain ⟨b1, o1, x, rfl, hcx, hgx⟩ := Hi1'.out.at_ h1
        obtain ⟨b2, o2, y, rfl, hcy, hgy⟩ := Hi2.out.at_ h2
        have HS := Lib.hid (fitL_step hgx.out hgy.out hr.out)
        clear hgx hgy hr
        by_cases hlt : y < x
        · have hd : decide (y < x) = true := by simpa using hlt
          have HR : Hid (fits a b n = false) := by show _ = _; rw [HG.out, HS.out.1 hlt]; rfl
          clear HS hlt
          go_wp2_with fail
          go_quiet (fail)
          go_wp2_with fail
          go_ret
          exact ⟨ret_bool HR.out.symm, below_drewN (below_drewN Hb2.out _) _⟩
        · have hd : decide (y < x) = false := by simpa using hlt
          have HR := HS.out.2 hlt
          clear HS hlt
          go_wp2_with fail
          go_quiet (fail)
          go_wp2_with fail
          go_roundw
          case rel => exact ⟨k + 1, h1, h2, by go_num, HR, (by first | exact Drew.refl _ | exact Drew.mk _ _ | exact (Drew.mk _ _).drewN _)⟩
          case measure => simp [intOf]; omega
      · have HR : Hid (fits a b n = (decide (0 < X.length) && decide (0 < Y.length))) := by show _ = _; rw [HG.out, fitL_end (.inr (by omega)) hr.out]; rfl
        have hdx : decide (0 < X.length) = true := by simp; omega
        clear hr
        cases hdy : decide (0 < Y.length)
        · have HR2 : Hid (fits a b n = false) := by show _ = _; rw [HR.out, hdy]; simp
          go_wp2_with fail
          go_ret
          exact ⟨ret_bool HR2.out.symm, below_drewN Hb2.out _⟩
        · have HR2 : Hid (fits a b n = true) := by show _ = _; rw [HR.out, hdx, hdy]; rfl
          go_wp2_with fail
          go_ret
          exact ⟨ret_bool HR2.out.symm, below_drewN Hb2.out _⟩
    · have HR : Hid (fits a b n = (decide (0 < X.length) && decide (0 < Y.length))) := by show _ = _; rw [HG.out, fitL_end (.inl (by omega)) hr.out]; rfl
      clear hr
      cases hdx : decide (0 < X.length)
      · have HR2 : Hid (fits a b n = false) := by show _ = _; rw [HR.out, hdx]; rfl
        go_wp2_with fail
        go_ret
        exact ⟨ret_bool HR2.out.symm, below_drewN Hb2.out _⟩
      · cases hdy : decide (0 < Y.length)
        · have HR2 : Hid (fits a b n = false) := by show _ = _; rw [HR.out, hdy]; simp
          go_wp2_with fail
          go_ret
          exact ⟨ret_bool HR2.out.symm, below_drewN Hb2.out _⟩
        · have HR2 : Hid (fits a b n = true) := by show _ = _; rw [HR.out, hdx, hdy]; rfl
          go_wp2_with fail
          go_ret
          exact ⟨ret_bool HR2.out.symm, below_drewN Hb2.out _⟩
end Go.Proofs.Ytlhognagaknhcaa
