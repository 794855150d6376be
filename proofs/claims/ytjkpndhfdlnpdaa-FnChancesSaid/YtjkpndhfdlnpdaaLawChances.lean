/- Proved here: the law FnChances returns true at every input, and leaves its argument as it was. No condition. -/
import Derived.Test.YtjkpndhfdlnpdaaRows
import Derived.Test.YtjkpndhfdlnpdaaProg
import Derived.Test.YtjkpndhfdlnpdaaLawHelp
import Derived.Test.YtjkpndhfdlnpdaaD28b
import Derived.Test.YtjkpndhfdlnpdaaSChanceOf
import Derived.Test.YtjkpndhfdlnpdaaIChanceOf
import Derived.Test.YtjkpndhfdlnpdaaSRev
import Derived.Test.YtjkpndhfdlnpdaaIRev
import Derived.Test.YtjkpndhfdlnpdaaSBoth
import Derived.Test.YtjkpndhfdlnpdaaIBoth
import Derived.Test.YtjkpndhfdlnpdaaChSum
namespace Go.Proofs.Ytjkpndhfdlnpdaa
open Go.RowKit
set_option linter.all false
theorem sm_step {n : Nat} {f : Nat → Int} {b y : Int} {k : Nat} (h : Cg b (Sm k f)) (hy : f k = y) : Cg (wrap64 (b + y)) (Sm (k + 1) f) := by
  subst hy
  exact (Cg.wrap _).trans (h.add (Cg.refl _))
theorem sm_stepw {f : Nat → Int} {b y : Int} {k : Nat} (h : b = wrap64 (Sm k f)) (hy : f k = y) : wrap64 (b + wrap64 y) = wrap64 (Sm (k + 1) f) := by
  subst hy
  subst h
  exact ((Cg.wrap _).add (Cg.wrap _)).eq
theorem not_both {t : List (List Int)} (h : restOk t = false) : bothB t = false := by simp [bothB, h]
theorem rev_chance {t : List (List Int)} (h : revOk t = true) : isChance (revV t) = true := by
  simp only [revV, h, if_true]
  simp only [revOk, Bool.and_eq_true] at h
  exact h.2
set_option maxHeartbeats 12800000 in
set_option maxRecDepth 100000 in
theorem fnChances_walk (p0 : Option Addr) (n0 c0 : Nat) (z0 : List Int) (w : World) (h0 : BytesIn w p0 n0 z0) :
    Calls Try.prog 14 #[.slice p0 n0 c0] w fun e w' => e = .returned (.bool true) ∧ Below w.heap.size w w' := by
  by_cases hbig : 1048576 < n0
  · go_enter Try.func14, Try.ntmps14
    go_wp2_with (go_at_call 51; refine (lBig_yes _ _ _ _ hbig).mono ?_; rintro e w' ⟨rfl, rfl⟩)
    go_ret
    exact ⟨rfl, Below.refl _ _⟩
  have HY : Hid (Bytes w p0 n0) := ⟨by omega, h0.cells⟩
  clear h0
  go_enter Try.func14, Try.ntmps14
  go_wp2_with (go_at_call 51; refine (lBig_no _ _ _ _ (by omega)).mono ?_; rintro e w' ⟨rfl, rfl⟩)
  refine (drawResting_any _ _ _ _ HY.out).mono ?_
  rintro e w1 ⟨v1, T, rfl, ho1, hb1⟩
  obtain ⟨p1, c1, rfl, hi1⟩ := ho1.form
  have HT := Lib.hid hi1
  clear ho1 hi1
  go_wp2_with fail
  refine (iResting_any _ _ _ T _ HT.out).mono ?_
  rintro e w2 ⟨v2, rfl, ho2, hb2⟩
  obtain ⟨p2, c2, rfl, hi2⟩ := ho2.form
  have HR := Lib.hid hi2
  clear ho2 hi2
  go_wp2_with fail
  refine (sResting_any _ _ _ T _ (HT.out.keep hb2)).mono ?_
  rintro e w3 ⟨v3, rfl, ho3, hb3⟩
  obtain ⟨p3, c3, rfl, hi3⟩ := ho3.form
  have HR3 := Lib.hid hi3
  clear ho3 hi3
  go_wp2_with fail
  refine (drawChance_any _ _ _ _ (HY.out.keep (step2 (step2 hb1 hb2) hb3))).mono ?_
  rintro e w4 ⟨v4, A, u4, xs, rfl, ho4, hu4, hx6, hb4⟩
  obtain ⟨p4, c4, rfl, hi4⟩ := ho4.form
  obtain ⟨q4, d4, rfl, hj4⟩ := hu4.form
  have HA := Lib.hid hi4
  have HX := Lib.hid hj4
  clear ho4 hi4 hu4 hj4
  go_wp2_with fail
  refine (iChanceOf_any _ _ _ A _ _ _ xs _ HA.out HX.out).mono ?_
  rintro e w5 ⟨rfl, hb5⟩
  go_wp2_with fail
  refine (sChanceOf_any _ _ _ A _ _ _ xs _ (HA.out.keep hb5) (HX.out.keep hb5)).mono ?_
  rintro e w6 ⟨rfl, hb6⟩
  go_wp2_with fail
  refine (drawReversed_any _ _ _ _ (HY.out.keep (step2 (step2 (step2 (step2 (step2 hb1 hb2) hb3) hb4) hb5) hb6))).mono ?_
  rintro e w7 ⟨v7, B, rfl, ho7, hb7⟩
  obtain ⟨p7, c7, rfl, hi7⟩ := ho7.form
  have HB := Lib.hid hi7
  clear ho7 hi7
  go_wp2_with fail
  refine (iRev_any _ _ _ B _ HB.out).mono ?_
  rintro e w8 ⟨v8, rfl, ho8, hb8⟩
  obtain ⟨p8, c8, rfl, hi8⟩ := ho8.form
  have HV := Lib.hid hi8
  clear ho8 hi8
  go_wp2_with fail
  refine (sRev_any _ _ _ B _ (HB.out.keep hb8)).mono ?_
  rintro e w9 ⟨v9, rfl, ho9, hb9⟩
  obtain ⟨p9, c9, rfl, hi9⟩ := ho9.form
  have HV9 := Lib.hid hi9
  clear ho9 hi9
  have hx0 : (restOk T != restOk T) = false := by simp
  have hx1 : (walkOk A xs != walkOk A xs) = false := by simp
  have hx2 : (chA A xs != chA A xs) = false := by simp
  have hx3 : (chB A xs != chB A xs) = false := by simp
  have hx4 : (revOk B != revOk B) = false := by simp
  have hx5 : (isChance T != isChance T) = false := by simp
  have hx6 : (bothB T != bothB T) = false := by simp
  have hs1 := eqL_self (restV T)
  have hs2 := eqL_self (revV B)
  go_wp2_with fail
  refine (ofD (sameInts_any _ _ _ (restV T) _ _ _ (restV T) _ (HR.out.keep (step2 (step2 (step2 (step2 (step2 (step2 hb3 hb4) hb5) hb6) hb7) hb8) hb9)) (HR3.out.keep (step2 (step2 (step2 (step2 (step2 hb4 hb5) hb6) hb7) hb8) hb9)))).mono ?_
  rintro e w10 ⟨rfl, hb10⟩
  go_wp2_with fail
  refine (ofD (sameLists_any _ _ _ (revV B) _ _ _ (revV B) _ (HV.out.keep (step2 hb9 hb10)) (HV9.out.keep hb10))).mono ?_
  rintro e w11 ⟨rfl, hb11⟩
  go_wp2_with fail
  refine (iIsChance_any _ _ _ T _ (HT.out.keep (step2 (step2 (step2 (step2 (step2 (step2 (step2 (step2 (step2 hb2 hb3) hb4) hb5) hb6) hb7) hb8) hb9) hb10) hb11))).mono ?_
  rintro e w' ⟨rfl, rfl⟩
  go_wp2_with fail
  refine (ofD (sIsChance_any _ _ _ T _ (HT.out.keep (step2 (step2 (step2 (step2 (step2 (step2 (step2 (step2 (step2 hb2 hb3) hb4) hb5) hb6) hb7) hb8) hb9) hb10) hb11)))).mono ?_
  rintro e w12 ⟨rfl, hb12⟩
  go_wp2_with fail
  refine (iBoth_any _ _ _ T _ (HT.out.keep (step2 (step2 (step2 (step2 (step2 (step2 (step2 (step2 (step2 (step2 hb2 hb3) hb4) hb5) hb6) hb7) hb8) hb9) hb10) hb11) hb12))).mono ?_
  rintro e w13 ⟨rfl, hb13⟩
  go_wp2_with fail
  refine (sBoth_any _ _ _ T _ (HT.out.keep (step2 (step2 (step2 (step2 (step2 (step2 (step2 (step2 (step2 (step2 (step2 hb2 hb3) hb4) hb5) hb6) hb7) hb8) hb9) hb10) hb11) hb12) hb13))).mono ?_
  rintro e w14 ⟨rfl, hb14⟩
  have HTz := Lib.hid (HT.out.keep (step2 (step2 (step2 (step2 (step2 (step2 (step2 (step2 (step2 (step2 (step2 (step2 hb2 hb3) hb4) hb5) hb6) hb7) hb8) hb9) hb10) hb11) hb12) hb13) hb14))
  have HRz := Lib.hid (HR.out.keep (step2 (step2 (step2 (step2 (step2 (step2 (step2 (step2 (step2 (step2 (step2 hb3 hb4) hb5) hb6) hb7) hb8) hb9) hb10) hb11) hb12) hb13) hb14))
  have HAz := Lib.hid (HA.out.keep (step2 (step2 (step2 (step2 (step2 (step2 (step2 (step2 (step2 hb5 hb6) hb7) hb8) hb9) hb10) hb11) hb12) hb13) hb14))
  have HXz := Lib.hid (HX.out.keep (step2 (step2 (step2 (step2 (step2 (step2 (step2 (step2 (step2 hb5 hb6) hb7) hb8) hb9) hb10) hb11) hb12) hb13) hb14))
  have HVz := Lib.hid (HV.out.keep (step2 (step2 (step2 (step2 (step2 hb9 hb10) hb11) hb12) hb13) hb14))
  have HBl := Lib.hid (step2 (step2 (step2 (step2 (step2 (step2 (step2 (step2 (step2 (step2 (step2 (step2 (step2 hb1 hb2) hb3) hb4) hb5) hb6) hb7) hb8) hb9) hb10) hb11) hb12) hb13) hb14)
  clear hx0 hs1 hs2 HT HR HR3 HA HX HB HV HV9 HY hb1 hb2 hb3 hb4 hb5 hb6 hb7 hb8 hb9 hb10 hb11 hb12 hb13 hb14
  clear hx1 hx2 hx3 hx4 hx5
  cases hwk : walkOk A xs
  · skip
    have HTy := Lib.hid (HTz.out)
    have HRy := Lib.hid (HRz.out)
    have HVy := Lib.hid (HVz.out)
    have HBy := Lib.hid (HBl.out)
    cases hrv : revOk B
    · skip
      cases hro : restOk T
      · have hbb := not_both hro
        go_wp2_with (first
          | (go_at_call 61; refine (iBoth_any _ _ _ T _ HTy.out).mono ?_; rintro e w16 ⟨rfl, hb16⟩; have Hb16 := Lib.hid (HBy.out.trans (hb16.mono HBy.out.size)); clear hb16))
        go_ret
        exact ⟨rfl, Hb16.out⟩
      · have hc : isChance T = true := by have h := hro; simp only [restOk, Bool.and_eq_true] at h; exact h.1
        have hf := chance_facts hc
        have HRL := Lib.hid (restV_len' hro)
        have hn1 : 1 ≤ T.length := hf.1
        have hn4 : T.length ≤ 4 := hf.2.1
        have HRow := Lib.hid (isMat_rowsLen (chance_mat hc) rfl)
        have HStat : Hid (∀ j, j < T.length → Sm T.length (fun i => (restV T).getD i 0 * en T i j) = isum 0 (T.getD 0 []) * (restV T).getD j 0) := fun j hj => stat hro hj
        have HPos : Hid (∀ i, i < T.length → 1 ≤ (restV T).getD i 0 ∧ (restV T).getD i 0 ≤ 4000000) := fun i hi => rest_pos hro hi
        have HQ := HRy.out
        rw [HRL.out] at HQ
        have HRz2 := Lib.hid HQ
        clear HQ
        obtain ⟨b0, o0, a0, k0, r0, rfl, hc0, hrow0, hget0⟩ := HTy.out.at_ (k := 0) (by omega)
        rw [Nat.add_zero] at hc0
        have hsum : Hid (isum 0 (T.getD 0 []) = isum 0 r0) := by show _ = _; rw [getD_get2 hget0.out]
        have HRow0 := Lib.hid hrow0
        clear hc hf hrow0 hget0
        go_wp2_with (first
          | (go_at_call 63; refine (lTotal_any _ _ _ r0 _ HRow0.out).mono ?_; rintro e w' ⟨rfl, rfl⟩))
        clear hc0
        go_loopw [32] (fun x wr => ∃ j : Nat, j ≤ T.length ∧ x = .int .i64 j ∧ Drew w14 wr) (fun x _ => T.length - (intOf x).toNat)
        case atStart => exact ⟨0, Nat.zero_le _, rfl, Drew.refl _⟩
        case round =>
          obtain ⟨j, hj, rfl, mj, rfl⟩ := hrel
          by_cases hjn : j < T.length
          · go_wp2_with fail
            go_loopw [33, 34] (fun vs x wr => ∃ (i : Nat) (y : Int), i ≤ T.length ∧ x = .int .i64 i ∧ vs = .int .i64 y ∧ Hid (y = wrap64 (Sm i (fun i => (restV T).getD i 0 * en T i j))) ∧ Drew w14 wr) (fun _ x _ => T.length - (intOf x).toNat)
            case atStart => exact ⟨0, 0, Nat.zero_le _, rfl, rfl, (by show (0 : Int) = wrap64 0; unfold wrap64; omega), (by first | exact Drew.refl _ | exact Drew.mk _ _ | exact (Drew.mk _ _).drewN _)⟩
            case round =>
              obtain ⟨i, y, hi, rfl, rfl, hr, mi, rfl⟩ := hrel
              by_cases hin : i < T.length
              · obtain ⟨b4, o4, x4, e4, hc4, hg4⟩ := HRz2.out.at_ (k := i) hin
                obtain ⟨b5, o5, a5, k5, r5, e5, hc5, hrow5, hg5⟩ := HTy.out.at_ hin
                injection e5 with e5
                injection e5 with e6 e7
                subst e6
                subst e7
                subst e4
                have hir : i < (restV T).length := by rw [HRL.out]; exact hin
                have hjr : j < r5.length := by have := HRow.out _ _ hg5.out; omega
                obtain ⟨b6, o6, x6, rfl, hc6, hg6⟩ := hrow5.at_ hjr
                have hv : (restV T).getD i 0 * en T i j = x4 * x6 := by rw [en_get hg5.out hg6.out]; simp [List.getD, hg4.out]
                have HS := Lib.hid (sm_stepw hr.out hv)
                clear hr hv hrow5 hg4 hg5 hg6
                go_wp2_with fail
                go_quiet (fail)
                go_wp2_with fail
                go_roundw
                case rel => exact ⟨i + 1, _, hin, by go_num, rfl, HS.out, (by first | exact Drew.refl _ | exact Drew.mk _ _ | exact (Drew.mk _ _).drewN _)⟩
                case measure => simp [intOf]; omega
              · have hit : i = T.length := by omega
                rw [hit, HStat.out j hjn, hsum.out] at hr
                obtain ⟨b4, o4, x4, e4, hc4, hg4⟩ := HRz2.out.at_ (k := j) hjn
                subst e4
                have hir : j < (restV T).length := by rw [HRL.out]; exact hjn
                have hx4 : (restV T).getD j 0 = x4 := by simp [List.getD, hg4.out]
                rw [hx4] at hr
                have hp := HPos.out j hjn
                rw [hx4] at hp
                have hne : (y != wrap64 (isum 0 r0 * x4)) = false := by rw [hr.out]; simp
                have hlt : decide (x4 < 1) = false := decide_eq_false (by omega)
                clear hr hg4 hx4 hit hp
                go_wp2_with fail
                go_roundw
                case rel => exact ⟨j + 1, hjn, by go_num, (by first | exact Drew.refl _ | exact Drew.mk _ _ | exact (Drew.mk _ _).drewN _)⟩
                case measure => simp [intOf]; omega
          · go_wp2_with fail
            go_ret
            exact ⟨rfl, below_drewN HBy.out _⟩
    · have hch := rev_chance hrv
      cases hro : restOk T
      · have hbb := not_both hro
        go_wp2_with (first
          | (go_at_call 59; refine (iIsChance_any _ _ _ (revV B) _ HVy.out).mono ?_; rintro e w' ⟨rfl, rfl⟩)
          | (go_at_call 61; refine (iBoth_any _ _ _ T _ HTy.out).mono ?_; rintro e w16 ⟨rfl, hb16⟩; have Hb16 := Lib.hid (HBy.out.trans (hb16.mono HBy.out.size)); clear hb16))
        go_ret
        exact ⟨rfl, Hb16.out⟩
      · have hc : isChance T = true := by have h := hro; simp only [restOk, Bool.and_eq_true] at h; exact h.1
        have hf := chance_facts hc
        have HRL := Lib.hid (restV_len' hro)
        have hn1 : 1 ≤ T.length := hf.1
        have hn4 : T.length ≤ 4 := hf.2.1
        have HRow := Lib.hid (isMat_rowsLen (chance_mat hc) rfl)
        have HStat : Hid (∀ j, j < T.length → Sm T.length (fun i => (restV T).getD i 0 * en T i j) = isum 0 (T.getD 0 []) * (restV T).getD j 0) := fun j hj => stat hro hj
        have HPos : Hid (∀ i, i < T.length → 1 ≤ (restV T).getD i 0 ∧ (restV T).getD i 0 ≤ 4000000) := fun i hi => rest_pos hro hi
        have HQ := HRy.out
        rw [HRL.out] at HQ
        have HRz2 := Lib.hid HQ
        clear HQ
        obtain ⟨b0, o0, a0, k0, r0, rfl, hc0, hrow0, hget0⟩ := HTy.out.at_ (k := 0) (by omega)
        rw [Nat.add_zero] at hc0
        have hsum : Hid (isum 0 (T.getD 0 []) = isum 0 r0) := by show _ = _; rw [getD_get2 hget0.out]
        have HRow0 := Lib.hid hrow0
        clear hc hf hrow0 hget0
        go_wp2_with (first
          | (go_at_call 59; refine (iIsChance_any _ _ _ (revV B) _ HVy.out).mono ?_; rintro e w' ⟨rfl, rfl⟩)
          | (go_at_call 63; refine (lTotal_any _ _ _ r0 _ HRow0.out).mono ?_; rintro e w' ⟨rfl, rfl⟩))
        clear hc0
        go_loopw [32] (fun x wr => ∃ j : Nat, j ≤ T.length ∧ x = .int .i64 j ∧ Drew w14 wr) (fun x _ => T.length - (intOf x).toNat)
        case atStart => exact ⟨0, Nat.zero_le _, rfl, Drew.refl _⟩
        case round =>
          obtain ⟨j, hj, rfl, mj, rfl⟩ := hrel
          by_cases hjn : j < T.length
          · go_wp2_with fail
            go_loopw [33, 34] (fun vs x wr => ∃ (i : Nat) (y : Int), i ≤ T.length ∧ x = .int .i64 i ∧ vs = .int .i64 y ∧ Hid (y = wrap64 (Sm i (fun i => (restV T).getD i 0 * en T i j))) ∧ Drew w14 wr) (fun _ x _ => T.length - (intOf x).toNat)
            case atStart => exact ⟨0, 0, Nat.zero_le _, rfl, rfl, (by show (0 : Int) = wrap64 0; unfold wrap64; omega), (by first | exact Drew.refl _ | exact Drew.mk _ _ | exact (Drew.mk _ _).drewN _)⟩
            case round =>
              obtain ⟨i, y, hi, rfl, rfl, hr, mi, rfl⟩ := hrel
              by_cases hin : i < T.length
              · obtain ⟨b4, o4, x4, e4, hc4, hg4⟩ := HRz2.out.at_ (k := i) hin
                obtain ⟨b5, o5, a5, k5, r5, e5, hc5, hrow5, hg5⟩ := HTy.out.at_ hin
                injection e5 with e5
                injection e5 with e6 e7
                subst e6
                subst e7
                subst e4
                have hir : i < (restV T).length := by rw [HRL.out]; exact hin
                have hjr : j < r5.length := by have := HRow.out _ _ hg5.out; omega
                obtain ⟨b6, o6, x6, rfl, hc6, hg6⟩ := hrow5.at_ hjr
                have hv : (restV T).getD i 0 * en T i j = x4 * x6 := by rw [en_get hg5.out hg6.out]; simp [List.getD, hg4.out]
                have HS := Lib.hid (sm_stepw hr.out hv)
                clear hr hv hrow5 hg4 hg5 hg6
                go_wp2_with fail
                go_quiet (fail)
                go_wp2_with fail
                go_roundw
                case rel => exact ⟨i + 1, _, hin, by go_num, rfl, HS.out, (by first | exact Drew.refl _ | exact Drew.mk _ _ | exact (Drew.mk _ _).drewN _)⟩
                case measure => simp [intOf]; omega
              · have hit : i = T.length := by omega
                rw [hit, HStat.out j hjn, hsum.out] at hr
                obtain ⟨b4, o4, x4, e4, hc4, hg4⟩ := HRz2.out.at_ (k := j) hjn
                subst e4
                have hir : j < (restV T).length := by rw [HRL.out]; exact hjn
                have hx4 : (restV T).getD j 0 = x4 := by simp [List.getD, hg4.out]
                rw [hx4] at hr
                have hp := HPos.out j hjn
                rw [hx4] at hp
                have hne : (y != wrap64 (isum 0 r0 * x4)) = false := by rw [hr.out]; simp
                have hlt : decide (x4 < 1) = false := decide_eq_false (by omega)
                clear hr hg4 hx4 hit hp
                go_wp2_with fail
                go_roundw
                case rel => exact ⟨j + 1, hjn, by go_num, (by first | exact Drew.refl _ | exact Drew.mk _ _ | exact (Drew.mk _ _).drewN _)⟩
                case measure => simp [intOf]; omega
          · go_wp2_with fail
            go_ret
            exact ⟨rfl, below_drewN HBy.out _⟩
  by_cases hl6 : xs.length < 6
  · have hd6 : decide ((xs.length : Int) < 6) = true := decide_eq_true (by omega)
    have hwf := walk_facts hwk
    have HAn := Lib.hid (fun k (hk : k < A.length) => walk_more hwk hl6 hk)
    have HBe := Lib.hid (fun k (hk : k < A.length) => behind_one hwk hl6 hk)
    have HBs := Lib.hid (behind_sum hwk hl6)
    have HAs := Lib.hid (ahead_sum hwk hl6)
    have hA1 : 1 ≤ A.length := by
      have h := hwf.1
      simp only [restOk, Bool.and_eq_true] at h
      exact (chance_facts h.1).1
    have hA4 : A.length ≤ 4 := by
      have h := hwf.1
      simp only [restOk, Bool.and_eq_true] at h
      exact (chance_facts h.1).2.1
    clear hwf
    go_wp2_with fail
    go_loopw [21, 22, 23, 24] (fun vb va vl x wr => ∃ (k : Nat) (b a l : Int), k ≤ A.length ∧ x = .int .i64 k ∧ vb = .int .i64 b ∧ va = .int .i64 a ∧ vl = .int .i64 l ∧ Hid (Cg b (Sm k (fun k => chA A (xs ++ [(k : Int)])))) ∧ Hid (Cg a (Sm k (fun k => chA A ((k : Int) :: xs)))) ∧ Hid (k = 0 ∨ Cg l (chB A xs * isum 0 (A.getD 0 []))) ∧ Below w14.heap.size w14 wr) (fun _ _ _ x _ => A.length - (intOf x).toNat)
    case atStart => exact ⟨0, 0, 0, 0, Nat.zero_le _, rfl, rfl, rfl, rfl, Cg.refl _, Cg.refl _, .inl rfl, Below.refl _ _⟩
    case round =>
      obtain ⟨k, b, a, l, hk, rfl, rfl, rfl, rfl, hb, ha, hl, hbl⟩ := hrel
      have Hbl := Lib.hid hbl
      clear hbl
      by_cases hkn : k < A.length
      · have hm := HAn.out k hkn
        have hm1 : walkOk A (xs ++ [(k : Int)]) = true := hm.1
        have hm2 : walkOk A ((k : Int) :: xs) = true := hm.2
        have HS1 := Lib.hid (sm_step (n := 0) hb.out (rfl : chA A (xs ++ [(k : Int)]) = _))
        have HS2 := Lib.hid (sm_step (n := 0) ha.out (rfl : chA A ((k : Int) :: xs) = _))
        have HS3 := Lib.hid (HBe.out k hkn).2
        have HXk := Lib.hid (HXz.out.keep Hbl.out)
        have HAk := Lib.hid (HAz.out.keep Hbl.out)
        have hX40 : xs.length ≤ 1048576 := by omega
        have HE : Hid (OInts (wr.alloc (.cells #[] 3)) wr.heap.size (.slice (some ⟨wr.heap.size, 0, none⟩) 0 0) 0 []) := OInts.empty wr _ (Nat.le_refl _)
        have HB1 : Hid (Below wr.heap.size wr (wr.alloc (.cells #[] 3))) := (Below.refl _ _).alloc (Nat.le_refl _) _
        clear hb ha hl hm
        go_wp2_with (first
          | (go_at_call 19; refine (iChanceOf_any _ _ _ A _ _ _ ((k : Int) :: xs) _ (HAk.out.keep (step2 Hb18.out Hb19.out)) Hi19.out).mono ?_; rintro e w20 ⟨rfl, hb20⟩; have Hb20 := Lib.hid (step2 (step2 Hb18.out Hb19.out) hb20); clear hb20)
          | (at_builtin; refine wpList_app_ints _ rfl (.tmp 156) (.tmp 157) rfl w18.heap.size _ 1 [(k : Int)] rfl HE2.out _ _ _ xs rfl HXe.out (by omega) HB2.out.size ?_; intro v19 w19 ho19 hg19; rw [Nat.add_comm, List.singleton_append] at ho19; have Hb19 : Hid (Below w18.heap.size w18 w19) := HB2.out.grown hg19 HB2.out.size (fun k hk => (HE2.out.ownlt k hk).1); obtain ⟨q19, d19, rfl, hi19⟩ := ho19.form; have Hi19 := Lib.hid hi19; clear ho19 hg19 hi19)
          | (go_at_call 19; refine (iChanceOf_any _ _ _ A _ _ _ (xs ++ [(k : Int)]) _ (HAk.out.keep Hb17.out) Hi17.out).mono ?_; rintro e w18 ⟨rfl, hb18⟩; have Hb18 := Lib.hid (Hb17.out.trans (hb18.mono Hb17.out.size)); have HE2 : Hid (OInts (w18.alloc (.cells #[.int .i64 (k : Int)] 3)) w18.heap.size (.slice (some ⟨w18.heap.size, 0, none⟩) 1 1) 1 [(k : Int)]) := OInts.lit_ (Nat.le_refl _) rfl rfl (by omega); have HB2 : Hid (Below w18.heap.size w18 (w18.alloc (.cells #[.int .i64 (k : Int)] 3))) := (Below.refl _ _).alloc (Nat.le_refl _) _; have HXe := Lib.hid ((HXk.out.keep Hb18.out).keep HB2.out); clear hb18)
          | (at_builtin; refine wpList_push_one _ _ rfl (.tmp 145) (.tmp 147) rfl wr.heap.size _ _ _ rfl Ho16.out (by omega) Hb16.out.size _ rfl rfl ?_; intro v17 w17 ho17 hb17; have Hb17 := Lib.hid (Hb16.out.trans hb17); obtain ⟨q17, d17, rfl, hi17⟩ := ho17.form; have Hi17 := Lib.hid hi17; clear ho17 hb17 hi17)
          | (at_builtin; refine wpList_app_ints _ rfl (.tmp 143) (.tmp 144) rfl wr.heap.size _ 0 [] rfl HE.out _ _ _ xs rfl (HXk.out.keep HB1.out) (by omega) HB1.out.size ?_; intro v16 w16 ho16 hg16; rw [Nat.zero_add, List.nil_append] at ho16; have Ho16 := Lib.hid ho16; have Hb16 : Hid (Below wr.heap.size wr w16) := HB1.out.grown hg16 HB1.out.size (fun k hk => (HE.out.ownlt k hk).1); clear ho16 hg16))
        go_roundw
        case rel => exact ⟨k + 1, _, _, _, hkn, by go_num, rfl, rfl, rfl, HS1.out, HS2.out, .inr HS3.out, step2 Hbl.out Hb20.out⟩
        case measure => simp [intOf]; omega
      · have hkA : k = A.length := by omega
        rw [hkA] at hb ha hl
        have hl' : Cg l (chB A xs * isum 0 (A.getD 0 [])) := by
          rcases hl.out with h | h
          · omega
          · exact h
        have hq1 : (wrap64 (b * chB A xs) != wrap64 (chA A xs * l)) = false := by rw [adds_up (hb.out.trans HBs.out) hl']; simp
        have hq2 : (wrap64 (a * chB A xs) != wrap64 (chA A xs * l)) = false := by rw [adds_up (ha.out.trans HAs.out) hl']; simp
        clear hb ha hl hl'
        obtain ⟨wq, rfl⟩ : ∃ wq : World, wq = wr := ⟨_, rfl⟩
        have HTy := Lib.hid (HTz.out.keep Hbl.out)
        have HRy := Lib.hid (HRz.out.keep Hbl.out)
        have HVy := Lib.hid (HVz.out.keep Hbl.out)
        have HBy := Lib.hid (HBl.out.trans (Hbl.out.mono HBl.out.size))
        cases hrv : revOk B
        · skip
          cases hro : restOk T
          · have hbb := not_both hro
            go_wp2_with (first
              | (go_at_call 61; refine (iBoth_any _ _ _ T _ HTy.out).mono ?_; rintro e w16 ⟨rfl, hb16⟩; have Hb16 := Lib.hid (HBy.out.trans (hb16.mono HBy.out.size)); clear hb16))
            go_ret
            exact ⟨rfl, Hb16.out⟩
          · have hc : isChance T = true := by have h := hro; simp only [restOk, Bool.and_eq_true] at h; exact h.1
            have hf := chance_facts hc
            have HRL := Lib.hid (restV_len' hro)
            have hn1 : 1 ≤ T.length := hf.1
            have hn4 : T.length ≤ 4 := hf.2.1
            have HRow := Lib.hid (isMat_rowsLen (chance_mat hc) rfl)
            have HStat : Hid (∀ j, j < T.length → Sm T.length (fun i => (restV T).getD i 0 * en T i j) = isum 0 (T.getD 0 []) * (restV T).getD j 0) := fun j hj => stat hro hj
            have HPos : Hid (∀ i, i < T.length → 1 ≤ (restV T).getD i 0 ∧ (restV T).getD i 0 ≤ 4000000) := fun i hi => rest_pos hro hi
            have HQ := HRy.out
            rw [HRL.out] at HQ
            have HRz2 := Lib.hid HQ
            clear HQ
            obtain ⟨b0, o0, a0, k0, r0, rfl, hc0, hrow0, hget0⟩ := HTy.out.at_ (k := 0) (by omega)
            rw [Nat.add_zero] at hc0
            have hsum : Hid (isum 0 (T.getD 0 []) = isum 0 r0) := by show _ = _; rw [getD_get2 hget0.out]
            have HRow0 := Lib.hid hrow0
            clear hc hf hrow0 hget0
            go_wp2_with (first
              | (go_at_call 63; refine (lTotal_any _ _ _ r0 _ HRow0.out).mono ?_; rintro e w' ⟨rfl, rfl⟩))
            clear hc0
            go_loopw [32] (fun x wr => ∃ j : Nat, j ≤ T.length ∧ x = .int .i64 j ∧ Drew wq wr) (fun x _ => T.length - (intOf x).toNat)
            case atStart => exact ⟨0, Nat.zero_le _, rfl, Drew.refl _⟩
            case round =>
              obtain ⟨j, hj, rfl, mj, rfl⟩ := hrel
              by_cases hjn : j < T.length
              · go_wp2_with fail
                go_loopw [33, 34] (fun vs x wr => ∃ (i : Nat) (y : Int), i ≤ T.length ∧ x = .int .i64 i ∧ vs = .int .i64 y ∧ Hid (y = wrap64 (Sm i (fun i => (restV T).getD i 0 * en T i j))) ∧ Drew wq wr) (fun _ x _ => T.length - (intOf x).toNat)
                case atStart => exact ⟨0, 0, Nat.zero_le _, rfl, rfl, (by show (0 : Int) = wrap64 0; unfold wrap64; omega), (by first | exact Drew.refl _ | exact Drew.mk _ _ | exact (Drew.mk _ _).drewN _)⟩
                case round =>
                  obtain ⟨i, y, hi, rfl, rfl, hr, mi, rfl⟩ := hrel
                  by_cases hin : i < T.length
                  · obtain ⟨b4, o4, x4, e4, hc4, hg4⟩ := HRz2.out.at_ (k := i) hin
                    obtain ⟨b5, o5, a5, k5, r5, e5, hc5, hrow5, hg5⟩ := HTy.out.at_ hin
                    injection e5 with e5
                    injection e5 with e6 e7
                    subst e6
                    subst e7
                    subst e4
                    have hir : i < (restV T).length := by rw [HRL.out]; exact hin
                    have hjr : j < r5.length := by have := HRow.out _ _ hg5.out; omega
                    obtain ⟨b6, o6, x6, rfl, hc6, hg6⟩ := hrow5.at_ hjr
                    have hv : (restV T).getD i 0 * en T i j = x4 * x6 := by rw [en_get hg5.out hg6.out]; simp [List.getD, hg4.out]
                    have HS := Lib.hid (sm_stepw hr.out hv)
                    clear hr hv hrow5 hg4 hg5 hg6
                    go_wp2_with fail
                    go_quiet (fail)
                    go_wp2_with fail
                    go_roundw
                    case rel => exact ⟨i + 1, _, hin, by go_num, rfl, HS.out, (by first | exact Drew.refl _ | exact Drew.mk _ _ | exact (Drew.mk _ _).drewN _)⟩
                    case measure => simp [intOf]; omega
                  · have hit : i = T.length := by omega
                    rw [hit, HStat.out j hjn, hsum.out] at hr
                    obtain ⟨b4, o4, x4, e4, hc4, hg4⟩ := HRz2.out.at_ (k := j) hjn
                    subst e4
                    have hir : j < (restV T).length := by rw [HRL.out]; exact hjn
                    have hx4 : (restV T).getD j 0 = x4 := by simp [List.getD, hg4.out]
                    rw [hx4] at hr
                    have hp := HPos.out j hjn
                    rw [hx4] at hp
                    have hne : (y != wrap64 (isum 0 r0 * x4)) = false := by rw [hr.out]; simp
                    have hlt : decide (x4 < 1) = false := decide_eq_false (by omega)
                    clear hr hg4 hx4 hit hp
                    go_wp2_with fail
                    go_roundw
                    case rel => exact ⟨j + 1, hjn, by go_num, (by first | exact Drew.refl _ | exact Drew.mk _ _ | exact (Drew.mk _ _).drewN _)⟩
                    case measure => simp [intOf]; omega
              · go_wp2_with fail
                go_ret
                exact ⟨rfl, below_drewN HBy.out _⟩
        · have hch := rev_chance hrv
          cases hro : restOk T
          · have hbb := not_both hro
            go_wp2_with (first
              | (go_at_call 59; refine (iIsChance_any _ _ _ (revV B) _ HVy.out).mono ?_; rintro e w' ⟨rfl, rfl⟩)
              | (go_at_call 61; refine (iBoth_any _ _ _ T _ HTy.out).mono ?_; rintro e w16 ⟨rfl, hb16⟩; have Hb16 := Lib.hid (HBy.out.trans (hb16.mono HBy.out.size)); clear hb16))
            go_ret
            exact ⟨rfl, Hb16.out⟩
          · have hc : isChance T = true := by have h := hro; simp only [restOk, Bool.and_eq_true] at h; exact h.1
            have hf := chance_facts hc
            have HRL := Lib.hid (restV_len' hro)
            have hn1 : 1 ≤ T.length := hf.1
            have hn4 : T.length ≤ 4 := hf.2.1
            have HRow := Lib.hid (isMat_rowsLen (chance_mat hc) rfl)
            have HStat : Hid (∀ j, j < T.length → Sm T.length (fun i => (restV T).getD i 0 * en T i j) = isum 0 (T.getD 0 []) * (restV T).getD j 0) := fun j hj => stat hro hj
            have HPos : Hid (∀ i, i < T.length → 1 ≤ (restV T).getD i 0 ∧ (restV T).getD i 0 ≤ 4000000) := fun i hi => rest_pos hro hi
            have HQ := HRy.out
            rw [HRL.out] at HQ
            have HRz2 := Lib.hid HQ
            clear HQ
            obtain ⟨b0, o0, a0, k0, r0, rfl, hc0, hrow0, hget0⟩ := HTy.out.at_ (k := 0) (by omega)
            rw [Nat.add_zero] at hc0
            have hsum : Hid (isum 0 (T.getD 0 []) = isum 0 r0) := by show _ = _; rw [getD_get2 hget0.out]
            have HRow0 := Lib.hid hrow0
            clear hc hf hrow0 hget0
            go_wp2_with (first
              | (go_at_call 59; refine (iIsChance_any _ _ _ (revV B) _ HVy.out).mono ?_; rintro e w' ⟨rfl, rfl⟩)
              | (go_at_call 63; refine (lTotal_any _ _ _ r0 _ HRow0.out).mono ?_; rintro e w' ⟨rfl, rfl⟩))
            clear hc0
            go_loopw [32] (fun x wr => ∃ j : Nat, j ≤ T.length ∧ x = .int .i64 j ∧ Drew wq wr) (fun x _ => T.length - (intOf x).toNat)
            case atStart => exact ⟨0, Nat.zero_le _, rfl, Drew.refl _⟩
            case round =>
              obtain ⟨j, hj, rfl, mj, rfl⟩ := hrel
              by_cases hjn : j < T.length
              · go_wp2_with fail
                go_loopw [33, 34] (fun vs x wr => ∃ (i : Nat) (y : Int), i ≤ T.length ∧ x = .int .i64 i ∧ vs = .int .i64 y ∧ Hid (y = wrap64 (Sm i (fun i => (restV T).getD i 0 * en T i j))) ∧ Drew wq wr) (fun _ x _ => T.length - (intOf x).toNat)
                case atStart => exact ⟨0, 0, Nat.zero_le _, rfl, rfl, (by show (0 : Int) = wrap64 0; unfold wrap64; omega), (by first | exact Drew.refl _ | exact Drew.mk _ _ | exact (Drew.mk _ _).drewN _)⟩
                case round =>
                  obtain ⟨i, y, hi, rfl, rfl, hr, mi, rfl⟩ := hrel
                  by_cases hin : i < T.length
                  · obtain ⟨b4, o4, x4, e4, hc4, hg4⟩ := HRz2.out.at_ (k := i) hin
                    obtain ⟨b5, o5, a5, k5, r5, e5, hc5, hrow5, hg5⟩ := HTy.out.at_ hin
                    injection e5 with e5
                    injection e5 with e6 e7
                    subst e6
                    subst e7
                    subst e4
                    have hir : i < (restV T).length := by rw [HRL.out]; exact hin
                    have hjr : j < r5.length := by have := HRow.out _ _ hg5.out; omega
                    obtain ⟨b6, o6, x6, rfl, hc6, hg6⟩ := hrow5.at_ hjr
                    have hv : (restV T).getD i 0 * en T i j = x4 * x6 := by rw [en_get hg5.out hg6.out]; simp [List.getD, hg4.out]
                    have HS := Lib.hid (sm_stepw hr.out hv)
                    clear hr hv hrow5 hg4 hg5 hg6
                    go_wp2_with fail
                    go_quiet (fail)
                    go_wp2_with fail
                    go_roundw
                    case rel => exact ⟨i + 1, _, hin, by go_num, rfl, HS.out, (by first | exact Drew.refl _ | exact Drew.mk _ _ | exact (Drew.mk _ _).drewN _)⟩
                    case measure => simp [intOf]; omega
                  · have hit : i = T.length := by omega
                    rw [hit, HStat.out j hjn, hsum.out] at hr
                    obtain ⟨b4, o4, x4, e4, hc4, hg4⟩ := HRz2.out.at_ (k := j) hjn
                    subst e4
                    have hir : j < (restV T).length := by rw [HRL.out]; exact hjn
                    have hx4 : (restV T).getD j 0 = x4 := by simp [List.getD, hg4.out]
                    rw [hx4] at hr
                    have hp := HPos.out j hjn
                    rw [hx4] at hp
                    have hne : (y != wrap64 (isum 0 r0 * x4)) = false := by rw [hr.out]; simp
                    have hlt : decide (x4 < 1) = false := decide_eq_false (by omega)
                    clear hr hg4 hx4 hit hp
                    go_wp2_with fail
                    go_roundw
                    case rel => exact ⟨j + 1, hjn, by go_num, (by first | exact Drew.refl _ | exact Drew.mk _ _ | exact (Drew.mk _ _).drewN _)⟩
                    case measure => simp [intOf]; omega
              · go_wp2_with fail
                go_ret
                exact ⟨rfl, below_drewN HBy.out _⟩
  · have hd6 : decide ((xs.length : Int) < 6) = false := decide_eq_false (by omega)
    have HTy := Lib.hid (HTz.out)
    have HRy := Lib.hid (HRz.out)
    have HVy := Lib.hid (HVz.out)
    have HBy := Lib.hid (HBl.out)
    cases hrv : revOk B
    · skip
      cases hro : restOk T
      · have hbb := not_both hro
        go_wp2_with (first
          | (go_at_call 61; refine (iBoth_any _ _ _ T _ HTy.out).mono ?_; rintro e w16 ⟨rfl, hb16⟩; have Hb16 := Lib.hid (HBy.out.trans (hb16.mono HBy.out.size)); clear hb16))
        go_ret
        exact ⟨rfl, Hb16.out⟩
      · have hc : isChance T = true := by have h := hro; simp only [restOk, Bool.and_eq_true] at h; exact h.1
        have hf := chance_facts hc
        have HRL := Lib.hid (restV_len' hro)
        have hn1 : 1 ≤ T.length := hf.1
        have hn4 : T.length ≤ 4 := hf.2.1
        have HRow := Lib.hid (isMat_rowsLen (chance_mat hc) rfl)
        have HStat : Hid (∀ j, j < T.length → Sm T.length (fun i => (restV T).getD i 0 * en T i j) = isum 0 (T.getD 0 []) * (restV T).getD j 0) := fun j hj => stat hro hj
        have HPos : Hid (∀ i, i < T.length → 1 ≤ (restV T).getD i 0 ∧ (restV T).getD i 0 ≤ 4000000) := fun i hi => rest_pos hro hi
        have HQ := HRy.out
        rw [HRL.out] at HQ
        have HRz2 := Lib.hid HQ
        clear HQ
        obtain ⟨b0, o0, a0, k0, r0, rfl, hc0, hrow0, hget0⟩ := HTy.out.at_ (k := 0) (by omega)
        rw [Nat.add_zero] at hc0
        have hsum : Hid (isum 0 (T.getD 0 []) = isum 0 r0) := by show _ = _; rw [getD_get2 hget0.out]
        have HRow0 := Lib.hid hrow0
        clear hc hf hrow0 hget0
        go_wp2_with (first
          | (go_at_call 63; refine (lTotal_any _ _ _ r0 _ HRow0.out).mono ?_; rintro e w' ⟨rfl, rfl⟩))
        clear hc0
        go_loopw [32] (fun x wr => ∃ j : Nat, j ≤ T.length ∧ x = .int .i64 j ∧ Drew w14 wr) (fun x _ => T.length - (intOf x).toNat)
        case atStart => exact ⟨0, Nat.zero_le _, rfl, Drew.refl _⟩
        case round =>
          obtain ⟨j, hj, rfl, mj, rfl⟩ := hrel
          by_cases hjn : j < T.length
          · go_wp2_with fail
            go_loopw [33, 34] (fun vs x wr => ∃ (i : Nat) (y : Int), i ≤ T.length ∧ x = .int .i64 i ∧ vs = .int .i64 y ∧ Hid (y = wrap64 (Sm i (fun i => (restV T).getD i 0 * en T i j))) ∧ Drew w14 wr) (fun _ x _ => T.length - (intOf x).toNat)
            case atStart => exact ⟨0, 0, Nat.zero_le _, rfl, rfl, (by show (0 : Int) = wrap64 0; unfold wrap64; omega), (by first | exact Drew.refl _ | exact Drew.mk _ _ | exact (Drew.mk _ _).drewN _)⟩
            case round =>
              obtain ⟨i, y, hi, rfl, rfl, hr, mi, rfl⟩ := hrel
              by_cases hin : i < T.length
              · obtain ⟨b4, o4, x4, e4, hc4, hg4⟩ := HRz2.out.at_ (k := i) hin
                obtain ⟨b5, o5, a5, k5, r5, e5, hc5, hrow5, hg5⟩ := HTy.out.at_ hin
                injection e5 with e5
                injection e5 with e6 e7
                subst e6
                subst e7
                subst e4
                have hir : i < (restV T).length := by rw [HRL.out]; exact hin
                have hjr : j < r5.length := by have := HRow.out _ _ hg5.out; omega
                obtain ⟨b6, o6, x6, rfl, hc6, hg6⟩ := hrow5.at_ hjr
                have hv : (restV T).getD i 0 * en T i j = x4 * x6 := by rw [en_get hg5.out hg6.out]; simp [List.getD, hg4.out]
                have HS := Lib.hid (sm_stepw hr.out hv)
                clear hr hv hrow5 hg4 hg5 hg6
                go_wp2_with fail
                go_quiet (fail)
                go_wp2_with fail
                go_roundw
                case rel => exact ⟨i + 1, _, hin, by go_num, rfl, HS.out, (by first | exact Drew.refl _ | exact Drew.mk _ _ | exact (Drew.mk _ _).drewN _)⟩
                case measure => simp [intOf]; omega
              · have hit : i = T.length := by omega
                rw [hit, HStat.out j hjn, hsum.out] at hr
                obtain ⟨b4, o4, x4, e4, hc4, hg4⟩ := HRz2.out.at_ (k := j) hjn
                subst e4
                have hir : j < (restV T).length := by rw [HRL.out]; exact hjn
                have hx4 : (restV T).getD j 0 = x4 := by simp [List.getD, hg4.out]
                rw [hx4] at hr
                have hp := HPos.out j hjn
                rw [hx4] at hp
                have hne : (y != wrap64 (isum 0 r0 * x4)) = false := by rw [hr.out]; simp
                have hlt : decide (x4 < 1) = false := decide_eq_false (by omega)
                clear hr hg4 hx4 hit hp
                go_wp2_with fail
                go_roundw
                case rel => exact ⟨j + 1, hjn, by go_num, (by first | exact Drew.refl _ | exact Drew.mk _ _ | exact (Drew.mk _ _).drewN _)⟩
                case measure => simp [intOf]; omega
          · go_wp2_with fail
            go_ret
            exact ⟨rfl, below_drewN HBy.out _⟩
    · have hch := rev_chance hrv
      cases hro : restOk T
      · have hbb := not_both hro
        go_wp2_with (first
          | (go_at_call 59; refine (iIsChance_any _ _ _ (revV B) _ HVy.out).mono ?_; rintro e w' ⟨rfl, rfl⟩)
          | (go_at_call 61; refine (iBoth_any _ _ _ T _ HTy.out).mono ?_; rintro e w16 ⟨rfl, hb16⟩; have Hb16 := Lib.hid (HBy.out.trans (hb16.mono HBy.out.size)); clear hb16))
        go_ret
        exact ⟨rfl, Hb16.out⟩
      · have hc : isChance T = true := by have h := hro; simp only [restOk, Bool.and_eq_true] at h; exact h.1
        have hf := chance_facts hc
        have HRL := Lib.hid (restV_len' hro)
        have hn1 : 1 ≤ T.length := hf.1
        have hn4 : T.length ≤ 4 := hf.2.1
        have HRow := Lib.hid (isMat_rowsLen (chance_mat hc) rfl)
        have HStat : Hid (∀ j, j < T.length → Sm T.length (fun i => (restV T).getD i 0 * en T i j) = isum 0 (T.getD 0 []) * (restV T).getD j 0) := fun j hj => stat hro hj
        have HPos : Hid (∀ i, i < T.length → 1 ≤ (restV T).getD i 0 ∧ (restV T).getD i 0 ≤ 4000000) := fun i hi => rest_pos hro hi
        have HQ := HRy.out
        rw [HRL.out] at HQ
        have HRz2 := Lib.hid HQ
        clear HQ
        obtain ⟨b0, o0, a0, k0, r0, rfl, hc0, hrow0, hget0⟩ := HTy.out.at_ (k := 0) (by omega)
        rw [Nat.add_zero] at hc0
        have hsum : Hid (isum 0 (T.getD 0 []) = isum 0 r0) := by show _ = _; rw [getD_get2 hget0.out]
        have HRow0 := Lib.hid hrow0
        clear hc hf hrow0 hget0
        go_wp2_with (first
          | (go_at_call 59; refine (iIsChance_any _ _ _ (revV B) _ HVy.out).mono ?_; rintro e w' ⟨rfl, rfl⟩)
          | (go_at_call 63; refine (lTotal_any _ _ _ r0 _ HRow0.out).mono ?_; rintro e w' ⟨rfl, rfl⟩))
        clear hc0
        go_loopw [32] (fun x wr => ∃ j : Nat, j ≤ T.length ∧ x = .int .i64 j ∧ Drew w14 wr) (fun x _ => T.length - (intOf x).toNat)
        case atStart => exact ⟨0, Nat.zero_le _, rfl, Drew.refl _⟩
        case round =>
          obtain ⟨j, hj, rfl, mj, rfl⟩ := hrel
          by_cases hjn : j < T.length
          · go_wp2_with fail
            go_loopw [33, 34] (fun vs x wr => ∃ (i : Nat) (y : Int), i ≤ T.length ∧ x = .int .i64 i ∧ vs = .int .i64 y ∧ Hid (y = wrap64 (Sm i (fun i => (restV T).getD i 0 * en T i j))) ∧ Drew w14 wr) (fun _ x _ => T.length - (intOf x).toNat)
            case atStart => exact ⟨0, 0, Nat.zero_le _, rfl, rfl, (by show (0 : Int) = wrap64 0; unfold wrap64; omega), (by first | exact Drew.refl _ | exact Drew.mk _ _ | exact (Drew.mk _ _).drewN _)⟩
            case round =>
              obtain ⟨i, y, hi, rfl, rfl, hr, mi, rfl⟩ := hrel
              by_cases hin : i < T.length
              · obtain ⟨b4, o4, x4, e4, hc4, hg4⟩ := HRz2.out.at_ (k := i) hin
                obtain ⟨b5, o5, a5, k5, r5, e5, hc5, hrow5, hg5⟩ := HTy.out.at_ hin
                injection e5 with e5
                injection e5 with e6 e7
                subst e6
                subst e7
                subst e4
                have hir : i < (restV T).length := by rw [HRL.out]; exact hin
                have hjr : j < r5.length := by have := HRow.out _ _ hg5.out; omega
                obtain ⟨b6, o6, x6, rfl, hc6, hg6⟩ := hrow5.at_ hjr
                have hv : (restV T).getD i 0 * en T i j = x4 * x6 := by rw [en_get hg5.out hg6.out]; simp [List.getD, hg4.out]
                have HS := Lib.hid (sm_stepw hr.out hv)
                clear hr hv hrow5 hg4 hg5 hg6
                go_wp2_with fail
                go_quiet (fail)
                go_wp2_with fail
                go_roundw
                case rel => exact ⟨i + 1, _, hin, by go_num, rfl, HS.out, (by first | exact Drew.refl _ | exact Drew.mk _ _ | exact (Drew.mk _ _).drewN _)⟩
                case measure => simp [intOf]; omega
              · have hit : i = T.length := by omega
                rw [hit, HStat.out j hjn, hsum.out] at hr
                obtain ⟨b4, o4, x4, e4, hc4, hg4⟩ := HRz2.out.at_ (k := j) hjn
                subst e4
                have hir : j < (restV T).length := by rw [HRL.out]; exact hjn
                have hx4 : (restV T).getD j 0 = x4 := by simp [List.getD, hg4.out]
                rw [hx4] at hr
                have hp := HPos.out j hjn
                rw [hx4] at hp
                have hne : (y != wrap64 (isum 0 r0 * x4)) = false := by rw [hr.out]; simp
                have hlt : decide (x4 < 1) = false := decide_eq_false (by omega)
                clear hr hg4 hx4 hit hp
                go_wp2_with fail
                go_roundw
                case rel => exact ⟨j + 1, hjn, by go_num, (by first | exact Drew.refl _ | exact Drew.mk _ _ | exact (Drew.mk _ _).drewN _)⟩
                case measure => simp [intOf]; omega
          · go_wp2_with fail
            go_ret
            exact ⟨rfl, below_drewN HBy.out _⟩

namespace fnChances
open Go.ChangeShapes Go.WideShapes Go.ChangeAt
open Go.ChangeMaps (open_string shut_string)
set_option maxRecDepth 100000 in
theorem lifted (os : Os) (started : os.Started) (H : Type) (enc : TypeId × Value → H) :
    ReturnsInHanded {} Try.checked os 14 .any (Rows.fnChancesSpec.pre6 enc Try.prog Try.f14 Rows.fnChancesRow.domain false) (Rows.fnChancesSpec.post enc Try.prog Try.f14 false true false false) := by
  refine returnsInHanded_of_change (C := Try.checked) ownKnobNone started (by kernel_rfl) Try.func14
    (ChangeSpec.witness6 (enc := enc) (C := Try.checked) false ⟨#[], #[.slice none 0 0], []⟩ 8 (by kernel_rfl) (by kernel_rfl) (by kernel_rfl) (by kernel_rfl)) ?_
  intro W base args ds gs before hval0 hW hcnd _
  have hval : ∀ (j : Nat) t v, Try.f14.params[j]? = some t → args[j]? = some v → Value.okWide Try.prog W .any base t v := hval0
  have hW' := hW
  obtain ⟨p, q, hA0, hV, rfl, hfz, hnd⟩ := hW
  have hA : DataW.TrodAll enc Try.prog W 0 (fun _ => true) true Try.f14.params.toList args.toList ds p := hA0
  rw [Try.params14] at hA hval
  obtain ⟨v0, vs0, d0, ds0, p0, q0, hargs, rfl, rfl, h0, r0⟩ := trodAll_cons hA
  obtain ⟨rfl, rfl, rfl⟩ := trodAll_nil r0
  obtain rfl : args = #[v0] := by cases args; simp_all
  obtain ⟨rfl, rfl⟩ := trodVars_none hV
  obtain ⟨a0, len0, cap0, rfl⟩ := okWide_slice Try.underlying63 (hval 0 63 v0 rfl rfl)
  have k0 := h0
  have lt0 : ∀ x ∈ p0, x.block < W.heap.size := by obtain ⟨m, hm⟩ := k0; exact DataW.trod_lt m _ _ _ hm
  obtain ⟨z0, w0⟩ := open_bytesIn h0
  clear hA0 hval0
  refine (fnChances_walk a0 len0 cap0 z0 W w0).mono fun e W' ⟨he, bel⟩ => ?_
  subst he
  exact ⟨_, rfl, _, _, _, [], _, [], hW', trodAll_mk1 (shut_bool Try.underlying4 _), (trodAll_cons_mk (Below.trod laidOutYes (by kernel_rfl) (of_decide_eq_true (by kernel_rfl)) k0 bel lt0) trodAll_mk0), rfl, bel.frame _, fun h => by cases h⟩

theorem over : Rows.fnChancesRow.holds Try.pinned (OpenSpec.ofChange Rows.fnChancesSpec) :=
  OpenClaim.holds_of_wide 14 Try.f14 rfl rfl rfl rfl rfl rfl rfl ⟨rfl, rfl, rfl, rfl, rfl⟩ rfl rfl rfl rfl rfl (by kernel_rfl) Try.func14 (by kernel_rfl)
    (of_decide_eq_true (by kernel_rfl)) (by unfold Func.isWrapper; first | (rw [if_pos (by decide +kernel)]; kernel_rfl) | (rw [if_neg (by decide +kernel)]; exact ⟨rfl, rfl⟩))
    (fun os started H enc _ => lifted os started H enc)

theorem proved : Rows.FnChancesSaid := over
end fnChances

#print axioms fnChances.proved
end Go.Proofs.Ytjkpndhfdlnpdaa
