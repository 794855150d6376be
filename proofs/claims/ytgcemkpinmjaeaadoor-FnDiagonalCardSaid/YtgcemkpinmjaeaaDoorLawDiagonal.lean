/- Proved here: the law FnDiagonal returns true at every input, and leaves its argument as it was. No condition. -/
import Derived.Test.YtgcemkpinmjaeaaDoorRows
import Derived.Test.YtgcemkpinmjaeaaDoorTie
import Derived.Test.YtgcemkpinmjaeaaDoorCards
import Derived.BigQuiet
import Derived.Test.YtgcemkpinmjaeaaDoorProg
import Derived.Test.YtgcemkpinmjaeaaDoorLawHelp
import Derived.Test.YtgcemkpinmjaeaaDoorDoorWrap
import Derived.Test.YtgcemkpinmjaeaaDoorD22b
import Derived.Test.YtgcemkpinmjaeaaDoorSDetOf
import Derived.Test.YtgcemkpinmjaeaaDoorDgG
import Derived.Test.YtgcemkpinmjaeaaDoorIGrp
import Derived.Test.YtgcemkpinmjaeaaDoorSGrp
import Derived.Test.YtgcemkpinmjaeaaDoorIDiagonalOf
import Derived.Test.YtgcemkpinmjaeaaDoorSDiagonalOf
import Derived.Test.YtgcemkpinmjaeaaDoorIMinorsOf
import Derived.Test.YtgcemkpinmjaeaaDoorSMinorsOf
import Derived.Test.YtgcemkpinmjaeaaDoorIRankOf
import Derived.Test.YtgcemkpinmjaeaaDoorSRankOf
import Derived.Test.YtgcemkpinmjaeaaDoorSGroupSize
import Derived.Test.YtgcemkpinmjaeaaDoorIGroupSize
import Derived.Test.YtgcemkpinmjaeaaDoorBase
namespace Go.Proofs.YtgcemkpinmjaeaaDoor
open Go.RowKit
set_option linter.all false
theorem rankF_le (t : List (List Int)) : ∀ n, rankF t n ≤ n
  | 0 => Nat.le_refl _
  | n + 1 => by
    have := rankF_le t n
    unfold rankF
    split <;> omega
set_option maxHeartbeats 25600000 in
set_option maxRecDepth 100000 in
theorem fnDiagonal_walk (p0 : Option Addr) (n0 c0 : Nat) (z0 : List Int) (w : World) (h0 : BytesIn w p0 n0 z0) (hm : PowV w) :
    Calls Tryd.prog 3 #[.slice p0 n0 c0] w fun e w' => e = .returned (.bool true) ∧ Below w.heap.size w w' := by
  by_cases hbig : 1048576 < n0
  · go_enter Tryd.func3, Tryd.ntmps3
    go_wp2_with (go_at_call 4; refine (lBig_yes _ _ _ _ hbig).mono ?_; rintro e w' ⟨rfl, rfl⟩)
    go_ret
    exact ⟨rfl, Below.refl _ _⟩
  have HY : Hid (Bytes w p0 n0) := ⟨by omega, h0.cells⟩
  clear h0
  go_enter Tryd.func3, Tryd.ntmps3
  go_wp2_with (go_at_call 4; refine (lBig_no _ _ _ _ (by omega)).mono ?_; rintro e w' ⟨rfl, rfl⟩)
  refine (drawDiag_any _ _ _ _ HY.out).mono ?_
  rintro e w1 ⟨vm, T, rfl, hom, hb1⟩
  obtain ⟨am, cm, rfl, hrm⟩ := hom.form
  clear hom
  go_wp2_with fail
  refine (iDiagonalOf_any _ _ _ T _ hrm).mono ?_
  rintro e w2 ⟨vd, rfl, hod, hb2⟩
  obtain ⟨ad, cd, rfl, hrd⟩ := hod.form
  clear hod
  generalize hsm : smith T = sm
  have HSM := Lib.hid hsm
  clear hsm
  go_wp2_with fail
  refine (sDiagonalOf_any _ _ _ T _ (hrm.keep hb2)).mono ?_
  rintro e w3 ⟨vw, rfl, how, hb3⟩
  obtain ⟨aw, cw, rfl, hrw⟩ := how.form
  clear how
  rw [HSM.out]
  go_wp2_with fail
  refine (drawMinors_any _ _ _ _ (HY.out.keep (step2 (step2 hb1 hb2) hb3))).mono ?_
  rintro e w4 ⟨vq, A, k, rfl, hoq, hb4⟩
  obtain ⟨aq, cq, rfl, hrq⟩ := hoq.form
  clear hoq
  go_wp2_with fail
  refine (drawRank_any _ _ _ _ (HY.out.keep (step2 (step2 (step2 hb1 hb2) hb3) hb4))).mono ?_
  rintro e w5 ⟨vr, R, rfl, hor, hb5⟩
  obtain ⟨ar, cr, rfl, hrr⟩ := hor.form
  clear hor
  go_wp2_with fail
  refine (drawText_any _ _ _ _ (HY.out.keep (step2 (step2 (step2 (step2 hb1 hb2) hb3) hb4) hb5))).mono ?_
  rintro e w6 ⟨vg, g, rfl, hog, hgs, hb6⟩
  obtain ⟨ag, cg, rfl, hrg⟩ := hog.form
  clear hog
  have hg1 : g.length ≤ 1048576 := by omega
  have t1 : (sm != sm) = false := by simp
  have t2 := eqL_self (diagV T)
  have t3 : (minorsOf A k != minorsOf A k) = false := by simp
  have t4 : (rankOf R != rankOf R) = false := by simp
  have t5 : (gsize g != gsize g) = false := by simp
  go_wp2_with fail
  refine (ofD (sameInts_any _ _ _ (diagV T) _ _ _ (diagV T) _ (hrd.keep (step2 (step2 (step2 hb3 hb4) hb5) hb6)) (hrw.keep (step2 (step2 hb4 hb5) hb6)))).mono ?_
  rintro e w7 ⟨rfl, hb7⟩
  go_wp2_with fail
  refine (iMinorsOf_any _ _ _ A k _ (hrq.keep (step2 (step2 hb5 hb6) hb7))).mono ?_
  rintro e w8 ⟨rfl, hb8⟩
  go_wp2_with fail
  refine (sMinorsOf_any _ _ _ A k _ (hrq.keep (step2 (step2 (step2 hb5 hb6) hb7) hb8))).mono ?_
  rintro e w9 ⟨rfl, hb9⟩
  go_wp2_with fail
  refine (iRankOf_any _ _ _ R _ (hrr.keep (step2 (step2 (step2 hb6 hb7) hb8) hb9))).mono ?_
  rintro e w10 ⟨rfl, hb10⟩
  go_wp2_with fail
  refine (sRankOf_any _ _ _ R _ (hrr.keep (step2 (step2 (step2 (step2 hb6 hb7) hb8) hb9) hb10))).mono ?_
  rintro e w11 ⟨rfl, hb11⟩
  go_wp2_with fail
  refine (iGroupText_any _ _ _ g _ (hrg.keep (step2 (step2 (step2 (step2 hb7 hb8) hb9) hb10) hb11)) hg1 hgs.2 (hm.keep (step2 (step2 (step2 (step2 (step2 (step2 (step2 (step2 (step2 (step2 hb1 hb2) hb3) hb4) hb5) hb6) hb7) hb8) hb9) hb10) hb11))).mono ?_
  rintro e w12 ⟨rfl, hb12⟩
  go_wp2_with fail
  refine (sGroupText_any _ _ _ g _ (hrg.keep (step2 (step2 (step2 (step2 (step2 hb7 hb8) hb9) hb10) hb11) hb12)) hg1 hgs.2).mono ?_
  rintro e w13 ⟨rfl, hb13⟩
  go_wp2_with fail
  refine (ofL (iGroupSize_any _ _ _ g _ (hrg.keep (step2 (step2 (step2 (step2 (step2 (step2 hb7 hb8) hb9) hb10) hb11) hb12) hb13)))).mono ?_
  rintro e w14 ⟨rfl, hb14⟩
  go_wp2_with fail
  refine (ofL (sGroupSize_any _ _ _ g _ (hrg.keep (step2 (step2 (step2 (step2 (step2 (step2 (step2 hb7 hb8) hb9) hb10) hb11) hb12) hb13) hb14)))).mono ?_
  rintro e w15 ⟨rfl, hb15⟩
  clear t1 t3 t4 t5 hgs hg1
  cases sm
  · have hd0 : (((diagV T).length : Int) == 0) = true := by simp [diagV, HSM.out]
    have hr0 : (rankOf T == -1) = true := by simp [rankOf, HSM.out]
    go_wp2_with fail
    refine (iRankOf_any _ _ _ T _ (hrm.keep (step2 (step2 (step2 (step2 (step2 (step2 (step2 (step2 (step2 (step2 (step2 (step2 (step2 hb2 hb3) hb4) hb5) hb6) hb7) hb8) hb9) hb10) hb11) hb12) hb13) hb14) hb15))).mono ?_
    rintro e w16 ⟨rfl, hb16⟩
    go_wp2_with fail
    go_ret
    exact ⟨rfl, (step2 (step2 (step2 (step2 (step2 (step2 (step2 (step2 (step2 (step2 (step2 (step2 (step2 (step2 (step2 hb1 hb2) hb3) hb4) hb5) hb6) hb7) hb8) hb9) hb10) hb11) hb12) hb13) hb14) hb15) hb16)⟩
  · have hs := HSM.out
    have hl := smith_len hs
    have hbn := smith_bnd hs
    have hdl : (diagV T).length = T.length := by simp [diagV, hs, diagN_len]
    have HG : Hid (∀ j, j < T.length → (diagV T)[j]? = some (dgAt T j)) := by
      show ∀ j, _
      intro j hj
      simp only [diagV, hs, if_true]
      exact diag_get hl.2 hj
    have hrk : ((rankF T T.length : Int) == rankOf T) = true := by simp [rankOf, hs]
    have htd := trn_diag hs
    have hts := trn_smith hs
    have HD := Lib.hid (hrd.keep (step2 (step2 (step2 (step2 (step2 (step2 (step2 (step2 (step2 (step2 (step2 (step2 hb3 hb4) hb5) hb6) hb7) hb8) hb9) hb10) hb11) hb12) hb13) hb14) hb15))
    have HM := Lib.hid (hrm.keep (step2 (step2 (step2 (step2 (step2 (step2 (step2 (step2 (step2 (step2 (step2 (step2 (step2 hb2 hb3) hb4) hb5) hb6) hb7) hb8) hb9) hb10) hb11) hb12) hb13) hb14) hb15))
    have HBZ := Lib.hid (step2 (step2 (step2 (step2 (step2 (step2 (step2 (step2 (step2 (step2 (step2 (step2 (step2 (step2 hb1 hb2) hb3) hb4) hb5) hb6) hb7) hb8) hb9) hb10) hb11) hb12) hb13) hb14) hb15)
    have hml : Hid (T.length = _) := (hrm.keep (step2 (step2 (step2 (step2 (step2 (step2 (step2 (step2 (step2 (step2 (step2 (step2 (step2 hb2 hb3) hb4) hb5) hb6) hb7) hb8) hb9) hb10) hb11) hb12) hb13) hb14) hb15)).1
    generalize diagV T = D at t2 hdl HG htd HD ⊢
    have HDL := Lib.hid hdl
    have HS := Lib.hid hs
    have HBN := Lib.hid hbn
    have HTD := Lib.hid htd
    have HTS := Lib.hid hts
    have hm0 : Hid (minorsI T 0 = 1) := minors0 hl.2
    clear hdl hs hbn htd hts
    go_wp2_with fail
    go_loopw [12, 13, 14] (fun a b x wr => ∃ j : Nat, j ≤ D.length ∧ a = .int .i64 (minorsI T j) ∧ b = .int .i64 (rankF T j) ∧ x = .int .i64 j ∧ Drew w15 wr) (fun _ _ x _ => D.length - (intOf x).toNat)
    case atStart => exact ⟨0, Nat.zero_le _, by rw [hm0.out], rfl, rfl, Drew.refl _⟩
    case round =>
      obtain ⟨j, hj, rfl, rfl, rfl, ⟨dn, rfl⟩⟩ := hrel
      by_cases hlt : j < D.length
      · have hjT : j < T.length := by have := HDL.out; omega
        have hy := HG.out j hjT
        have hnn := dgn_nn HBN.out hl.2 hjT
        have hmul := dgn_mul HBN.out hl.2 hjT
        have hrs := rk_step HBN.out hl.2 hjT
        have hsm := minorsI_small HBN.out (k := j + 1) (by omega)
        have hdv : ∀ q, q + 1 = j → dgAt T q ∣ dgAt T j := by
          rintro q rfl
          exact dgn_dvd HBN.out hl.2 hjT
        have hzq : ∀ q, q + 1 = j → D[q]? = some (dgAt T q) := fun q hq => HG.out q (by omega)
        generalize dgAt T j = y at hy hnn hmul hrs hdv
        obtain ⟨b1, o1, y', rfl, hcy, hgy⟩ := HD.out.at_ hlt
        have e : y' = y := by have := hgy.out; rw [hy] at this; injection this with this; exact this.symm
        subst e
        clear hgy hy
        have hneg : decide (y' < 0) = false := decide_eq_false (by omega)
        have hw : wrap64 (minorsI T j * y') = minorsI T (j + 1) := by rw [hmul]; have := hsm.2.1; have := hsm.2.2; unfold wrap64; omega
        have HW := Lib.hid hw
        have HRS := Lib.hid hrs
        clear hmul hrs hw hsm
        generalize hgj : minorsI T j = gj at HW
        generalize hgj2 : minorsI T (j + 1) = gk at HW
        have HGK := Lib.hid hgj2
        clear hgj hgj2
        have hrjb : rankF T j ≤ 100 := by have := rankF_le T j; omega
        have hjb : j ≤ 4 := by omega
        by_cases hj0 : j = 0
        · have hjp : decide ((0 : Int) < (j : Int)) = false := decide_eq_false (by omega)
          have hjn : decide (0 < j) = false := decide_eq_false (by omega)
          clear hj0
          by_cases hy0 : y' = 0
          · have hpos : decide (0 < y') = false := decide_eq_false (by omega)
            have HNX := Lib.hid (HRS.out.1 (by omega))
            (try clear hy0)
            (try clear hyz)
            generalize hrj : rankF T j = rj at hrjb ⊢
            have HRJ := Lib.hid hrj
            clear hrj HRS hnn hdv hzq hj
            go_wp2_with fail
            go_quiet (fail)
            all_goals (go_wp2_with fail)
            all_goals refine ⟨?_, ?_⟩
            all_goals first
              | exact ⟨j + 1, hlt, by first | rw [HW.out, HGK.out] | rw [wrap_i64_eq, HW.out, HGK.out], by rw [HNX.out, HRJ.out], by go_num, Drew.mk _ _⟩
              | (simp [intOf]; omega)
          · have hpos : decide (0 < y') = true := decide_eq_true (by omega)
            have HNX := Lib.hid (HRS.out.2 (by omega))
            generalize hrj : rankF T j = rj at hrjb ⊢
            have HRJ := Lib.hid hrj
            clear hrj HRS hnn hdv hzq hj
            go_wp2_with fail
            go_quiet (fail)
            all_goals (go_wp2_with fail)
            all_goals refine ⟨?_, ?_⟩
            all_goals first
              | exact ⟨j + 1, hlt, by first | rw [HW.out, HGK.out] | rw [wrap_i64_eq, HW.out, HGK.out], by have h1 := HNX.out.1; have h2 := HNX.out.2; have h3 := HRJ.out; rw [h1]; (try rw [← h2, h3]); first | rfl | (simp; omega) | omega, by go_num, Drew.mk _ _⟩
              | (simp [intOf]; omega)
        · obtain ⟨q, hq⟩ : ∃ q, q + 1 = j := ⟨j - 1, by omega⟩
          obtain ⟨b2, o2, z, e, hcz, hgz⟩ := HD.out.at_ (k := q) (by omega)
          cases e
          have hzv : z = dgAt T q := by have h := hgz.out; rw [hzq q hq] at h; injection h with h; exact h.symm
          have hzd : z ∣ y' := by rw [hzv]; exact hdv q hq
          have hjp : decide ((0 : Int) < (j : Int)) = true := decide_eq_true (by omega)
          have hjn : decide (0 < j) = true := decide_eq_true (by omega)
          have hjq : IntKind.i64.wrap ((j : Int) - 1) = (q : Int) := by rw [wrap_i64_eq]; unfold wrap64; omega
          have hjq2 : wrap64 ((j : Int) - 1) = (q : Int) := by unfold wrap64; omega
          have hql : q < D.length := by omega
          clear hgz hzv hj0
          have HQ := Lib.hid hq
          clear hq
          by_cases hz : z = 0
          · have hyz : y' = 0 := by rw [hz] at hzd; exact Int.zero_dvd.1 hzd
            have z1 : (z == 0) = true := by rw [hz]; rfl
            have z2 : (z != 0) = false := by rw [hz]; rfl
            have z3 : (y' != 0) = false := by rw [hyz]; rfl
            clear hz hzd
            have hpos : decide (0 < y') = false := decide_eq_false (by omega)
            have HNX := Lib.hid (HRS.out.1 (by omega))
            (try clear hy0)
            (try clear hyz)
            generalize hrj : rankF T j = rj at hrjb ⊢
            have HRJ := Lib.hid hrj
            clear hrj HRS hnn hdv hzq hj
            go_wp2_with fail
            go_quiet (fail)
            all_goals (go_wp2_with fail)
            all_goals refine ⟨?_, ?_⟩
            all_goals first
              | exact ⟨j + 1, hlt, by first | rw [HW.out, HGK.out] | rw [wrap_i64_eq, HW.out, HGK.out], by rw [HNX.out, HRJ.out], by go_num, Drew.mk _ _⟩
              | (simp [intOf]; omega)
          · have z1 : (z == 0) = false := beq_eq_false_iff_ne.2 hz
            have z2 : (z != 0) = true := by simp [hz]
            have z4 : (y'.tmod z != 0) = false := by rw [Int.tmod_eq_zero_of_dvd hzd]; rfl
            have z5 : (y' % z != 0) = false := by rw [Int.emod_eq_zero_of_dvd hzd]; rfl
            clear hzd
            by_cases hy0 : y' = 0
            · have hpos : decide (0 < y') = false := decide_eq_false (by omega)
              have HNX := Lib.hid (HRS.out.1 (by omega))
              (try clear hy0)
              (try clear hyz)
              generalize hrj : rankF T j = rj at hrjb ⊢
              have HRJ := Lib.hid hrj
              clear hrj HRS hnn hdv hzq hj
              go_wp2_with fail
              go_quiet (fail)
              all_goals (go_wp2_with fail)
              all_goals refine ⟨?_, ?_⟩
              all_goals first
                | exact ⟨j + 1, hlt, by first | rw [HW.out, HGK.out] | rw [wrap_i64_eq, HW.out, HGK.out], by rw [HNX.out, HRJ.out], by go_num, Drew.mk _ _⟩
                | (simp [intOf]; omega)
            · have hpos : decide (0 < y') = true := decide_eq_true (by omega)
              have HNX := Lib.hid (HRS.out.2 (by omega))
              generalize hrj : rankF T j = rj at hrjb ⊢
              have HRJ := Lib.hid hrj
              clear hrj HRS hnn hdv hzq hj
              go_wp2_with fail
              go_quiet (fail)
              all_goals (go_wp2_with fail)
              all_goals refine ⟨?_, ?_⟩
              all_goals first
                | exact ⟨j + 1, hlt, by first | rw [HW.out, HGK.out] | rw [wrap_i64_eq, HW.out, HGK.out], by have h1 := HNX.out.1; have h2 := HNX.out.2; have h3 := HRJ.out; rw [h1]; (try rw [← h2, h3]); first | rfl | (simp; omega) | omega, by go_num, Drew.mk _ _⟩
                | (simp [intOf]; omega)
      · have hjl : j = T.length := by have := HDL.out; omega
        subst hjl
        have hb16 := below_drewN (Below.refl w15.heap.size w15) dn
        generalize w15.drewN dn = w16 at hb16 ⊢
        go_wp2_with fail
        refine (sDetOf_in _ _ _ T _ (HM.out.keep hb16) HS.out).mono ?_
        rintro e w17 ⟨rfl, hb17⟩
        have hdd := minors_det (t := T) rfl (smith_rowsLen HS.out rfl) hl.1 hl.2
        have hsm := minorsI_small HBN.out (k := T.length) hl.2
        generalize det T.length T = dd at hdd ⊢
        have HDD := Lib.hid hdd
        have HSMM := Lib.hid hsm
        clear hdd hsm
        go_upto_if 165 with fail
        go_cut [15] (fun v wx => v = .int .i64 (minorsI T T.length) ∧ Below w17.heap.size w17 wx)
        case first =>
          have h1 := HSMM.out.1
          have h2 := HSMM.out.2.1
          have h3 := HSMM.out.2.2
          by_cases hneg : dd < 0
          · have d1 : decide (dd < 0) = true := decide_eq_true hneg
            go_wp2_with fail
            go_meet
            have hdd := HDD.out
            exact ⟨congrArg (Value.int .i64) (by first | omega | (unfold wrap64; omega) | (rw [wrap_i64_eq]; unfold wrap64; omega)), Below.refl _ _⟩
          · have d1 : decide (dd < 0) = false := decide_eq_false hneg
            go_wp2_with fail
            go_meet
            have hdd := HDD.out
            exact ⟨congrArg (Value.int .i64) (by omega), Below.refl _ _⟩
        case rest =>
        obtain ⟨rfl, hb18⟩ := hcut
        generalize wc = w18 at hb18 ⊢
        have HMX := Lib.hid (HM.out.keep (step2 (step2 hb16 hb17) hb18))
        have HE := Lib.hid (OIntss.empty w18 w18.heap.size (Nat.le_refl _))
        have HBE := Lib.hid ((Below.refl w18.heap.size w18).alloc (Nat.le_refl _) (.cells #[] 26))
        have hmb := HMX.out.2.1
        go_wp2_with fail
        go_loopw [17, 18] (fun v x wr => ∃ i : Nat, i ≤ T.length ∧ x = .int .i64 i ∧ OIntss wr w18.heap.size v i ((trn T).take i) ∧ Below w18.heap.size w18 wr) (fun _ x _ => T.length - (intOf x).toNat)
        case atStart => exact ⟨0, Nat.zero_le _, rfl, HE.out, HBE.out⟩
        case round =>
          obtain ⟨i, hi, rfl, hown, hbl⟩ := hrel
          obtain ⟨wo, rfl⟩ : ∃ wo : World, wo = wr := ⟨_, rfl⟩
          have HO := Lib.hid hown
          have HBO := Lib.hid hbl
          have HMO := Lib.hid (HMX.out.keep hbl)
          clear hown hbl
          by_cases hlt : i < T.length
          · have HTR : Hid ((trn T)[i]? = some ((List.range T.length).map fun j => el T j i)) := by show _ = _; simp [trn, hlt]
            have HRE := Lib.hid (OInts.empty wo wo.heap.size (Nat.le_refl _))
            have HRB := Lib.hid ((Below.refl wo.heap.size wo).alloc (Nat.le_refl _) (.cells #[] 3))
            go_wp2_with fail
            go_loopw [19, 20] (fun v' x wx => ∃ j : Nat, j ≤ T.length ∧ x = .int .i64 j ∧ OInts wx wo.heap.size v' j (((List.range T.length).map fun j => el T j i).take j) ∧ Below wo.heap.size wo wx) (fun _ x _ => T.length - (intOf x).toNat)
            case atStart => exact ⟨0, Nat.zero_le _, rfl, HRE.out, HRB.out⟩
            case round =>
              obtain ⟨j, hj, rfl, hline, hbx⟩ := hrel
              have HLI := Lib.hid hline
              have HBX := Lib.hid hbx
              have HMM := Lib.hid (HMO.out.keep hbx)
              clear hline hbx HRE HRB
              by_cases hjn : j < T.length
              · obtain ⟨b1, o1, a1, c1, r, rfl, hcr, hrow, hgr⟩ := HMM.out.at_ hjn
                have hrl := (smith_row HS.out hgr.out).1
                obtain ⟨b2, o2, x, rfl, hcx, hgx⟩ := hrow.at_ (k := i) (by rw [hrl]; exact hlt)
                have hir : i < r.length := by rw [hrl]; exact hlt
                have HN : Hid (((List.range T.length).map fun j => el T j i)[j]? = some x) := by
                  have e1 : el T j i = x := by
                    unfold el
                    rw [show T.getD j [] = r by simp only [List.getD, hgr.out, Option.getD_some]]
                    simp only [List.getD, hgx.out, Option.getD_some]
                  show _ = _
                  simp [hjn, e1]
                clear hrl hgx hgr
                go_wp2_with (at_builtin; refine wpList_push_one wr _ rfl (.tmp 182) (.tmp 190) rfl wo.heap.size _ _ _ rfl HLI.out (by omega) (by exact HBX.out.size) _ rfl rfl ?_; intro v5 w5 ho5 hb5; have HO5 := Lib.hid ho5; have HB5 := Lib.hid (HBX.out.trans hb5); clear ho5 hb5)
                go_roundw
                case rel =>
                  have h5 := HO5.out
                  rw [push_take HN.out] at h5
                  exact ⟨j + 1, hjn, by go_num, h5, HB5.out⟩
                case measure => (simp [intOf] <;> omega)
              · obtain ⟨a7, c7, e7, _⟩ := HLI.out.form
                subst e7
                have HFU : Hid (OInts wr wo.heap.size (.slice a7 j c7) T.length ((List.range T.length).map fun j => el T j i)) := by
                  have h := HLI.out
                  rw [List.take_of_length_le (by simp; omega)] at h
                  have ej : T.length = j := by omega
                  rw [← ej] at h ⊢
                  exact h
                go_wp2_with (at_builtin; refine wpList_push_fresh _ _ wo rfl _ _ rfl w18.heap.size _ i _ rfl HO.out (by omega) HBO.out.size HBX.out _ _ HFU.out _ (by rfl) rfl ?_; intro v6 w6 ho6 hb6 _; have HO6 := Lib.hid ho6; have HB6 := Lib.hid (HBO.out.trans hb6); clear ho6 hb6)
                go_roundw
                case rel =>
                  have h6 := HO6.out
                  rw [push_take HTR.out] at h6
                  exact ⟨i + 1, hlt, by go_num, h6, HB6.out⟩
                case measure => (simp [intOf] <;> omega)
          · obtain ⟨a8, c8, e8, _⟩ := HO.out.form
            subst e8
            have HFT : Hid (Intss wo a8 i (trn T)) := by
              have h := HO.out
              rw [List.take_of_length_le (by rw [trn_len]; omega)] at h
              exact h.read
            have hln : ((D.length : Int) == (T.length : Int)) = true := by rw [HDL.out]; simp
            have HDZ := Lib.hid ((HD.out.keep (step2 (step2 hb16 hb17) hb18)).keep HBO.out)
            have HBB := Lib.hid (step2 (step2 HBZ.out (step2 (step2 hb16 hb17) hb18)) HBO.out)
            go_wp2_with fail
            refine (iDiagonalOf_any _ _ _ (trn T) _ HFT.out).mono ?_
            rw [HTS.out, HTD.out]
            rintro e wz ⟨vz, rfl, hoz, hbz⟩
            obtain ⟨az, cz, rfl, hrz⟩ := hoz.form
            clear hoz
            go_wp2_with fail
            refine (iRankOf_any _ _ _ T _ (HMO.out.keep hbz)).mono ?_
            rintro e wy ⟨rfl, hby⟩
            go_wp2_with fail
            refine (ofD (sameInts_any _ _ _ D _ _ _ D _ (hrz.keep hby) ((HDZ.out.keep hbz).keep hby))).mono ?_
            rintro e wv ⟨rfl, hbv⟩
            go_wp2_with fail
            go_ret
            exact ⟨rfl, step2 (step2 (step2 HBB.out hbz) hby) hbv⟩

namespace fnDiagonal
open Go.ChangeShapes Go.WideShapes Go.ChangeAt
open Go.ChangeMaps (open_string shut_string)
set_option maxRecDepth 100000 in
theorem lifted (os : Os) (started : os.Started) (H : Type) (enc : TypeId × Value → H) :
    ReturnsInHanded {} Tryd.checked os 3 .any (fun w args => (Rows.fnDiagonalSpec.pre enc Tryd.prog Tryd.f3 [] false w args ∧ laidMetH Tryd.prog Rows.fnDiagonalRow.laid w) ∧ sizedMet enc Tryd.prog Tryd.f3 (OpenSpec.ofChange Rows.fnDiagonalSpec) false w args) (Rows.fnDiagonalSpec.post enc Tryd.prog Tryd.f3 false true false false) := by
  refine returnsInHanded_door (C := Tryd.checked) (X := fun w _ => laidMetH Tryd.prog Rows.fnDiagonalRow.laid w) (fun _ _ _ hh h => h.of_heap hh) ownKnobNone started (by kernel_rfl) Tryd.func3
    (ChangeSpec.witness_shaped (enc := enc) (C := Tryd.checked) (os := os) (X := fun w _ => laidMetH Tryd.prog Rows.fnDiagonalRow.laid w) false (World.laidAll Tryd.prog os Rows.fnDiagonalRow.laid) #[.slice none 0 0] 8 (World.laidAll_os _ _ _) (World.shaped_of_ZipB (by kernel_rfl) (by kernel_rfl)) (by kernel_rfl) (by kernel_rfl) (by kernel_rfl)
      (by rw [MakeChecks.laidMetH_plain _ _ _ (by kernel_rfl)]; exact laidMet_laidAll _ (by kernel_rfl) (by kernel_rfl))) ?_
  intro W base args ds gs before hval0 hW hL hsh
  have hval : ∀ (j : Nat) t v, Tryd.f3.params[j]? = some t → args[j]? = some v → Value.okWide Tryd.prog W .any base t v := hval0
  have hW' := hW
  obtain ⟨p, q, hA0, hV, rfl, hfz, hnd⟩ := hW
  have hA : DataW.TrodAll enc Tryd.prog W 0 (fun _ => true) true Tryd.f3.params.toList args.toList ds p := hA0
  rw [Tryd.params3] at hA hval
  obtain ⟨v0, vs0, d0, ds0, p0, q0, hargs, rfl, rfl, h0, r0⟩ := trodAll_cons hA
  obtain ⟨rfl, rfl, rfl⟩ := trodAll_nil r0
  obtain rfl : args = #[v0] := by cases args; simp_all
  obtain ⟨rfl, rfl⟩ := trodVars_none hV
  obtain ⟨a0, len0, cap0, rfl⟩ := okWide_slice Tryd.underlying22 (hval 0 22 v0 rfl rfl)
  have k0 := h0
  have lt0 : ∀ x ∈ p0, x.block < W.heap.size := by obtain ⟨m, hm⟩ := k0; exact DataW.trod_lt m _ _ _ hm
  obtain ⟨z0, w0⟩ := open_bytesIn h0
  clear hA0 hval0
  refine (fnDiagonal_walk a0 len0 cap0 z0 W w0 (powV_of (by kernel_rfl) (by first | exact .head _ | exact .tail _ (.head _) | exact .tail _ (.tail _ (.head _)) | exact .tail _ (.tail _ (.tail _ (.head _)))) hL)).mono fun e W' ⟨he, bel⟩ => ?_
  subst he
  exact ⟨_, rfl, _, _, _, [], _, [], hW', trodAll_mk1 (shut_bool Tryd.underlying4 _), (trodAll_cons_mk (Below.trod laidOutYes (by kernel_rfl) (of_decide_eq_true (by kernel_rfl)) k0 bel lt0) trodAll_mk0), rfl, bel.frame _, fun h => by cases h⟩

theorem over : Rows.fnDiagonalRow.holds Tryd.pinned (OpenSpec.ofChange Rows.fnDiagonalSpec) :=
  OpenClaim.holds_of_wide 3 Tryd.f3 rfl rfl rfl rfl rfl rfl rfl ⟨rfl, rfl, rfl, rfl, rfl⟩ rfl rfl rfl rfl rfl (by kernel_rfl) Tryd.func3 (by kernel_rfl)
    (of_decide_eq_true (by kernel_rfl)) (by unfold Func.isWrapper; first | (rw [if_pos (by decide +kernel)]; kernel_rfl) | (rw [if_neg (by decide +kernel)]; exact ⟨rfl, rfl⟩))
    (fun os started H enc _ => lifted os started H enc)

theorem proved : Rows.FnDiagonalCardSaid :=
  Claim7.holds_tied_plain_at .later [] [.data, .data, .data] true (true, "485b1b85f7326aae8ec7a45f48aa8377d159c215a30927cc798ca2377fb1d855") false over (fun _ h => by cases h) (by kernel_rfl) (fun _ h => by cases h) fnDiagonal_row_tie rfl ⟨rfl, rfl⟩ (by kernel_rfl) rfl
    (fun f fn hf hfn => by
      obtain rfl : f = 3 := Option.some.inj ((show Tryd.prog.funcNamed "loop.example/g03103/laws.FnDiagonal" = some 3 by kernel_rfl).symm.trans hf) |>.symm
      obtain rfl : fn = Tryd.f3 := (Option.some.inj (Tryd.func3.symm.trans hfn)).symm
      exact ⟨by kernel_rfl, fun j t ht => by
        rw [Tryd.params3] at ht
        have hm : t ∈ [22] := by simpa using Array.mem_of_getElem? ht
        have hall : ([22].all fun u => !Tryd.prog.wantsStandIn u) = true := by kernel_rfl
        exact (show Tryd.prog.wantsStandIn t = false by simpa using List.all_eq_true.1 hall t hm)⟩)
    (by kernel_rfl)
end fnDiagonal

#print axioms fnDiagonal.proved
end Go.Proofs.YtgcemkpinmjaeaaDoor
