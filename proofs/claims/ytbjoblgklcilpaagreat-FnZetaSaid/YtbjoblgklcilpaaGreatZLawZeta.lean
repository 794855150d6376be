/- Proved here: the law FnZeta returns true at every input, and leaves its argument as it was. No condition. -/
import Derived.Test.YtbjoblgklcilpaaGreatRows
import Derived.BigQuiet
import Derived.HandedShaped
import Derived.Deep.CutBlock
import Derived.Test.YtbjoblgklcilpaaGreatProg
import Derived.Test.YtbjoblgklcilpaaGreatZG0a
import Derived.Test.YtbjoblgklcilpaaGreatZG2a
import Derived.Test.YtbjoblgklcilpaaGreatZG1b
import Derived.Test.YtbjoblgklcilpaaGreatZOrbW
import Derived.Test.YtbjoblgklcilpaaGreatZOrbWS
import Derived.Test.YtbjoblgklcilpaaGreatZSGraphOf
namespace Go.Proofs.YtbjoblgklcilpaaGreat
open Go.RowKit
set_option linter.all false
set_option maxHeartbeats 25600000 in
set_option maxRecDepth 100000 in
theorem fnZeta_walk (p0 : Option Addr) (n0 c0 : Nat) (z0 : List Int) (w : World) (h0 : BytesIn w p0 n0 z0) (hm : MaxM w) :
    Calls Tryz.prog 3 #[.slice p0 n0 c0] w fun e w' => e = .returned (.bool true) ∧ Below w.heap.size w w' := by
  by_cases hbig : 1048576 < n0
  · go_enter Tryz.func3, Tryz.ntmps3
    go_wp2_with (go_at_call 4; refine (lBig_yes _ _ _ _ hbig).mono ?_; rintro e w' ⟨rfl, rfl⟩)
    go_ret
    exact ⟨rfl, Below.refl _ _⟩
  have HY : Hid (Bytes w p0 n0) := ⟨by omega, h0.cells⟩
  have HMX := Lib.hid hm
  clear h0 hm
  go_enter Tryz.func3, Tryz.ntmps3
  go_wp2_with (go_at_call 4; refine (lBig_no _ _ _ _ (by omega)).mono ?_; rintro e w' ⟨rfl, rfl⟩)
  refine (drawZeta_any _ _ _ _ HY.out).mono ?_
  rintro e w1 ⟨vm, m, n, rfl, hom, hnn, hb1⟩
  obtain ⟨am, cm, rfl, hrm⟩ := hom.form
  clear hom
  go_wp2_with fail
  refine (iZeta_any _ _ _ m n _ hrm).mono ?_
  rintro e w2 ⟨vz, rfl, hoz, hb2⟩
  obtain ⟨az, cz, rfl, hrz⟩ := hoz.form
  clear hoz
  go_wp2_with fail
  refine (drawClosed_any _ _ _ _ (HY.out.keep (step2 hb1 hb2))).mono ?_
  rintro e w3 ⟨va, a, k, rfl, hoa, hnk, hb3⟩
  obtain ⟨aa, ca, rfl, hra⟩ := hoa.form
  clear hoa
  clear hnk
  go_wp2_with fail
  refine (drawLp_any _ _ _ _ (HY.out.keep (step2 (step2 hb1 hb2) hb3))).mono ?_
  rintro e w4 ⟨vb, b, l, rfl, hob, hnl, hb4⟩
  obtain ⟨ab, cb, rfl, hrb⟩ := hob.form
  clear hob
  clear hnl
  go_wp2_with fail
  refine (drawCntO_any _ _ _ _ (HY.out.keep (step2 (step2 (step2 hb1 hb2) hb3) hb4))).mono ?_
  rintro e w5 ⟨vc, c, o, rfl, hoc, hno, hb5⟩
  obtain ⟨ac, cc, rfl, hrc⟩ := hoc.form
  clear hoc
  clear hno
  go_wp2_with fail
  refine (drawMoeb_any _ _ _ _ (HY.out.keep (step2 (step2 (step2 (step2 hb1 hb2) hb3) hb4) hb5))).mono ?_
  rintro e w6 ⟨u, rfl, hb6⟩
  go_wp2_with fail
  refine (drawOrbW_any _ _ _ _ (HY.out.keep (step2 (step2 (step2 (step2 (step2 hb1 hb2) hb3) hb4) hb5) hb6))).mono ?_
  rintro e w7 ⟨K, vs, F, i, rfl, hos, hF, hi7, hb7⟩
  obtain ⟨aS, cS, rfl, hrs0⟩ := hos.form
  have hrs := hos.read
  clear hos hrs0
  have HF : Hid (∀ f ∈ F, f.size ≤ 1048576) := fun f hf => by have := hF f hf; omega
  have kbx := Blk.new w7 32 #[.int .i64 K, .slice aS F.length cS]
  have hb8 := belowA w7 (.cells #[.int .i64 K, .slice aS F.length cS] 32)
  have k0 := kbx.cell 0
  have k1 := kbx.cell 1
  change _ = some _ at k0
  change _ = some _ at k1
  clear hF
  go_wp2_with fail
  generalize w7.alloc (.cells #[.int .i64 K, .slice aS F.length cS] 32) = w8 at kbx hb8 k0 k1 ⊢
  clear k0 k1
  generalize w7.heap.size = gx at kbx ⊢
  refine (iOrbitWords_any K aS F.length cS F i _ (hrs.keep hb8) HF.out (HMX.out.keep (step2 (step2 (step2 (step2 (step2 (step2 (step2 hb1 hb2) hb3) hb4) hb5) hb6) hb7) hb8))).mono ?_
  rintro e w9 ⟨vw, rfl, how, hb9⟩
  obtain ⟨aw, cw, rfl, _⟩ := how.form
  have hrw := how.read
  clear how
  go_upto_region 11 with fail
  go_cut [107] (fun s107 wx => s107 = .bool false ∧ Below w9.heap.size w9 wx)
  case first =>
    as_aux_lemma =>
      have t1 : (closed a k != closed a k) = false := by simp
      have t2 : (lp b l != lp b l) = false := by simp
      have t3 := eqL_self (zetaV m n)
      have t4 : (cntO c o != cntO c o) = false := by simp
      have t5 : (moeb u != moeb u) = false := by simp
      go_wp2_with fail
      refine (sZeta_any _ _ _ m n _ (hrm.keep (step2 (step2 (step2 (step2 (step2 (step2 (step2 hb2 hb3) hb4) hb5) hb6) hb7) hb8) hb9))).mono ?_
      rintro e w10 ⟨vq, rfl, hoq, hb10⟩
      obtain ⟨aq, cq, rfl, hrq⟩ := hoq.form
      clear hoq
      go_wp2_with fail
      refine (ofD (sameInts_any _ _ _ (zetaV m n) _ _ _ (zetaV m n) _ (hrz.keep (step2 (step2 (step2 (step2 (step2 (step2 (step2 hb3 hb4) hb5) hb6) hb7) hb8) hb9) hb10)) hrq)).mono ?_
      rintro e w11 ⟨rfl, hb11⟩
      go_wp2_with fail
      refine (iClosed_any _ _ _ a k _ (hra.keep (step2 (step2 (step2 (step2 (step2 (step2 (step2 hb4 hb5) hb6) hb7) hb8) hb9) hb10) hb11))).mono ?_
      rintro e w12 ⟨rfl, hb12⟩
      go_wp2_with fail
      refine (sClosed_any _ _ _ a k _ (hra.keep (step2 (step2 (step2 (step2 (step2 (step2 (step2 (step2 hb4 hb5) hb6) hb7) hb8) hb9) hb10) hb11) hb12))).mono ?_
      rintro e w13 ⟨rfl, hb13⟩
      go_wp2_with fail
      refine (iLp_any _ _ _ b l _ (hrb.keep (step2 (step2 (step2 (step2 (step2 (step2 (step2 (step2 hb5 hb6) hb7) hb8) hb9) hb10) hb11) hb12) hb13))).mono ?_
      rintro e w14 ⟨rfl, hb14⟩
      go_wp2_with fail
      refine (sLp_any _ _ _ b l _ (hrb.keep (step2 (step2 (step2 (step2 (step2 (step2 (step2 (step2 (step2 hb5 hb6) hb7) hb8) hb9) hb10) hb11) hb12) hb13) hb14))).mono ?_
      rintro e w15 ⟨rfl, hb15⟩
      go_wp2_with fail
      refine (iCntO_any _ _ _ c o _ (hrc.keep (step2 (step2 (step2 (step2 (step2 (step2 (step2 (step2 (step2 hb6 hb7) hb8) hb9) hb10) hb11) hb12) hb13) hb14) hb15))).mono ?_
      rintro e w16 ⟨rfl, hb16⟩
      go_wp2_with fail
      refine (sCntO_any _ _ _ c o _ (hrc.keep (step2 (step2 (step2 (step2 (step2 (step2 (step2 (step2 (step2 (step2 hb6 hb7) hb8) hb9) hb10) hb11) hb12) hb13) hb14) hb15) hb16))).mono ?_
      rintro e w17 ⟨rfl, hb17⟩
      go_wp2_with fail
      refine (ofL (iMoeb_any u _)).mono ?_
      rintro e w18 ⟨rfl, hb18⟩
      go_wp2_with fail
      refine (ofL (sMoeb_any u _)).mono ?_
      rintro e w19 ⟨rfl, hb19⟩
      have kx := (kbx.keep (step2 (step2 (step2 (step2 (step2 (step2 (step2 (step2 (step2 (step2 hb9 hb10) hb11) hb12) hb13) hb14) hb15) hb16) hb17) hb18) hb19))
      have k0 := kx.cell 0
      have k1 := kx.cell 1
      change _ = some _ at k0
      change _ = some _ at k1
      clear kx
      go_wp2_with fail
      refine (sOrbitWords_any K aS F.length cS F i _ (hrs.keep (step2 (step2 (step2 (step2 (step2 (step2 (step2 (step2 (step2 (step2 (step2 hb8 hb9) hb10) hb11) hb12) hb13) hb14) hb15) hb16) hb17) hb18) hb19)) HF.out).mono ?_
      rintro e w20 ⟨vv, rfl, hov, hb20⟩
      obtain ⟨av, cv, rfl, _⟩ := hov.form
      have hrv := hov.read
      clear hov
      go_wp2_with fail
      refine (ofD (sameTexts_same _ _ _ _ _ _ _ _ (hrw.keep (step2 (step2 (step2 (step2 (step2 (step2 (step2 (step2 (step2 (step2 hb10 hb11) hb12) hb13) hb14) hb15) hb16) hb17) hb18) hb19) hb20)) hrv)).mono ?_
      rintro e w21 ⟨rfl, hb21⟩
      go_wp2_with fail
      go_meet
      exact ⟨rfl, (step2 (step2 (step2 (step2 (step2 (step2 (step2 (step2 (step2 (step2 (step2 hb10 hb11) hb12) hb13) hb14) hb15) hb16) hb17) hb18) hb19) hb20) hb21)⟩
  case rest =>
  obtain ⟨rfl, hb10⟩ := hcut
  generalize wc = w10 at hb10 ⊢
  go_upto_block 0 with fail
  go_cut [16, 17, 18, 19, 20] (fun s16 s17 s18 s19 s20 wx => Below w10.heap.size w10 wx)
  case first =>
    as_aux_lemma =>
      have HM := Lib.hid (hrm.keep (step2 (step2 (step2 (step2 (step2 (step2 (step2 (step2 hb2 hb3) hb4) hb5) hb6) hb7) hb8) hb9) hb10))
      have HZ := Lib.hid (hrz.keep (step2 (step2 (step2 (step2 (step2 (step2 (step2 hb3 hb4) hb5) hb6) hb7) hb8) hb9) hb10))
      go_wp2_with fail
      go_loopw [16, 17, 18, 19, 20] (fun v16 v17 v18 v19 v20 wr => ∃ x : Nat, 1 ≤ x ∧ v16 = .int .i64 x ∧ Below w10.heap.size w10 wr) (fun v16 _ _ _ _ _ => (zetaV m n).length - (intOf v16).toNat)
      case atStart => exact ⟨1, Nat.le_refl _, rfl, Below.refl _ _⟩
      case round =>
        obtain ⟨x, hx1, rfl, hbl⟩ := hrel
        have HBo := Lib.hid hbl
        have HMo := Lib.hid (HM.out.keep hbl)
        have HZo := Lib.hid (HZ.out.keep hbl)
        clear hbl
        by_cases hlt : x < (zetaV m n).length
        · obtain ⟨R, hR⟩ : ∃ R, zL m (zetaV m n) x x 1 0 true = R := ⟨_, rfl⟩
          have hlw := zL_law hnn hx1 hlt
          rw [hR] at hlw
          have HLW := Lib.hid hlw
          have HR := Lib.hid hR
          obtain ⟨bz, oz, _, rfl, _, _⟩ := HZo.out.at_ (k := 0) (by omega)
          have hzl := HZo.out.2.1
          obtain ⟨wo, rfl⟩ : ∃ wo : World, wo = wr := ⟨_, rfl⟩
          clear hlw hR
          go_wp2_with fail
          go_loopw [17, 18, 19, 20] (fun v17 v18 v19 v20 wx => ∃ (y : Nat) (s : Int) (kn : Bool), 1 ≤ y ∧ y ≤ x + 1 ∧ v17 = .int .i64 s ∧ v18 = .bool kn ∧ v19 = .int .i64 y ∧ Hid (zL m (zetaV m n) x (x + 1 - y) y s kn = R) ∧ Below wo.heap.size wo wx) (fun _ _ v19 _ _ => x + 1 - (intOf v19).toNat)
          case atStart => exact ⟨1, 0, true, Nat.le_refl _, by omega, rfl, rfl, rfl, HR.out, Below.refl _ _⟩
          case round =>
            obtain ⟨y, s, kn, hy1, hyx, rfl, rfl, rfl, hz, hbx⟩ := hrel
            have HBx := Lib.hid hbx
            have HMx := Lib.hid (HMo.out.keep hbx)
            have HZx := Lib.hid (HZo.out.keep hbx)
            clear hbx
            by_cases hy : y ≤ x
            · obtain ⟨q, hq⟩ : ∃ q : Nat, q = x - y := ⟨_, rfl⟩
              have hqq : (x : Int) - (y : Int) = (q : Int) := by omega
              have hql : q < (zetaV m n).length := by omega
              have HN := Lib.hid (zL_step hy hz.out)
              obtain ⟨zq, hzq⟩ : ∃ v, (zetaV m n).getD q 0 = v := ⟨_, rfl⟩
              rw [← hq, hzq] at HN
              have HZQ := Lib.hid hzq
              clear hz hq hzq
              cases kn
              · go_wp2_with (go_at_call 15; refine (iClosed_any _ _ _ m y _ HMx.out).mono ?_; rintro e wa ⟨rfl, hba⟩; have HB1 := Lib.hid hba; have hcz := (HZx.out.keep hba).cellK hql; rw [HZQ.out] at hcz; clear hba)
                go_roundw
                case rel => exact ⟨y + 1, _, _, by omega, by omega, rfl, rfl, by go_num, HN.out, step2 HBx.out HB1.out⟩
                case measure => (simp [intOf] <;> omega)
              · go_wp2_with (go_at_call 15; refine (iClosed_any _ _ _ m y _ HMx.out).mono ?_; rintro e wa ⟨rfl, hba⟩; have HB1 := Lib.hid hba; have hcz := (HZx.out.keep hba).cellK hql; rw [HZQ.out] at hcz; clear hba)
                go_roundw
                case rel => exact ⟨y + 1, _, _, by omega, by omega, rfl, rfl, by go_num, HN.out, step2 HBx.out HB1.out⟩
                case measure => (simp [intOf] <;> omega)
            · have HN := Lib.hid (zL_end hy hz.out)
              clear hz
              cases kn
              · go_wp2_with fail
                go_roundw
                case rel => exact ⟨x + 1, by omega, by go_num, step2 HBo.out HBx.out⟩
                case measure => (simp [intOf] <;> omega)
              · obtain ⟨zx, hzx⟩ : ∃ v, (zetaV m n).getD x 0 = v := ⟨_, rfl⟩
                have hs : s = wrap64 ((x : Int) * zx) := by have h1 := HLW.out; rw [← HN.out, hzx] at h1; exact h1 rfl
                have hne : (s != wrap64 ((x : Int) * zx)) = false := by rw [hs]; simp
                have hcz := HZx.out.cellK hlt
                rw [hzx] at hcz
                clear hs hzx
                go_wp2_with fail
                go_roundw
                case rel => exact ⟨x + 1, by omega, by go_num, step2 HBo.out HBx.out⟩
                case measure => (simp [intOf] <;> omega)
        · go_wp2_with fail
          go_meet
          exact HBo.out
  case rest =>
  have hb11 := hcut
  clear hcut
  generalize wc = w11 at hb11 ⊢
  go_upto_region 26 with fail
  go_cut [170] (fun s170 wx => s170 = .bool false ∧ Below w11.heap.size w11 wx)
  case first =>
    as_aux_lemma =>
      by_cases h1 : 1 ≤ o
      · have d1 : decide (1 ≤ o) = true := decide_eq_true h1
        by_cases h12 : o ≤ 12
        · have d2 : decide (o ≤ 12) = true := decide_eq_true h12
          by_cases hc : 0 ≤ cntO c o
          · have d3 : decide (0 ≤ cntO c o) = true := decide_eq_true hc
            have hne : (wrap64 (cntO c o * o) != lp c o) = false := by rw [cnt_law h1 h12 hc]; simp
            clear hc
            go_wp2_with fail
            refine (iCntO_any _ _ _ c o _ (hrc.keep (step2 (step2 (step2 (step2 (step2 hb6 hb7) hb8) hb9) hb10) hb11))).mono ?_
            rintro e w12 ⟨rfl, hb12⟩
            go_wp2_with fail
            refine (iCntO_any _ _ _ c o _ (hrc.keep (step2 (step2 (step2 (step2 (step2 (step2 hb6 hb7) hb8) hb9) hb10) hb11) hb12))).mono ?_
            rintro e w13 ⟨rfl, hb13⟩
            go_wp2_with fail
            refine (iLp_any _ _ _ c o _ (hrc.keep (step2 (step2 (step2 (step2 (step2 (step2 (step2 hb6 hb7) hb8) hb9) hb10) hb11) hb12) hb13))).mono ?_
            rintro e w14 ⟨rfl, hb14⟩
            go_wp2_with fail
            go_meet
            exact ⟨rfl, (step2 (step2 hb12 hb13) hb14)⟩
          · have d3 : decide (0 ≤ cntO c o) = false := decide_eq_false hc
            clear hc
            go_wp2_with fail
            refine (iCntO_any _ _ _ c o _ (hrc.keep (step2 (step2 (step2 (step2 (step2 hb6 hb7) hb8) hb9) hb10) hb11))).mono ?_
            rintro e w12 ⟨rfl, hb12⟩
            go_wp2_with fail
            go_meet
            exact ⟨rfl, hb12⟩
        · have d2 : decide (o ≤ 12) = false := decide_eq_false h12
          go_wp2_with fail
          go_meet
          exact ⟨rfl, (Below.refl _ _)⟩
      · have d1 : decide (1 ≤ o) = false := decide_eq_false h1
        go_wp2_with fail
        go_meet
        exact ⟨rfl, (Below.refl _ _)⟩
  case rest =>
  obtain ⟨rfl, hb12⟩ := hcut
  generalize wc = w12 at hb12 ⊢
  go_upto_region 28 with fail
  go_cut [182] (fun s182 wx => ∃ t : Bool, s182 = .bool t ∧ (t = true → 1 ≤ l ∧ l ≤ 12 ∧ 0 ≤ closed b l) ∧ Below w12.heap.size w12 wx)
  case first =>
    as_aux_lemma =>
      by_cases h1 : 1 ≤ l
      · have d1 : decide (1 ≤ l) = true := decide_eq_true h1
        by_cases h12 : l ≤ 12
        · have d2 : decide (l ≤ 12) = true := decide_eq_true h12
          have HD : Hid (decide (0 ≤ closed b l) = true → 1 ≤ l ∧ l ≤ 12 ∧ 0 ≤ closed b l) := fun h => ⟨h1, h12, of_decide_eq_true h⟩
          go_wp2_with fail
          refine (iClosed_any _ _ _ b l _ (hrb.keep (step2 (step2 (step2 (step2 (step2 (step2 (step2 hb5 hb6) hb7) hb8) hb9) hb10) hb11) hb12))).mono ?_
          rintro e w13 ⟨rfl, hb13⟩
          go_wp2_with fail
          go_meet
          exact ⟨_, rfl, HD.out, hb13⟩
        · have d2 : decide (l ≤ 12) = false := decide_eq_false h12
          go_wp2_with fail
          go_meet
          exact ⟨false, rfl, fun h => (by cases h), (Below.refl _ _)⟩
      · have d1 : decide (1 ≤ l) = false := decide_eq_false h1
        go_wp2_with fail
        go_meet
        exact ⟨false, rfl, fun h => (by cases h), (Below.refl _ _)⟩
  case rest =>
  obtain ⟨t, rfl, ht, hb13⟩ := hcut
  have HT := Lib.hid ht
  clear ht
  generalize wc = w13 at hb13 ⊢
  go_upto_if 182 with fail
  go_cut [21, 22] (fun s21 s22 wx => Below w13.heap.size w13 wx)
  case first =>
    as_aux_lemma =>
      cases t
      · go_wp2_with fail
        go_meet
        exact (Below.refl _ _)
      · obtain ⟨hl1, hl12, hlc⟩ := HT.out rfl
        obtain ⟨ln, rfl⟩ := Int.eq_ofNat_of_zero_le (show 0 ≤ l by omega)
        have hln : ln ≤ 12 := by omega
        have HDV := Lib.hid (dvS_closed (closed_isMat hlc) (show 1 ≤ ln by omega) hln hlc)
        have HM := Lib.hid (hrb.keep (step2 (step2 (step2 (step2 (step2 (step2 (step2 (step2 hb5 hb6) hb7) hb8) hb9) hb10) hb11) hb12) hb13))
        clear hl1 hl12 hlc HT
        go_wp2_with fail
        go_loopw [21, 22] (fun v21 v22 wr => ∃ (d : Nat) (s : Int), 1 ≤ d ∧ d ≤ ln + 1 ∧ v21 = .int .i64 s ∧ v22 = .int .i64 d ∧ Hid (dvS b ln (ln + 1 - d) d s = closed b ln) ∧ Below w13.heap.size w13 wr) (fun _ v22 _ => ln + 1 - (intOf v22).toNat)
        case atStart => exact ⟨1, 0, Nat.le_refl _, by omega, rfl, rfl, HDV.out, Below.refl _ _⟩
        case round =>
          obtain ⟨d, s, hd1, hdl, rfl, rfl, hr, hbl⟩ := hrel
          have HBo := Lib.hid hbl
          have HMo := Lib.hid (HM.out.keep hbl)
          clear hbl
          by_cases hle : d ≤ ln
          · have hd0 : ¬ (d : Int) = 0 := by omega
            have hdz : ((d : Int) == 0) = false := by simpa using hd0
            have hrem : (ln : Int) % (d : Int) = ((ln % d : Nat) : Int) := (Int.natCast_emod ln d).symm
            have HS := dvS_step hle hr.out
            clear hr
            by_cases hm : ln % d = 0
            · have HN := Lib.hid (HS.1 hm)
              have hz : ((ln : Int) % (d : Int) == 0) = true := by rw [hrem, hm]; rfl
              clear HS hm hrem
              go_wp2_with (go_at_call 17; refine (iLp_any _ _ _ b d _ HMo.out).mono ?_; rintro e wa ⟨rfl, hba⟩; have HB1 := Lib.hid hba; clear hba)
              go_roundw
              case rel => exact ⟨d + 1, _, by omega, by omega, rfl, by go_num, HN.out, step2 HBo.out HB1.out⟩
              case measure => (simp [intOf] <;> omega)
            · have HN := Lib.hid (HS.2 hm)
              have hz : ((ln : Int) % (d : Int) == 0) = false := by rw [hrem]; exact beq_eq_false_iff_ne.2 (by omega)
              clear HS hm hrem
              go_wp2_with fail
              go_roundw
              case rel => exact ⟨d + 1, _, by omega, by omega, rfl, by go_num, HN.out, HBo.out⟩
              case measure => (simp [intOf] <;> omega)
          · have hs := dvS_end hle hr.out
            have hne : (s != closed b ln) = false := by rw [hs]; simp
            clear hs hr
            go_wp2_with (go_at_call 15; refine (iClosed_any _ _ _ b ln _ HMo.out).mono ?_; rintro e wa ⟨rfl, hba⟩; have HB1 := Lib.hid hba; clear hba)
            go_meet
            exact step2 HBo.out HB1.out
  case rest =>
  have hb14 := hcut
  clear hcut
  generalize wc = w14 at hb14 ⊢
  have kx := (kbx.keep (step2 (step2 (step2 (step2 (step2 hb9 hb10) hb11) hb12) hb13) hb14))
  have k0 := kx.cell 0
  have k1 := kx.cell 1
  change _ = some _ at k0
  change _ = some _ at k1
  clear kx
  go_wp2_with fail
  refine (sGraphOf_any K aS F.length cS F _ (hrs.keep (step2 (step2 (step2 (step2 (step2 (step2 hb8 hb9) hb10) hb11) hb12) hb13) hb14)) HF.out).mono ?_
  rintro e w15 ⟨vg, rfl, hog, hb15⟩
  clear k0 k1
  obtain ⟨ag, cg, rfl, hrg⟩ := hog.form
  clear hog
  cases hq : (lang K F 2).isEmpty
  · by_cases hi0 : i = 0
    · subst hi0
      go_wp2_with fail
      go_ret
      exact ⟨rfl, (step2 (step2 (step2 (step2 (step2 (step2 (step2 (step2 (step2 (step2 (step2 (step2 (step2 (step2 hb1 hb2) hb3) hb4) hb5) hb6) hb7) hb8) hb9) hb10) hb11) hb12) hb13) hb14) hb15)⟩
    · have HE := Lib.hid (words_law hq (n := i) (by omega) (by omega))
      have e1 : decide ((i : Int) < 1) = false := decide_eq_false (by omega)
      have e2 : decide (6 < (i : Int)) = false := decide_eq_false (by omega)
      go_wp2_with fail
      refine (iCntO_any _ _ _ (graphL F (lang K F 2)) i _ hrg).mono ?_
      rintro e w16 ⟨rfl, hb16⟩
      have heq : (((orbWV K F i).length : Int) == cntO (graphL F (lang K F 2)) i) = true := by rw [HE.out]; simp
      go_wp2_with fail
      go_ret
      exact ⟨rfl, (step2 (step2 (step2 (step2 (step2 (step2 (step2 (step2 (step2 (step2 (step2 (step2 (step2 (step2 (step2 hb1 hb2) hb3) hb4) hb5) hb6) hb7) hb8) hb9) hb10) hb11) hb12) hb13) hb14) hb15) hb16)⟩
  · go_wp2_with fail
    go_ret
    exact ⟨rfl, (step2 (step2 (step2 (step2 (step2 (step2 (step2 (step2 (step2 (step2 (step2 (step2 (step2 (step2 hb1 hb2) hb3) hb4) hb5) hb6) hb7) hb8) hb9) hb10) hb11) hb12) hb13) hb14) hb15)⟩

namespace fnZeta
open Go.ChangeShapes Go.WideShapes Go.ChangeAt
open Go.ChangeMaps (open_string shut_string)
set_option maxRecDepth 100000 in
theorem lifted (os : Os) (started : os.Started) (H : Type) (enc : TypeId × Value → H) :
    ReturnsInHanded {} Tryz.checked os 3 .any (Rows.fnZetaSpec.pre6 enc Tryz.prog Tryz.f3 Rows.fnZetaRow.domain false) (Rows.fnZetaSpec.post enc Tryz.prog Tryz.f3 false true false false) := by
  refine returnsInHanded_of_change_shaped (C := Tryz.checked) ownKnobNone started (by kernel_rfl) Tryz.func3
    (ChangeSpec.witness6 (enc := enc) (C := Tryz.checked) false ⟨#[], #[.slice none 0 0], []⟩ 8 (by kernel_rfl) (by kernel_rfl) (by kernel_rfl) (by kernel_rfl)) ?_
  intro W base args ds gs before hval0 hW hcnd _ hsh _
  have hval : ∀ (j : Nat) t v, Tryz.f3.params[j]? = some t → args[j]? = some v → Value.okWide Tryz.prog W .any base t v := hval0
  have hW' := hW
  obtain ⟨p, q, hA0, hV, rfl, hfz, hnd⟩ := hW
  have hA : DataW.TrodAll enc Tryz.prog W 0 (fun _ => true) true Tryz.f3.params.toList args.toList ds p := hA0
  rw [Tryz.params3] at hA hval
  obtain ⟨v0, vs0, d0, ds0, p0, q0, hargs, rfl, rfl, h0, r0⟩ := trodAll_cons hA
  obtain ⟨rfl, rfl, rfl⟩ := trodAll_nil r0
  obtain rfl : args = #[v0] := by cases args; simp_all
  obtain ⟨rfl, rfl⟩ := trodVars_none hV
  obtain ⟨a0, len0, cap0, rfl⟩ := okWide_slice Tryz.underlying22 (hval 0 22 v0 rfl rfl)
  have k0 := h0
  have lt0 : ∀ x ∈ p0, x.block < W.heap.size := by obtain ⟨m, hm⟩ := k0; exact DataW.trod_lt m _ _ _ hm
  obtain ⟨z0, w0⟩ := open_bytesIn h0
  clear hA0 hval0
  refine (fnZeta_walk a0 len0 cap0 z0 W w0 (maxM_of hsh)).mono fun e W' ⟨he, bel⟩ => ?_
  subst he
  exact ⟨_, rfl, _, _, _, [], _, [], hW', trodAll_mk1 (shut_bool Tryz.underlying4 _), (trodAll_cons_mk (Below.trod laidOutYes (by kernel_rfl) (of_decide_eq_true (by kernel_rfl)) k0 bel lt0) trodAll_mk0), rfl, bel.frame _, fun h => by cases h⟩

theorem over : Rows.fnZetaRow.holds Tryz.pinned (OpenSpec.ofChange Rows.fnZetaSpec) :=
  OpenClaim.holds_of_wide 3 Tryz.f3 rfl rfl rfl rfl rfl rfl rfl ⟨rfl, rfl, rfl, rfl, rfl⟩ rfl rfl rfl rfl rfl (by kernel_rfl) Tryz.func3 (by kernel_rfl)
    (of_decide_eq_true (by kernel_rfl)) (by unfold Func.isWrapper; first | (rw [if_pos (by decide +kernel)]; kernel_rfl) | (rw [if_neg (by decide +kernel)]; exact ⟨rfl, rfl⟩))
    (fun os started H enc _ => lifted os started H enc)

theorem proved : Rows.FnZetaSaid := over
end fnZeta

#print axioms fnZeta.proved
end Go.Proofs.YtbjoblgklcilpaaGreat
