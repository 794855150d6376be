/- Proved here: the law FnVectors returns true at every input, and leaves its argument as it was. No condition. -/
import Derived.Test.YtgcemkpinmjaeaaRows
import Derived.BigQuiet
import Derived.Test.YtgcemkpinmjaeaaProg
import Derived.Test.YtgcemkpinmjaeaaVG0a
import Derived.Test.YtgcemkpinmjaeaaVD26
import Derived.Test.YtgcemkpinmjaeaaVG0c
import Derived.Test.YtgcemkpinmjaeaaVG1a
namespace Go.Proofs.Ytgcemkpinmjaeaa
open Go.RowKit
set_option linter.all false
theorem pow_pos_le {n : Nat} (h : (n : Int) ≤ 3) : (0 : Int) ≤ 2 ^ n ∧ (2 : Int) ^ n ≤ 3600 := by
  have : n = 0 ∨ n = 1 ∨ n = 2 ∨ n = 3 := by omega
  rcases this with rfl | rfl | rfl | rfl <;> decide
theorem shl_small {n : Nat} (h : (n : Int) ≤ 3) : wrap64 ((2 : Int) ^ n) = 2 ^ n := by
  have : n = 0 ∨ n = 1 ∨ n = 2 ∨ n = 3 := by omega
  rcases this with rfl | rfl | rfl | rfl <;> (unfold wrap64; decide)
set_option maxHeartbeats 25600000 in
set_option maxRecDepth 100000 in
theorem fnVectors_walk (p0 : Option Addr) (n0 c0 : Nat) (z0 : List Int) (w : World) (h0 : BytesIn w p0 n0 z0) :
    Calls Try.prog 5 #[.slice p0 n0 c0] w fun e w' => e = .returned (.bool true) ∧ Below w.heap.size w w' := by
  by_cases hbig : 1048576 < n0
  · go_enter Try.func5, Try.ntmps5
    go_wp2_with (go_at_call 16; refine (lBig_yes _ _ _ _ hbig).mono ?_; rintro e w' ⟨rfl, rfl⟩)
    go_ret
    exact ⟨rfl, Below.refl _ _⟩
  have HY : Hid (Bytes w p0 n0) := ⟨by omega, h0.cells⟩
  clear h0
  go_enter Try.func5, Try.ntmps5
  go_wp2_with (go_at_call 16; refine (lBig_no _ _ _ _ (by omega)).mono ?_; rintro e w' ⟨rfl, rfl⟩)
  refine (drawGreatest_any _ _ _ _ HY.out).mono ?_
  rintro e w1 ⟨vm, m, a, b, rfl, hom, hb1⟩
  obtain ⟨am, cm, rfl, hrm⟩ := hom.form
  clear hom
  go_wp2_with fail
  refine (iGreatest_any _ _ _ m a b _ hrm).mono ?_
  rintro e w2 ⟨vv, rfl, hov, hb2⟩
  obtain ⟨av, cv, rfl, hrv⟩ := hov.form
  clear hov
  generalize hgr : great m a b = og
  have HGR := Lib.hid hgr
  clear hgr
  go_wp2_with fail
  refine (sGreatest_any _ _ _ m a b _ (hrm.keep hb2)).mono ?_
  rintro e w3 ⟨vw, rfl, how, hb3⟩
  obtain ⟨aw, cw, rfl, hrw⟩ := how.form
  clear how
  rw [HGR.out]
  go_wp2_with fail
  refine (drawIsVec_any _ _ _ _ (HY.out.keep (step2 (step2 hb1 hb2) hb3))).mono ?_
  rintro e w4 ⟨vk, vu, k, d, u, rfl, hok, hou, hb4⟩
  obtain ⟨ak, ck, rfl, hrk⟩ := hok.form
  clear hok
  obtain ⟨au, cu, rfl, hru⟩ := hou.form
  clear hou
  go_wp2_with fail
  refine (drawLeast_any _ _ _ _ (HY.out.keep (step2 (step2 (step2 hb1 hb2) hb3) hb4))).mono ?_
  rintro e w5 ⟨vl, l, f, rfl, hol, hb5⟩
  obtain ⟨al, cl, rfl, hrl⟩ := hol.form
  clear hol
  go_wp2_with fail
  refine (iLeast_any _ _ _ l f _ hrl).mono ?_
  rintro e w6 ⟨vx, rfl, hox, hb6⟩
  obtain ⟨ax, cx, rfl, hrx⟩ := hox.form
  clear hox
  generalize hlr : least l f = ol
  have HLR := Lib.hid hlr
  clear hlr
  go_wp2_with fail
  refine (sLeast_any _ _ _ l f _ (hrl.keep hb6)).mono ?_
  rintro e w7 ⟨vy, rfl, hoy, hb7⟩
  obtain ⟨ay, cy, rfl, hry⟩ := hoy.form
  clear hoy
  rw [HLR.out]
  go_wp2_with fail
  refine (drawCanEnc_any _ _ _ _ (HY.out.keep (step2 (step2 (step2 (step2 (step2 (step2 hb1 hb2) hb3) hb4) hb5) hb6) hb7))).mono ?_
  rintro e w8 ⟨ve, g, i, j, rfl, hoe, hb8⟩
  obtain ⟨ae, ce, rfl, hre⟩ := hoe.form
  clear hoe
  go_wp2_with fail
  refine (drawVSum_any _ _ _ _ (HY.out.keep (step2 (step2 (step2 (step2 (step2 (step2 (step2 hb1 hb2) hb3) hb4) hb5) hb6) hb7) hb8))).mono ?_
  rintro e w9 ⟨vs, s, rfl, hosm, hb9⟩
  obtain ⟨asm, csm, rfl, hrsm⟩ := hosm.form
  clear hosm
  have t1 : (og != og) = false := by simp
  have t2 := eqL_self (greatV m a b)
  have t3 : (isVec k d u != isVec k d u) = false := by simp
  have t4 : (ol != ol) = false := by simp
  have t5 := eqL_self (leastV l f)
  have t6 : (canEnc g i j != canEnc g i j) = false := by simp
  have t7 : (vsum s != vsum s) = false := by simp
  go_wp2_with fail
  refine (ofD (sameInts_any _ _ _ (greatV m a b) _ _ _ (greatV m a b) _ (hrv.keep (step2 (step2 (step2 (step2 (step2 (step2 hb3 hb4) hb5) hb6) hb7) hb8) hb9)) (hrw.keep (step2 (step2 (step2 (step2 (step2 hb4 hb5) hb6) hb7) hb8) hb9)))).mono ?_
  rintro e w10 ⟨rfl, hb10⟩
  go_wp2_with fail
  refine (ofD (iIsVector_any _ _ _ k d _ _ _ u _ (hrk.keep (step2 (step2 (step2 (step2 (step2 hb5 hb6) hb7) hb8) hb9) hb10)) (hru.keep (step2 (step2 (step2 (step2 (step2 hb5 hb6) hb7) hb8) hb9) hb10)))).mono ?_
  rintro e w11 ⟨rfl, hb11⟩
  go_wp2_with fail
  refine (ofD (sIsVector_any _ _ _ k d _ _ _ u _ (hrk.keep (step2 (step2 (step2 (step2 (step2 (step2 hb5 hb6) hb7) hb8) hb9) hb10) hb11)) (hru.keep (step2 (step2 (step2 (step2 (step2 (step2 hb5 hb6) hb7) hb8) hb9) hb10) hb11)))).mono ?_
  rintro e w12 ⟨rfl, hb12⟩
  go_wp2_with fail
  refine (ofD (sameInts_any _ _ _ (leastV l f) _ _ _ (leastV l f) _ (hrx.keep (step2 (step2 (step2 (step2 (step2 hb7 hb8) hb9) hb10) hb11) hb12)) (hry.keep (step2 (step2 (step2 (step2 hb8 hb9) hb10) hb11) hb12)))).mono ?_
  rintro e w13 ⟨rfl, hb13⟩
  go_wp2_with fail
  refine (iCanEnc_any _ _ _ g i j _ (hre.keep (step2 (step2 (step2 (step2 hb9 hb10) hb11) hb12) hb13))).mono ?_
  rintro e w14 ⟨rfl, hb14⟩
  go_wp2_with fail
  refine (sCanEnc_any _ _ _ g i j _ (hre.keep (step2 (step2 (step2 (step2 (step2 hb9 hb10) hb11) hb12) hb13) hb14))).mono ?_
  rintro e w15 ⟨rfl, hb15⟩
  go_wp2_with fail
  refine (ofL (iVectorSum_any _ _ _ s _ (hrsm.keep (step2 (step2 (step2 (step2 (step2 hb10 hb11) hb12) hb13) hb14) hb15)))).mono ?_
  rintro e w16 ⟨rfl, hb16⟩
  go_wp2_with fail
  refine (ofL (sVectorSum_any _ _ _ s _ (hrsm.keep (step2 (step2 (step2 (step2 (step2 (step2 hb10 hb11) hb12) hb13) hb14) hb15) hb16)))).mono ?_
  rintro e w17 ⟨rfl, hb17⟩
  go_upto_region 14 with fail
  clear t1 t2 t3 t4 t5 t6 t7
  go_cut [148] (fun v wx => v = .bool false ∧ Below w17.heap.size w17 wx)
  case first =>
    as_aux_lemma =>
      cases og
      · skip
        cases ol
        · go_wp2_with fail
          go_meet
          exact ⟨rfl, (Below.refl _ _)⟩
        · have hv : isVec l f (leastV l f) = true := by obtain ⟨q, hq, e⟩ := least_great HLR.out; rw [e]; exact great_vec hq
          have HV := Lib.hid hv
          clear hv
          go_wp2_with fail
          refine (ofD (iIsVector_any _ _ _ l f _ _ _ (leastV l f) _ (hrl.keep (step2 (step2 (step2 (step2 (step2 (step2 (step2 (step2 (step2 (step2 (step2 hb6 hb7) hb8) hb9) hb10) hb11) hb12) hb13) hb14) hb15) hb16) hb17)) (hrx.keep (step2 (step2 (step2 (step2 (step2 (step2 (step2 (step2 (step2 (step2 hb7 hb8) hb9) hb10) hb11) hb12) hb13) hb14) hb15) hb16) hb17)))).mono ?_
          rintro e w18 ⟨rfl, hb18⟩
          rw [HV.out]
          go_wp2_with fail
          go_meet
          exact ⟨rfl, hb18⟩
      · have HV := Lib.hid (great_vec HGR.out)
        go_wp2_with fail
        refine (ofD (iIsVector_any _ _ _ m a _ _ _ (greatV m a b) _ (hrm.keep (step2 (step2 (step2 (step2 (step2 (step2 (step2 (step2 (step2 (step2 (step2 (step2 (step2 (step2 (step2 hb2 hb3) hb4) hb5) hb6) hb7) hb8) hb9) hb10) hb11) hb12) hb13) hb14) hb15) hb16) hb17)) (hrv.keep (step2 (step2 (step2 (step2 (step2 (step2 (step2 (step2 (step2 (step2 (step2 (step2 (step2 (step2 hb3 hb4) hb5) hb6) hb7) hb8) hb9) hb10) hb11) hb12) hb13) hb14) hb15) hb16) hb17)))).mono ?_
        rintro e w18 ⟨rfl, hb18⟩
        rw [HV.out]
        clear HV
        cases ol
        · go_wp2_with fail
          go_meet
          exact ⟨rfl, hb18⟩
        · have hv : isVec l f (leastV l f) = true := by obtain ⟨q, hq, e⟩ := least_great HLR.out; rw [e]; exact great_vec hq
          have HV := Lib.hid hv
          clear hv
          go_wp2_with fail
          refine (ofD (iIsVector_any _ _ _ l f _ _ _ (leastV l f) _ (hrl.keep (step2 (step2 (step2 (step2 (step2 (step2 (step2 (step2 (step2 (step2 (step2 (step2 hb6 hb7) hb8) hb9) hb10) hb11) hb12) hb13) hb14) hb15) hb16) hb17) hb18)) (hrx.keep (step2 (step2 (step2 (step2 (step2 (step2 (step2 (step2 (step2 (step2 (step2 hb7 hb8) hb9) hb10) hb11) hb12) hb13) hb14) hb15) hb16) hb17) hb18)))).mono ?_
          rintro e w19 ⟨rfl, hb19⟩
          rw [HV.out]
          go_wp2_with fail
          go_meet
          exact ⟨rfl, (step2 hb18 hb19)⟩
  case rest =>
  obtain ⟨rfl, hb18⟩ := hcut
  generalize wc = w18 at hb18 ⊢
  go_upto_region 16 with fail
  go_cut [158] (fun v wx => v = .bool false ∧ Below w18.heap.size w18 wx)
  case first =>
    as_aux_lemma =>
      cases og
      · go_wp2_with fail
        go_meet
        exact ⟨rfl, (Below.refl _ _)⟩
      · have hga := great_get HGR.out
        have ha1 : 0 ≤ a := by omega
        have ha9 : a ≤ 3600 := by omega
        clear hga
        go_wp2_with fail
        cases hs : isSmallM m
        · have HS := Lib.hid hs
          clear hs
          refine (ofL (sIsSmall_any _ _ _ m _ (hrm.keep (step2 (step2 (step2 (step2 (step2 (step2 (step2 (step2 (step2 (step2 (step2 (step2 (step2 (step2 (step2 (step2 hb2 hb3) hb4) hb5) hb6) hb7) hb8) hb9) hb10) hb11) hb12) hb13) hb14) hb15) hb16) hb17) hb18)))).mono ?_
          rintro e w19 ⟨rfl, hb19⟩
          rw [HS.out]
          go_wp2_with fail
          go_meet
          exact ⟨rfl, hb19⟩
        · have HS := Lib.hid hs
          have HW := Lib.hid (great_below HGR.out hs)
          clear hs
          refine (ofL (sIsSmall_any _ _ _ m _ (hrm.keep (step2 (step2 (step2 (step2 (step2 (step2 (step2 (step2 (step2 (step2 (step2 (step2 (step2 (step2 (step2 (step2 hb2 hb3) hb4) hb5) hb6) hb7) hb8) hb9) hb10) hb11) hb12) hb13) hb14) hb15) hb16) hb17) hb18)))).mono ?_
          rintro e w19 ⟨rfl, hb19⟩
          rw [HS.out]
          go_wp2_with fail
          refine (sIsBelow1_in _ _ _ m a _ (hrm.keep (step2 (step2 (step2 (step2 (step2 (step2 (step2 (step2 (step2 (step2 (step2 (step2 (step2 (step2 (step2 (step2 (step2 hb2 hb3) hb4) hb5) hb6) hb7) hb8) hb9) hb10) hb11) hb12) hb13) hb14) hb15) hb16) hb17) hb18) hb19)) HS.out ha1 ha9).mono ?_
          rintro e w20 ⟨rfl, hb20⟩
          rw [HW.out]
          go_wp2_with fail
          go_meet
          exact ⟨rfl, (step2 hb19 hb20)⟩
  case rest =>
  obtain ⟨rfl, hb19⟩ := hcut
  generalize wc = w19 at hb19 ⊢
  go_upto_region 18 with fail
  go_wp2_with fail
  refine (ofD (iIsVector_any _ _ _ k d _ _ _ u _ (hrk.keep (step2 (step2 (step2 (step2 (step2 (step2 (step2 (step2 (step2 (step2 (step2 (step2 (step2 (step2 hb5 hb6) hb7) hb8) hb9) hb10) hb11) hb12) hb13) hb14) hb15) hb16) hb17) hb18) hb19)) (hru.keep (step2 (step2 (step2 (step2 (step2 (step2 (step2 (step2 (step2 (step2 (step2 (step2 (step2 (step2 hb5 hb6) hb7) hb8) hb9) hb10) hb11) hb12) hb13) hb14) hb15) hb16) hb17) hb18) hb19)))).mono ?_
  rintro e w20 ⟨rfl, hb20⟩
  generalize hir : isVec k d u = oi
  have HIR := Lib.hid hir
  clear hir
  go_upto_if 162 with fail
  go_cut [23, 24, 25] (fun s23 s24 s25 wx => Below w20.heap.size w20 wx)
  case first =>
    as_aux_lemma =>
      cases oi
      · go_wp2_with fail
        go_meet
        exact (Below.refl _ _)
      · have HIV := Lib.hid (vec_great HIR.out)
        go_wp2_with fail
        refine (iGreatest_any _ _ _ k d 9 _ (hrk.keep (step2 (step2 (step2 (step2 (step2 (step2 (step2 (step2 (step2 (step2 (step2 (step2 (step2 (step2 (step2 hb5 hb6) hb7) hb8) hb9) hb10) hb11) hb12) hb13) hb14) hb15) hb16) hb17) hb18) hb19) hb20))).mono ?_
        rintro e w21 ⟨vG, rfl, hoG, hb21⟩
        obtain ⟨aG, cG, rfl, hrG⟩ := hoG.form
        clear hoG
        rw [HIV.out.1]
        go_wp2_with fail
        have HGR := Lib.hid hrG
        have HGL := Lib.hid HIV.out.2.2.1
        have HUR := Lib.hid (hru.keep (step2 (step2 (step2 (step2 (step2 (step2 (step2 (step2 (step2 (step2 (step2 (step2 (step2 (step2 (step2 (step2 hb5 hb6) hb7) hb8) hb9) hb10) hb11) hb12) hb13) hb14) hb15) hb16) hb17) hb18) hb19) hb20) hb21))
        have HUN := Lib.hid HIV.out.2.2.2
        have hub := HUR.out.2.1
        have HKL := Lib.hid HIV.out.2.1
        clear HIV
        generalize greatV k d 9 = G at HGR HGL HUN ⊢
        go_loopw [25] (fun x wr => ∃ q : Nat, q ≤ u.length ∧ x = .int .i64 q ∧ Drew w21 wr) (fun x _ => u.length - (intOf x).toNat)
        case atStart => exact ⟨0, Nat.zero_le _, rfl, Drew.refl _⟩
        case round =>
          obtain ⟨q, hq, rfl, ⟨dn, rfl⟩⟩ := hrel
          by_cases hlt : q < u.length
          · obtain ⟨b1, o1, x, rfl, hcx, hgx⟩ := HUR.out.at_ hlt
            obtain ⟨b2, o2, y, rfl, hcy, hgy⟩ := HGR.out.at_ (k := q) (by rw [HGL.out, ← HKL.out]; exact hlt)
            have hlg : q < G.length := by rw [HGL.out, ← HKL.out]; exact hlt
            have hd : decide (y < x) = false := decide_eq_false (by have := HUN.out q x y hgx.out hgy.out; omega)
            clear hgx hgy
            go_wp2_with fail
            go_quiet (fail)
            all_goals (go_wp2_with fail)
            all_goals refine ⟨?_, ?_⟩
            all_goals first
              | exact ⟨q + 1, hlt, by go_num, Drew.mk _ _⟩
              | (simp [intOf]; omega)
          · go_wp2_with fail
            go_meet
            exact below_drewN hb21 dn
  case rest =>
  have hb21 := hcut
  clear hcut
  generalize wc = w21 at hb21 ⊢
  go_upto_region 27 with fail
  go_wp2_with fail
  refine (iCanEnc_any _ _ _ g i j _ (hre.keep (step2 (step2 (step2 (step2 (step2 (step2 (step2 (step2 (step2 (step2 (step2 (step2 hb9 hb10) hb11) hb12) hb13) hb14) hb15) hb16) hb17) hb18) hb19) hb20) hb21))).mono ?_
  rintro e w22 ⟨rfl, hb22⟩
  generalize hcr : canEnc g i j = oc
  have HCE := Lib.hid hcr
  clear hcr
  go_upto_if 189 with fail
  go_cut [26, 27] (fun s26 s27 wx => Below w22.heap.size w22 wx)
  case first =>
    as_aux_lemma =>
      cases oc
      · go_wp2_with fail
        go_meet
        exact (Below.refl _ _)
      · have hce := HCE.out
        have hij : (1 ≤ i ∧ i ≤ 3) := by
          simp only [canEnc, Bool.and_eq_true] at hce
          exact inR_true hce.2.1
        obtain ⟨ni, rfl⟩ : ∃ ni : Nat, i = (ni : Int) := ⟨i.toNat, by omega⟩
        clear hce
        go_wp2_with fail
        refine (sPowM_any _ _ _ g j _ (hre.keep (step2 (step2 (step2 (step2 (step2 (step2 (step2 (step2 (step2 (step2 (step2 (step2 (step2 hb9 hb10) hb11) hb12) hb13) hb14) hb15) hb16) hb17) hb18) hb19) hb20) hb21) hb22))).mono ?_
        rintro e w23 ⟨vz, rfl, hoz, hb23⟩
        obtain ⟨az, cz, rfl, hrz⟩ := hoz.form
        clear hoz
        cases hpw : powM g j with
        | none =>
          rw [hpw] at hrz
          go_wp2_with fail
          go_meet
          exact hb23
        | some z =>
          rw [hpw] at hrz
          have hrz2 : Intss _ _ _ z := hrz
          go_wp2_with fail
          cases hs : isSmallM z
          · have HS := Lib.hid hs
            clear hs
            refine (ofL (sIsSmall_any _ _ _ z _ hrz2)).mono ?_
            rintro e w24 ⟨rfl, hb24⟩
            rw [HS.out]
            go_wp2_with fail
            go_meet
            exact (step2 hb23 hb24)
          · have HS := Lib.hid hs
            have HW := Lib.hid (canEnc_below HCE.out hpw hs)
            clear hs
            refine (ofL (sIsSmall_any _ _ _ z _ hrz2)).mono ?_
            rintro e w24 ⟨rfl, hb24⟩
            rw [HS.out]
            go_wp2_with fail
            rw [shl_small hij.2]
            refine (sIsBelow1_in _ _ _ z (2 ^ ni) _ (by exact (hrz2.keep hb24)) HS.out (pow_pos_le hij.2).1 (pow_pos_le hij.2).2).mono ?_
            rintro e w25 ⟨rfl, hb25⟩
            rw [show (2 : Int) ^ ni = 2 ^ (ni : Int).toNat by simp, HW.out]
            go_wp2_with fail
            go_meet
            exact (step2 (step2 hb23 hb24) hb25)
  case rest =>
  have hb23 := hcut
  clear hcut
  generalize wc = w23 at hb23 ⊢
  go_upto_region 31 with fail
  go_wp2_with fail
  cases og
  · go_loop [28] (fun x => ∃ q : Nat, x = .int .i64 q) (fun _ => 0)
    case atStart => exact ⟨0, rfl⟩
    case round =>
      obtain ⟨q, rfl⟩ := hrel
      go_wp2_with fail
      go_ret
      exact ⟨rfl, (step2 (step2 (step2 (step2 (step2 (step2 (step2 (step2 (step2 (step2 (step2 (step2 (step2 (step2 (step2 (step2 (step2 (step2 (step2 (step2 (step2 (step2 hb1 hb2) hb3) hb4) hb5) hb6) hb7) hb8) hb9) hb10) hb11) hb12) hb13) hb14) hb15) hb16) hb17) hb18) hb19) hb20) hb21) hb22) hb23)⟩
  · have hga := great_get HGR.out
    have hvl : (greatV m a b).length = m.length := by rw [hga.2.2.2.2]; exact hga.2.1.1
    have hiv := great_vec HGR.out
    simp only [isVec, Bool.and_eq_true] at hiv
    have HVR := Lib.hid (vrows_get _ _ hiv.2.2.2.2.2)
    have HLM : Hid (m.length = _) := (hrm.keep (step2 (step2 (step2 (step2 (step2 (step2 (step2 (step2 (step2 (step2 (step2 (step2 (step2 (step2 (step2 (step2 (step2 (step2 (step2 (step2 (step2 hb2 hb3) hb4) hb5) hb6) hb7) hb8) hb9) hb10) hb11) hb12) hb13) hb14) hb15) hb16) hb17) hb18) hb19) hb20) hb21) hb22) hb23)).1
    have HM := Lib.hid (hrm.keep (step2 (step2 (step2 (step2 (step2 (step2 (step2 (step2 (step2 (step2 (step2 (step2 (step2 (step2 (step2 (step2 (step2 (step2 (step2 (step2 (step2 hb2 hb3) hb4) hb5) hb6) hb7) hb8) hb9) hb10) hb11) hb12) hb13) hb14) hb15) hb16) hb17) hb18) hb19) hb20) hb21) hb22) hb23))
    have HV := Lib.hid (hrv.keep (step2 (step2 (step2 (step2 (step2 (step2 (step2 (step2 (step2 (step2 (step2 (step2 (step2 (step2 (step2 (step2 (step2 (step2 (step2 (step2 hb3 hb4) hb5) hb6) hb7) hb8) hb9) hb10) hb11) hb12) hb13) hb14) hb15) hb16) hb17) hb18) hb19) hb20) hb21) hb22) hb23))
    generalize greatV m a b = V at hvl HVR HV ⊢
    have HBZ := Lib.hid (step2 (step2 (step2 (step2 (step2 (step2 (step2 (step2 (step2 (step2 (step2 (step2 (step2 (step2 (step2 (step2 (step2 (step2 (step2 (step2 (step2 (step2 hb1 hb2) hb3) hb4) hb5) hb6) hb7) hb8) hb9) hb10) hb11) hb12) hb13) hb14) hb15) hb16) hb17) hb18) hb19) hb20) hb21) hb22) hb23)
    clear hga hiv
    have HVL := Lib.hid hvl
    clear hvl
    have hmb := HM.out.2.1
    go_loopw [28] (fun x wr => ∃ q : Nat, q ≤ m.length ∧ x = .int .i64 q ∧ Drew w23 wr) (fun x _ => m.length - (intOf x).toNat)
    case atStart => exact ⟨0, Nat.zero_le _, rfl, Drew.refl _⟩
    case round =>
      obtain ⟨q, hq, rfl, ⟨dn, rfl⟩⟩ := hrel
      by_cases hlt : q < m.length
      · obtain ⟨b1, o1, a1, c1, r, rfl, hcr, hrow, hgr⟩ := HM.out.at_ hlt
        obtain ⟨b2, o2, y, rfl, hcy, hgy⟩ := HV.out.at_ (k := q) (by rw [HVL.out]; exact hlt)
        have hlv : q < V.length := by rw [HVL.out]; exact hlt
        have hd : decide (wdot 0 r V < wrap64 (a * y)) = false := decide_eq_false (HVR.out q r y hgr.out hgy.out)
        have HROW := Lib.hid hrow
        clear hgr hgy hrow
        go_wp2_with fail
        go_quiet ((go_at_call 56; exact quiet_Da (lRow_any _ _ _ r _ _ _ V _ (HROW.out.drewN _) (HV.out.drewN _))))
        all_goals (go_wp2_with fail)
        all_goals refine ⟨?_, ?_⟩
        all_goals first
          | exact ⟨q + 1, hlt, by go_num, Drew.mk _ _⟩
          | (simp [intOf]; omega)
      · go_wp2_with fail
        go_ret
        exact ⟨rfl, below_drewN HBZ.out _⟩

namespace fnVectors
open Go.ChangeShapes Go.WideShapes Go.ChangeAt
open Go.ChangeMaps (open_string shut_string)
set_option maxRecDepth 100000 in
theorem lifted (os : Os) (started : os.Started) (H : Type) (enc : TypeId × Value → H) :
    ReturnsInHanded {} Try.checked os 5 .any (Rows.fnVectorsSpec.pre6 enc Try.prog Try.f5 Rows.fnVectorsRow.domain false) (Rows.fnVectorsSpec.post enc Try.prog Try.f5 false true false false) := by
  refine returnsInHanded_of_change (C := Try.checked) ownKnobNone started (by kernel_rfl) Try.func5
    (ChangeSpec.witness6 (enc := enc) (C := Try.checked) false ⟨#[], #[.slice none 0 0], []⟩ 8 (by kernel_rfl) (by kernel_rfl) (by kernel_rfl) (by kernel_rfl)) ?_
  intro W base args ds gs before hval0 hW hcnd _
  have hval : ∀ (j : Nat) t v, Try.f5.params[j]? = some t → args[j]? = some v → Value.okWide Try.prog W .any base t v := hval0
  have hW' := hW
  obtain ⟨p, q, hA0, hV, rfl, hfz, hnd⟩ := hW
  have hA : DataW.TrodAll enc Try.prog W 0 (fun _ => true) true Try.f5.params.toList args.toList ds p := hA0
  rw [Try.params5] at hA hval
  obtain ⟨v0, vs0, d0, ds0, p0, q0, hargs, rfl, rfl, h0, r0⟩ := trodAll_cons hA
  obtain ⟨rfl, rfl, rfl⟩ := trodAll_nil r0
  obtain rfl : args = #[v0] := by cases args; simp_all
  obtain ⟨rfl, rfl⟩ := trodVars_none hV
  obtain ⟨a0, len0, cap0, rfl⟩ := okWide_slice Try.underlying34 (hval 0 34 v0 rfl rfl)
  have k0 := h0
  have lt0 : ∀ x ∈ p0, x.block < W.heap.size := by obtain ⟨m, hm⟩ := k0; exact DataW.trod_lt m _ _ _ hm
  obtain ⟨z0, w0⟩ := open_bytesIn h0
  clear hA0 hval0
  refine (fnVectors_walk a0 len0 cap0 z0 W w0).mono fun e W' ⟨he, bel⟩ => ?_
  subst he
  exact ⟨_, rfl, _, _, _, [], _, [], hW', trodAll_mk1 (shut_bool Try.underlying4 _), (trodAll_cons_mk (Below.trod laidOutYes (by kernel_rfl) (of_decide_eq_true (by kernel_rfl)) k0 bel lt0) trodAll_mk0), rfl, bel.frame _, fun h => by cases h⟩

theorem over : Rows.fnVectorsRow.holds Try.pinned (OpenSpec.ofChange Rows.fnVectorsSpec) :=
  OpenClaim.holds_of_wide 5 Try.f5 rfl rfl rfl rfl rfl rfl rfl ⟨rfl, rfl, rfl, rfl, rfl⟩ rfl rfl rfl rfl rfl (by kernel_rfl) Try.func5 (by kernel_rfl)
    (of_decide_eq_true (by kernel_rfl)) (by unfold Func.isWrapper; first | (rw [if_pos (by decide +kernel)]; kernel_rfl) | (rw [if_neg (by decide +kernel)]; exact ⟨rfl, rfl⟩))
    (fun os started H enc _ => lifted os started H enc)

theorem proved : Rows.FnVectorsSaid := over
end fnVectors

#print axioms fnVectors.proved
end Go.Proofs.Ytgcemkpinmjaeaa
