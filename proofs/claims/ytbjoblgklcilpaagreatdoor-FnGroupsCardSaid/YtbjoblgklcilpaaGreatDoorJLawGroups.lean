/- Proved here: the law FnGroups returns true at every input, and leaves its argument as it was (the tied card). No condition. -/
import Derived.Test.YtbjoblgklcilpaaGreatDoorRows
import Derived.Test.YtbjoblgklcilpaaGreatDoorTie
import Derived.Test.YtbjoblgklcilpaaGreatDoorCards
import Derived.BigQuiet
import Derived.Test.YtbjoblgklcilpaaGreatDoorProg
import Derived.Test.YtbjoblgklcilpaaGreatDoorJG0a
import Derived.Test.YtbjoblgklcilpaaGreatDoorJG3a
import Derived.Test.YtbjoblgklcilpaaGreatDoorJG2a
import Derived.Test.YtbjoblgklcilpaaGreatDoorJG1b
import Derived.Test.YtbjoblgklcilpaaGreatDoorJG1a
import Derived.Test.YtbjoblgklcilpaaGreatDoorJG1c
import Derived.Test.YtbjoblgklcilpaaGreatDoorJIStretch
import Derived.Test.YtbjoblgklcilpaaGreatDoorJSStretch
namespace Go.Proofs.YtbjoblgklcilpaaGreatDoor
open Go.RowKit
set_option linter.all false
set_option maxHeartbeats 25600000 in
set_option maxRecDepth 100000 in
theorem fnGroups_walk (p0 : Option Addr) (n0 c0 : Nat) (z0 : List Int) (w : World) (h0 : BytesIn w p0 n0 z0) (hm : PowV w) :
    Calls Tryz.prog 3 #[.slice p0 n0 c0] w fun e w' => e = .returned (.bool true) ∧ Below w.heap.size w w' := by
  by_cases hbig : 1048576 < n0
  · go_enter Tryz.func3, Tryz.ntmps3
    go_wp2_with (go_at_call 4; refine (lBig_yes _ _ _ _ hbig).mono ?_; rintro e w' ⟨rfl, rfl⟩)
    go_ret
    exact ⟨rfl, Below.refl _ _⟩
  have HY : Hid (Bytes w p0 n0) := ⟨by omega, h0.cells⟩
  have HMX := Lib.hid hm
  clear h0 hm
  go_enter Tryz.func3, Tryz.ntmps3
  go_wp2_with (go_at_call 4; refine (lBig_no _ _ _ _ (by omega)).mono ?_; rintro e w' ⟨rfl, rfl⟩)
  refine (drawGroupOf_any _ _ _ _ HY.out).mono ?_
  rintro e w1 ⟨vm, m, rfl, hom, hb1⟩
  obtain ⟨am, cm, rfl, hrm⟩ := hom.form
  clear hom
  go_wp2_with fail
  refine (iGroupOf_any _ _ _ m _ hrm).mono ?_
  rintro e w2 ⟨vg, rfl, hog, hb2⟩
  obtain ⟨ag, cg, rfl, hrg⟩ := hog.form
  clear hog
  go_wp2_with fail
  refine (drawDiff_any _ _ _ _ (HY.out.keep (step2 hb1 hb2))).mono ?_
  rintro e w3 ⟨va, vb, a, b, rfl, hoa, hob, hb3⟩
  obtain ⟨aa, ca, rfl, hra⟩ := hoa.form
  clear hoa
  obtain ⟨ab, cb, rfl, hrb⟩ := hob.form
  clear hob
  go_wp2_with fail
  refine (drawFlow_any _ _ _ _ (HY.out.keep (step2 (step2 hb1 hb2) hb3))).mono ?_
  rintro e w4 ⟨vc, vd, c, d, rfl, hoc, hod, hb4⟩
  obtain ⟨ac, cc, rfl, hrc⟩ := hoc.form
  clear hoc
  obtain ⟨ad, cd, rfl, hrd⟩ := hod.form
  clear hod
  go_wp2_with fail
  refine (drawStretch_any _ _ _ _ (HY.out.keep (step2 (step2 (step2 hb1 hb2) hb3) hb4))).mono ?_
  rintro e w5 ⟨vs, s, i, rfl, hoS, hb5⟩
  obtain ⟨aS, cS, rfl, hrS⟩ := hoS.form
  clear hoS
  go_wp2_with fail
  refine (iStretch_any _ _ _ s i _ hrS).mono ?_
  rintro e w6 ⟨vx, rfl, hox, hb6⟩
  obtain ⟨ax, cx, rfl, hrx⟩ := hox.form
  clear hox
  generalize hok : strOk s i = ok
  have HOK := Lib.hid hok
  clear hok
  go_wp2_with fail
  refine (sStretch_any _ _ _ s i _ (hrS.keep hb6)).mono ?_
  rintro e w7 ⟨vw, rfl, how, hb7⟩
  obtain ⟨aw, cw, rfl, hrw⟩ := how.form
  clear how
  rw [HOK.out]
  go_wp2_with fail
  refine (drawSplitOut_any _ _ _ _ (HY.out.keep (step2 (step2 (step2 (step2 (step2 (step2 hb1 hb2) hb3) hb4) hb5) hb6) hb7))).mono ?_
  rintro e w8 ⟨vn, vp, nn, j, pt, rfl, hon, hop, hT, hb8⟩
  obtain ⟨an, cn, rfl, hrn⟩ := hon.form
  clear hon
  obtain ⟨ap, cp, rfl, hrp⟩ := hop.form
  clear hop
  clear hT
  go_wp2_with fail
  refine (sSplitOut_any _ _ _ nn j _ _ _ pt _ hrn hrp).mono ?_
  rintro e w9 ⟨vy, rfl, hoy, hb9⟩
  obtain ⟨ay, cy, rfl, hry⟩ := hoy.form
  clear hoy
  generalize hsp : splOk nn j pt = sp
  have HSP := Lib.hid hsp
  clear hsp
  go_upto_region 12 with fail
  go_cut [114] (fun s114 wx => s114 = .bool false ∧ Below w9.heap.size w9 wx)
  case first =>
    as_aux_lemma =>
      have t1 := eqL_self (groupV m)
      have t2 : (signOf m != signOf m) = false := by simp
      have t4 : (flowLike c d != flowLike c d) = false := by simp
      have t5 : (ok != ok) = false := by simp
      have t6 := eqL_self (strV s i)
      go_wp2_with fail
      refine (sGroupOf_any _ _ _ m _ (hrm.keep (step2 (step2 (step2 (step2 (step2 (step2 (step2 hb2 hb3) hb4) hb5) hb6) hb7) hb8) hb9))).mono ?_
      rintro e w10 ⟨vq, rfl, hoq, hb10⟩
      obtain ⟨aq, cq, rfl, hrq⟩ := hoq.form
      clear hoq
      go_wp2_with fail
      refine (ofD (sameInts_any _ _ _ (groupV m) _ _ _ (groupV m) _ (hrg.keep (step2 (step2 (step2 (step2 (step2 (step2 (step2 hb3 hb4) hb5) hb6) hb7) hb8) hb9) hb10)) hrq)).mono ?_
      rintro e w11 ⟨rfl, hb11⟩
      go_wp2_with fail
      refine (iSignOf_any _ _ _ m _ (hrm.keep (step2 (step2 (step2 (step2 (step2 (step2 (step2 (step2 (step2 hb2 hb3) hb4) hb5) hb6) hb7) hb8) hb9) hb10) hb11))).mono ?_
      rintro e w12 ⟨rfl, hb12⟩
      go_wp2_with fail
      refine (sSignOf_any _ _ _ m _ (hrm.keep (step2 (step2 (step2 (step2 (step2 (step2 (step2 (step2 (step2 (step2 hb2 hb3) hb4) hb5) hb6) hb7) hb8) hb9) hb10) hb11) hb12))).mono ?_
      rintro e w13 ⟨rfl, hb13⟩
      go_wp2_with fail
      refine (iDiffers_any _ _ _ a _ _ _ b _ (hra.keep (step2 (step2 (step2 (step2 (step2 (step2 (step2 (step2 (step2 hb4 hb5) hb6) hb7) hb8) hb9) hb10) hb11) hb12) hb13)) (hrb.keep (step2 (step2 (step2 (step2 (step2 (step2 (step2 (step2 (step2 hb4 hb5) hb6) hb7) hb8) hb9) hb10) hb11) hb12) hb13))).mono ?_
      rintro e w14 ⟨rfl, hb14⟩
      go_wp2_with fail
      refine (sDiffers_any _ _ _ a _ _ _ b _ (hra.keep (step2 (step2 (step2 (step2 (step2 (step2 (step2 (step2 (step2 (step2 hb4 hb5) hb6) hb7) hb8) hb9) hb10) hb11) hb12) hb13) hb14)) (hrb.keep (step2 (step2 (step2 (step2 (step2 (step2 (step2 (step2 (step2 (step2 hb4 hb5) hb6) hb7) hb8) hb9) hb10) hb11) hb12) hb13) hb14))).mono ?_
      rintro e w15 ⟨rfl, hb15⟩
      go_wp2_with fail
      refine (iFlowLike_any _ _ _ c _ _ _ d _ (hrc.keep (step2 (step2 (step2 (step2 (step2 (step2 (step2 (step2 (step2 (step2 hb5 hb6) hb7) hb8) hb9) hb10) hb11) hb12) hb13) hb14) hb15)) (hrd.keep (step2 (step2 (step2 (step2 (step2 (step2 (step2 (step2 (step2 (step2 hb5 hb6) hb7) hb8) hb9) hb10) hb11) hb12) hb13) hb14) hb15))).mono ?_
      rintro e w16 ⟨rfl, hb16⟩
      go_wp2_with fail
      refine (sFlowLike_any _ _ _ c _ _ _ d _ (hrc.keep (step2 (step2 (step2 (step2 (step2 (step2 (step2 (step2 (step2 (step2 (step2 hb5 hb6) hb7) hb8) hb9) hb10) hb11) hb12) hb13) hb14) hb15) hb16)) (hrd.keep (step2 (step2 (step2 (step2 (step2 (step2 (step2 (step2 (step2 (step2 (step2 hb5 hb6) hb7) hb8) hb9) hb10) hb11) hb12) hb13) hb14) hb15) hb16))).mono ?_
      rintro e w17 ⟨rfl, hb17⟩
      go_wp2_with fail
      refine (ofD (sameLists_any _ _ _ (strV s i) _ _ _ (strV s i) _ (hrx.keep (step2 (step2 (step2 (step2 (step2 (step2 (step2 (step2 (step2 (step2 hb7 hb8) hb9) hb10) hb11) hb12) hb13) hb14) hb15) hb16) hb17)) (hrw.keep (step2 (step2 (step2 (step2 (step2 (step2 (step2 (step2 (step2 hb8 hb9) hb10) hb11) hb12) hb13) hb14) hb15) hb16) hb17)))).mono ?_
      rintro e w18 ⟨rfl, hb18⟩
      go_wp2_with fail
      refine (iLines_any _ _ _ m _ (hrm.keep (step2 (step2 (step2 (step2 (step2 (step2 (step2 (step2 (step2 (step2 (step2 (step2 (step2 (step2 (step2 (step2 hb2 hb3) hb4) hb5) hb6) hb7) hb8) hb9) hb10) hb11) hb12) hb13) hb14) hb15) hb16) hb17) hb18)) (HMX.out.keep (step2 (step2 (step2 (step2 (step2 (step2 (step2 (step2 (step2 (step2 (step2 (step2 (step2 (step2 (step2 (step2 (step2 hb1 hb2) hb3) hb4) hb5) hb6) hb7) hb8) hb9) hb10) hb11) hb12) hb13) hb14) hb15) hb16) hb17) hb18))).mono ?_
      rintro e w19 ⟨vl, rfl, hol, hb19⟩
      obtain ⟨al, cl, rfl, _⟩ := hol.form
      have hrl := hol.read
      clear hol
      go_wp2_with fail
      refine (sLines_any _ _ _ m _ (hrm.keep (step2 (step2 (step2 (step2 (step2 (step2 (step2 (step2 (step2 (step2 (step2 (step2 (step2 (step2 (step2 (step2 (step2 hb2 hb3) hb4) hb5) hb6) hb7) hb8) hb9) hb10) hb11) hb12) hb13) hb14) hb15) hb16) hb17) hb18) hb19))).mono ?_
      rintro e w20 ⟨vk, rfl, hok2, hb20⟩
      obtain ⟨ak, ck, rfl, _⟩ := hok2.form
      have hrk := hok2.read
      clear hok2
      go_wp2_with fail
      refine (ofD (sameTexts_same _ _ _ _ _ _ _ _ (hrl.keep hb20) hrk)).mono ?_
      rintro e w21 ⟨rfl, hb21⟩
      go_wp2_with fail
      go_meet
      exact ⟨rfl, (step2 (step2 (step2 (step2 (step2 (step2 (step2 (step2 (step2 (step2 (step2 hb10 hb11) hb12) hb13) hb14) hb15) hb16) hb17) hb18) hb19) hb20) hb21)⟩
  case rest =>
  obtain ⟨rfl, hb10⟩ := hcut
  generalize wc = w10 at hb10 ⊢
  go_upto_region 14 with fail
  go_cut [146] (fun s146 wx => s146 = .bool false ∧ Below w10.heap.size w10 wx)
  case first =>
    as_aux_lemma =>
      cases ok
      · skip
        cases sp
        · go_wp2_with fail
          go_meet
          exact ⟨rfl, (Below.refl _ _)⟩
        · go_wp2_with fail
          refine (ofL (sIsSmall_any _ _ _ (nn) _ (hrn.keep (step2 hb9 hb10)))).mono ?_
          rintro e w11 ⟨rfl, hb11⟩
          generalize hsn : isSmallM (nn) = bsn
          cases bsn
          · clear hsn
            go_wp2_with fail
            go_meet
            exact ⟨rfl, hb11⟩
          · have HSN := Lib.hid hsn
            clear hsn
            go_wp2_with fail
            refine (ofL (sIsSmall_any _ _ _ (splV nn j pt) _ (hry.keep (step2 hb10 hb11)))).mono ?_
            rintro e w12 ⟨rfl, hb12⟩
            generalize hsy : isSmallM (splV nn j pt) = bsy
            cases bsy
            · clear hsy
              go_wp2_with fail
              go_meet
              exact ⟨rfl, (step2 hb11 hb12)⟩
            · have HD := Lib.hid (spl_law HSP.out HSN.out hsy)
              clear hsy
              go_wp2_with fail
              refine (iDiffers_any _ _ _ nn _ _ _ (splV nn j pt) _ (hrn.keep (step2 (step2 (step2 hb9 hb10) hb11) hb12)) (hry.keep (step2 (step2 hb10 hb11) hb12))).mono ?_
              rintro e w13 ⟨rfl, hb13⟩
              rw [HD.out, txtNone]
              go_wp2_with fail
              go_meet
              exact ⟨rfl, (step2 (step2 hb11 hb12) hb13)⟩
      · go_wp2_with fail
        refine (ofL (sIsSmall_any _ _ _ (s) _ (hrS.keep (step2 (step2 (step2 (step2 hb6 hb7) hb8) hb9) hb10)))).mono ?_
        rintro e w11 ⟨rfl, hb11⟩
        generalize hsS : isSmallM (s) = bsS
        cases bsS
        · clear hsS
          skip
          cases sp
          · go_wp2_with fail
            go_meet
            exact ⟨rfl, hb11⟩
          · go_wp2_with fail
            refine (ofL (sIsSmall_any _ _ _ (nn) _ (hrn.keep (step2 (step2 hb9 hb10) hb11)))).mono ?_
            rintro e w12 ⟨rfl, hb12⟩
            generalize hsn : isSmallM (nn) = bsn
            cases bsn
            · clear hsn
              go_wp2_with fail
              go_meet
              exact ⟨rfl, (step2 hb11 hb12)⟩
            · have HSN := Lib.hid hsn
              clear hsn
              go_wp2_with fail
              refine (ofL (sIsSmall_any _ _ _ (splV nn j pt) _ (hry.keep (step2 (step2 hb10 hb11) hb12)))).mono ?_
              rintro e w13 ⟨rfl, hb13⟩
              generalize hsy : isSmallM (splV nn j pt) = bsy
              cases bsy
              · clear hsy
                go_wp2_with fail
                go_meet
                exact ⟨rfl, (step2 (step2 hb11 hb12) hb13)⟩
              · have HD := Lib.hid (spl_law HSP.out HSN.out hsy)
                clear hsy
                go_wp2_with fail
                refine (iDiffers_any _ _ _ nn _ _ _ (splV nn j pt) _ (hrn.keep (step2 (step2 (step2 (step2 hb9 hb10) hb11) hb12) hb13)) (hry.keep (step2 (step2 (step2 hb10 hb11) hb12) hb13))).mono ?_
                rintro e w14 ⟨rfl, hb14⟩
                rw [HD.out, txtNone]
                go_wp2_with fail
                go_meet
                exact ⟨rfl, (step2 (step2 (step2 hb11 hb12) hb13) hb14)⟩
        · have HSS := Lib.hid hsS
          clear hsS
          go_wp2_with fail
          refine (ofL (sIsSmall_any _ _ _ (strV s i) _ (hrx.keep (step2 (step2 (step2 (step2 hb7 hb8) hb9) hb10) hb11)))).mono ?_
          rintro e w12 ⟨rfl, hb12⟩
          generalize hsx : isSmallM (strV s i) = bsx
          cases bsx
          · clear hsx
            skip
            cases sp
            · go_wp2_with fail
              go_meet
              exact ⟨rfl, (step2 hb11 hb12)⟩
            · go_wp2_with fail
              refine (ofL (sIsSmall_any _ _ _ (nn) _ (hrn.keep (step2 (step2 (step2 hb9 hb10) hb11) hb12)))).mono ?_
              rintro e w13 ⟨rfl, hb13⟩
              generalize hsn : isSmallM (nn) = bsn
              cases bsn
              · clear hsn
                go_wp2_with fail
                go_meet
                exact ⟨rfl, (step2 (step2 hb11 hb12) hb13)⟩
              · have HSN := Lib.hid hsn
                clear hsn
                go_wp2_with fail
                refine (ofL (sIsSmall_any _ _ _ (splV nn j pt) _ (hry.keep (step2 (step2 (step2 hb10 hb11) hb12) hb13)))).mono ?_
                rintro e w14 ⟨rfl, hb14⟩
                generalize hsy : isSmallM (splV nn j pt) = bsy
                cases bsy
                · clear hsy
                  go_wp2_with fail
                  go_meet
                  exact ⟨rfl, (step2 (step2 (step2 hb11 hb12) hb13) hb14)⟩
                · have HD := Lib.hid (spl_law HSP.out HSN.out hsy)
                  clear hsy
                  go_wp2_with fail
                  refine (iDiffers_any _ _ _ nn _ _ _ (splV nn j pt) _ (hrn.keep (step2 (step2 (step2 (step2 (step2 hb9 hb10) hb11) hb12) hb13) hb14)) (hry.keep (step2 (step2 (step2 (step2 hb10 hb11) hb12) hb13) hb14))).mono ?_
                  rintro e w15 ⟨rfl, hb15⟩
                  rw [HD.out, txtNone]
                  go_wp2_with fail
                  go_meet
                  exact ⟨rfl, (step2 (step2 (step2 (step2 hb11 hb12) hb13) hb14) hb15)⟩
          · have HFL := Lib.hid (str_law HOK.out HSS.out hsx)
            clear hsx
            go_wp2_with fail
            refine (iFlowLike_any _ _ _ s _ _ _ (strV s i) _ (hrS.keep (step2 (step2 (step2 (step2 (step2 (step2 hb6 hb7) hb8) hb9) hb10) hb11) hb12)) (hrx.keep (step2 (step2 (step2 (step2 (step2 hb7 hb8) hb9) hb10) hb11) hb12))).mono ?_
            rintro e w13 ⟨rfl, hb13⟩
            rw [HFL.out]
            cases sp
            · go_wp2_with fail
              go_meet
              exact ⟨rfl, (step2 (step2 hb11 hb12) hb13)⟩
            · go_wp2_with fail
              refine (ofL (sIsSmall_any _ _ _ (nn) _ (hrn.keep (step2 (step2 (step2 (step2 hb9 hb10) hb11) hb12) hb13)))).mono ?_
              rintro e w14 ⟨rfl, hb14⟩
              generalize hsn : isSmallM (nn) = bsn
              cases bsn
              · clear hsn
                go_wp2_with fail
                go_meet
                exact ⟨rfl, (step2 (step2 (step2 hb11 hb12) hb13) hb14)⟩
              · have HSN := Lib.hid hsn
                clear hsn
                go_wp2_with fail
                refine (ofL (sIsSmall_any _ _ _ (splV nn j pt) _ (hry.keep (step2 (step2 (step2 (step2 hb10 hb11) hb12) hb13) hb14)))).mono ?_
                rintro e w15 ⟨rfl, hb15⟩
                generalize hsy : isSmallM (splV nn j pt) = bsy
                cases bsy
                · clear hsy
                  go_wp2_with fail
                  go_meet
                  exact ⟨rfl, (step2 (step2 (step2 (step2 hb11 hb12) hb13) hb14) hb15)⟩
                · have HD := Lib.hid (spl_law HSP.out HSN.out hsy)
                  clear hsy
                  go_wp2_with fail
                  refine (iDiffers_any _ _ _ nn _ _ _ (splV nn j pt) _ (hrn.keep (step2 (step2 (step2 (step2 (step2 (step2 hb9 hb10) hb11) hb12) hb13) hb14) hb15)) (hry.keep (step2 (step2 (step2 (step2 (step2 hb10 hb11) hb12) hb13) hb14) hb15))).mono ?_
                  rintro e w16 ⟨rfl, hb16⟩
                  rw [HD.out, txtNone]
                  go_wp2_with fail
                  go_meet
                  exact ⟨rfl, (step2 (step2 (step2 (step2 (step2 hb11 hb12) hb13) hb14) hb15) hb16)⟩
  case rest =>
  obtain ⟨rfl, hb11⟩ := hcut
  generalize wc = w11 at hb11 ⊢
  go_upto_region 16 with fail
  go_cut [157] (fun s157 wx => s157 = .bool false ∧ Below w11.heap.size w11 wx)
  case first =>
    as_aux_lemma =>
      go_wp2_with fail
      refine (iSignOf_any _ _ _ m _ (hrm.keep (step2 (step2 (step2 (step2 (step2 (step2 (step2 (step2 (step2 hb2 hb3) hb4) hb5) hb6) hb7) hb8) hb9) hb10) hb11))).mono ?_
      rintro e w12 ⟨rfl, hb12⟩
      by_cases h1 : -1 ≤ signOf m
      · have d1 : decide (-1 ≤ signOf m) = true := decide_eq_true h1
        have HZ := Lib.hid (sign_zero (sign_range h1))
        clear h1
        go_wp2_with fail
        refine (iSignOf_any _ _ _ m _ (hrm.keep (step2 (step2 (step2 (step2 (step2 (step2 (step2 (step2 (step2 (step2 hb2 hb3) hb4) hb5) hb6) hb7) hb8) hb9) hb10) hb11) hb12))).mono ?_
        rintro e w13 ⟨rfl, hb13⟩
        go_wp2_with fail
        refine (ofD (hasInt_any _ _ _ (groupV m) 0 _ (hrg.keep (step2 (step2 (step2 (step2 (step2 (step2 (step2 (step2 (step2 (step2 hb3 hb4) hb5) hb6) hb7) hb8) hb9) hb10) hb11) hb12) hb13)))).mono ?_
        rintro e w14 ⟨rfl, hb14⟩
        rw [← HZ.out]
        have tz : ((signOf m == 0) != (signOf m == 0)) = false := by simp
        generalize (signOf m == 0) = zz at tz ⊢
        go_wp2_with fail
        go_meet
        exact ⟨rfl, (step2 (step2 hb12 hb13) hb14)⟩
      · have d1 : decide (-1 ≤ signOf m) = false := decide_eq_false h1
        clear h1
        go_wp2_with fail
        go_meet
        exact ⟨rfl, hb12⟩
  case rest =>
  obtain ⟨rfl, hb12⟩ := hcut
  generalize wc = w12 at hb12 ⊢
  go_wp2_with fail
  refine (ofL (sIsSmall_any _ _ _ m _ (hrm.keep (step2 (step2 (step2 (step2 (step2 (step2 (step2 (step2 (step2 (step2 hb2 hb3) hb4) hb5) hb6) hb7) hb8) hb9) hb10) hb11) hb12)))).mono ?_
  rintro e w13 ⟨rfl, hb13⟩
  go_wp2_with fail
  refine (iLines_any _ _ _ m _ (hrm.keep (step2 (step2 (step2 (step2 (step2 (step2 (step2 (step2 (step2 (step2 (step2 hb2 hb3) hb4) hb5) hb6) hb7) hb8) hb9) hb10) hb11) hb12) hb13)) (HMX.out.keep (step2 (step2 (step2 (step2 (step2 (step2 (step2 (step2 (step2 (step2 (step2 (step2 hb1 hb2) hb3) hb4) hb5) hb6) hb7) hb8) hb9) hb10) hb11) hb12) hb13))).mono ?_
  rintro e w14 ⟨vl, rfl, hol, hb14⟩
  obtain ⟨al, cl, rfl, _⟩ := hol.form
  clear hol
  cases hs : isSmallM m
  · have hl : linesV m = [] := by unfold linesV; rw [hs]; rfl
    have HS := Lib.hid hs
    rw [hl]
    clear hs hl
    go_wp2_with fail
    refine (ofL (sIsSmall_any _ _ _ m _ (hrm.keep (step2 (step2 (step2 (step2 (step2 (step2 (step2 (step2 (step2 (step2 (step2 (step2 hb2 hb3) hb4) hb5) hb6) hb7) hb8) hb9) hb10) hb11) hb12) hb13) hb14)))).mono ?_
    rintro e w15 ⟨rfl, hb15⟩
    rw [HS.out]
    go_wp2_with fail
    go_ret
    exact ⟨rfl, (step2 (step2 (step2 (step2 (step2 (step2 (step2 (step2 (step2 (step2 (step2 (step2 (step2 (step2 hb1 hb2) hb3) hb4) hb5) hb6) hb7) hb8) hb9) hb10) hb11) hb12) hb13) hb14) hb15)⟩
  · have HS := Lib.hid hs
    have hl : (linesV m).length = 2 := by unfold linesV; rw [hs]; rfl
    rw [hl]
    clear hs hl
    go_wp2_with fail
    refine (ofL (sIsSmall_any _ _ _ m _ (hrm.keep (step2 (step2 (step2 (step2 (step2 (step2 (step2 (step2 (step2 (step2 (step2 (step2 hb2 hb3) hb4) hb5) hb6) hb7) hb8) hb9) hb10) hb11) hb12) hb13) hb14)))).mono ?_
    rintro e w15 ⟨rfl, hb15⟩
    rw [HS.out]
    go_wp2_with fail
    refine (iDiffers_any _ _ _ m _ _ _ m _ (hrm.keep (step2 (step2 (step2 (step2 (step2 (step2 (step2 (step2 (step2 (step2 (step2 (step2 (step2 hb2 hb3) hb4) hb5) hb6) hb7) hb8) hb9) hb10) hb11) hb12) hb13) hb14) hb15)) (hrm.keep (step2 (step2 (step2 (step2 (step2 (step2 (step2 (step2 (step2 (step2 (step2 (step2 (step2 hb2 hb3) hb4) hb5) hb6) hb7) hb8) hb9) hb10) hb11) hb12) hb13) hb14) hb15))).mono ?_
    rintro e w16 ⟨rfl, hb16⟩
    rw [self_law HS.out, txtNone]
    go_wp2_with fail
    refine (sTurnM_any _ _ _ m _ (hrm.keep (step2 (step2 (step2 (step2 (step2 (step2 (step2 (step2 (step2 (step2 (step2 (step2 (step2 (step2 hb2 hb3) hb4) hb5) hb6) hb7) hb8) hb9) hb10) hb11) hb12) hb13) hb14) hb15) hb16))).mono ?_
    rintro e w17 ⟨vt, rfl, hoT, hb17⟩
    obtain ⟨aT, cT, rfl, hrT⟩ := hoT.form
    clear hoT
    go_wp2_with fail
    refine (iGroupOf_any _ _ _ (turnM m) _ hrT).mono ?_
    rintro e w18 ⟨vq, rfl, hoq, hb18⟩
    rw [turn_law HS.out] at hoq
    obtain ⟨aq, cq, rfl, hrq⟩ := hoq.form
    clear hoq
    go_wp2_with fail
    refine (ofD (sameInts_any _ _ _ (groupV m) _ _ _ (groupV m) _ hrq (hrg.keep (step2 (step2 (step2 (step2 (step2 (step2 (step2 (step2 (step2 (step2 (step2 (step2 (step2 (step2 (step2 hb3 hb4) hb5) hb6) hb7) hb8) hb9) hb10) hb11) hb12) hb13) hb14) hb15) hb16) hb17) hb18)))).mono ?_
    rintro e w19 ⟨rfl, hb19⟩
    rw [eqL_self]
    go_wp2_with fail
    go_ret
    exact ⟨rfl, (step2 (step2 (step2 (step2 (step2 (step2 (step2 (step2 (step2 (step2 (step2 (step2 (step2 (step2 (step2 (step2 (step2 (step2 hb1 hb2) hb3) hb4) hb5) hb6) hb7) hb8) hb9) hb10) hb11) hb12) hb13) hb14) hb15) hb16) hb17) hb18) hb19)⟩

namespace fnGroups
open Go.ChangeShapes Go.WideShapes Go.ChangeAt
open Go.ChangeMaps (open_string shut_string)
set_option maxRecDepth 100000 in
theorem lifted (os : Os) (started : os.Started) (H : Type) (enc : TypeId × Value → H) :
    ReturnsInHanded {} Tryz.checked os 3 .any (fun w args => (Rows.fnGroupsSpec.pre enc Tryz.prog Tryz.f3 [] false w args ∧ laidMetH Tryz.prog Rows.fnGroupsRow.laid w) ∧ sizedMet enc Tryz.prog Tryz.f3 (OpenSpec.ofChange Rows.fnGroupsSpec) false w args) (Rows.fnGroupsSpec.post enc Tryz.prog Tryz.f3 false true false false) := by
  refine returnsInHanded_door (C := Tryz.checked) (X := fun w _ => laidMetH Tryz.prog Rows.fnGroupsRow.laid w) (fun _ _ _ hh h => h.of_heap hh) ownKnobNone started (by kernel_rfl) Tryz.func3
    (ChangeSpec.witness_shaped (enc := enc) (C := Tryz.checked) (os := os) (X := fun w _ => laidMetH Tryz.prog Rows.fnGroupsRow.laid w) false (World.laidAll Tryz.prog os Rows.fnGroupsRow.laid) #[.slice none 0 0] 8 (World.laidAll_os _ _ _) (World.shaped_of_ZipB (by kernel_rfl) (by kernel_rfl)) (by kernel_rfl) (by kernel_rfl) (by kernel_rfl)
      (by rw [MakeChecks.laidMetH_plain _ _ _ (by kernel_rfl)]; exact laidMet_laidAll _ (by kernel_rfl) (by kernel_rfl))) ?_
  intro W base args ds gs before hval0 hW hL hsh
  have hval : ∀ (j : Nat) t v, Tryz.f3.params[j]? = some t → args[j]? = some v → Value.okWide Tryz.prog W .any base t v := hval0
  have hW' := hW
  obtain ⟨p, q, hA0, hV, rfl, hfz, hnd⟩ := hW
  have hA : DataW.TrodAll enc Tryz.prog W 0 (fun _ => true) true Tryz.f3.params.toList args.toList ds p := hA0
  rw [Tryz.params3] at hA hval
  obtain ⟨v0, vs0, d0, ds0, p0, q0, hargs, rfl, rfl, h0, r0⟩ := trodAll_cons hA
  obtain ⟨rfl, rfl, rfl⟩ := trodAll_nil r0
  obtain rfl : args = #[v0] := by cases args; simp_all
  obtain ⟨rfl, rfl⟩ := trodVars_none hV
  obtain ⟨a0, len0, cap0, rfl⟩ := okWide_slice Tryz.underlying22 (hval 0 22 v0 rfl rfl)
  have k0 := h0
  have lt0 : ∀ x ∈ p0, x.block < W.heap.size := by obtain ⟨m, hm⟩ := k0; exact DataW.trod_lt m _ _ _ hm
  obtain ⟨z0, w0⟩ := open_bytesIn h0
  clear hA0 hval0
  refine (fnGroups_walk a0 len0 cap0 z0 W w0 (powV_of (by kernel_rfl) (by first | exact .head _ | exact .tail _ (.head _) | exact .tail _ (.tail _ (.head _)) | exact .tail _ (.tail _ (.tail _ (.head _)))) hL)).mono fun e W' ⟨he, bel⟩ => ?_
  subst he
  exact ⟨_, rfl, _, _, _, [], _, [], hW', trodAll_mk1 (shut_bool Tryz.underlying4 _), (trodAll_cons_mk (Below.trod laidOutYes (by kernel_rfl) (of_decide_eq_true (by kernel_rfl)) k0 bel lt0) trodAll_mk0), rfl, bel.frame _, fun h => by cases h⟩

theorem over : Rows.fnGroupsRow.holds Tryz.pinned (OpenSpec.ofChange Rows.fnGroupsSpec) :=
  OpenClaim.holds_of_wide 3 Tryz.f3 rfl rfl rfl rfl rfl rfl rfl ⟨rfl, rfl, rfl, rfl, rfl⟩ rfl rfl rfl rfl rfl (by kernel_rfl) Tryz.func3 (by kernel_rfl)
    (of_decide_eq_true (by kernel_rfl)) (by unfold Func.isWrapper; first | (rw [if_pos (by decide +kernel)]; kernel_rfl) | (rw [if_neg (by decide +kernel)]; exact ⟨rfl, rfl⟩))
    (fun os started H enc _ => lifted os started H enc)

theorem proved : Rows.FnGroupsCardSaid :=
  Claim7.holds_tied_plain_at .later [] [.data, .data, .data] true (true, "67f0a82650ce431967658e7d7c06b8702a8723bb00aeefb739742cd0631f2c3a") false over (fun _ h => by cases h) (by kernel_rfl) (fun _ h => by cases h) fnGroups_row_tie rfl ⟨rfl, rfl⟩ (by kernel_rfl) rfl
    (fun f fn hf hfn => by
      obtain rfl : f = 3 := Option.some.inj ((show Tryz.prog.funcNamed "loop.example/g03103/laws.FnGroups" = some 3 by kernel_rfl).symm.trans hf) |>.symm
      obtain rfl : fn = Tryz.f3 := (Option.some.inj (Tryz.func3.symm.trans hfn)).symm
      exact ⟨by kernel_rfl, fun j t ht => by
        rw [Tryz.params3] at ht
        have hm : t ∈ [22] := by simpa using Array.mem_of_getElem? ht
        have hall : ([22].all fun u => !Tryz.prog.wantsStandIn u) = true := by kernel_rfl
        exact (show Tryz.prog.wantsStandIn t = false by simpa using List.all_eq_true.1 hall t hm)⟩)
    (by kernel_rfl)
end fnGroups

#print axioms fnGroups.proved
end Go.Proofs.YtbjoblgklcilpaaGreatDoor
