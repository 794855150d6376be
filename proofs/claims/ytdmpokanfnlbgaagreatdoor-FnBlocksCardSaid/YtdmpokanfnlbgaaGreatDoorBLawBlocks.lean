/- Proved here: the law FnBlocks returns true at every input, and leaves its argument as it was (the tied card). No condition. -/
import Derived.Test.YtdmpokanfnlbgaaGreatDoorRows
import Derived.Test.YtdmpokanfnlbgaaGreatDoorTie
import Derived.Test.YtdmpokanfnlbgaaGreatDoorCards
import Derived.BigQuiet
import Derived.HandedShaped
import Derived.Deep.RegionHeld3
import Derived.Test.YtdmpokanfnlbgaaGreatDoorProg
import Derived.Test.YtdmpokanfnlbgaaGreatDoorBG0a
import Derived.Test.YtdmpokanfnlbgaaGreatDoorBG2a
import Derived.Test.YtdmpokanfnlbgaaGreatDoorBG1b
import Derived.Test.YtdmpokanfnlbgaaGreatDoorBSBlockG
import Derived.Test.YtdmpokanfnlbgaaGreatDoorBSJoinG
import Derived.Test.YtdmpokanfnlbgaaGreatDoorBIJoinG
import Derived.Test.YtdmpokanfnlbgaaGreatDoorBSPairG
import Derived.Test.YtdmpokanfnlbgaaGreatDoorBSBlockW
import Derived.Test.YtdmpokanfnlbgaaGreatDoorBIBlockW
import Derived.Test.YtdmpokanfnlbgaaGreatDoorBG3a
import Derived.Test.YtdmpokanfnlbgaaGreatDoorBG1a
namespace Go.Proofs.YtdmpokanfnlbgaaGreatDoor
open Go.RowKit
set_option linter.all false
def PowM (w : World) : Prop := PowV w ∧ MaxM w
theorem PowM.keep {w w' : World} (h : PowM w) (hb : Below w.heap.size w w') : PowM w' := ⟨h.1.keep hb, h.2.keep hb⟩
set_option maxHeartbeats 25600000 in
set_option maxRecDepth 100000 in
theorem fnBlocks_walk (p0 : Option Addr) (n0 c0 : Nat) (z0 : List Int) (w : World) (h0 : BytesIn w p0 n0 z0) (hm : PowM w) :
    Calls Tryz.prog 3 #[.slice p0 n0 c0] w fun e w' => e = .returned (.bool true) ∧ Below w.heap.size w w' := by
  by_cases hbig : 1048576 < n0
  · go_enter Tryz.func3, Tryz.ntmps3
    go_wp2_with (go_at_call 4; refine (lBig_yes _ _ _ _ hbig).mono ?_; rintro e w' ⟨rfl, rfl⟩)
    go_ret
    exact ⟨rfl, Below.refl _ _⟩
  have HY : Hid (Bytes w p0 n0) := ⟨by omega, h0.cells⟩
  have HMX := Lib.hid hm
  clear h0 hm
  go_enter Tryz.func3, Tryz.ntmps3
  go_wp2_with (go_at_call 4; refine (lBig_no _ _ _ _ (by omega)).mono ?_; rintro e w' ⟨rfl, rfl⟩)
  refine (drawBlk_any _ _ _ _ HY.out).mono ?_
  rintro e w1 ⟨vm, m, rfl, hom, hb1⟩
  obtain ⟨am, cm, rfl, hrm⟩ := hom.form
  clear hom
  go_wp2_with fail
  refine (iBlockG_any _ _ _ m _ hrm).mono ?_
  rintro e w2 ⟨vx, rfl, hox, hb2⟩
  obtain ⟨ax, cx, rfl, hrx⟩ := hox.form
  clear hox
  generalize hok : blkOk m = ok
  have Hok := Lib.hid hok
  clear hok
  go_wp2_with fail
  refine (sBlockG_any _ _ _ m _ (hrm.keep hb2)).mono ?_
  rintro e w3 ⟨vr, rfl, hor, hb3⟩
  obtain ⟨ar, cr, rfl, hrr⟩ := hor.form
  clear hor
  rw [Hok.out]
  go_wp2_with fail
  refine (drawBlkW_any _ _ _ _ (HY.out.keep (step2 (step2 hb1 hb2) hb3))).mono ?_
  rintro e w4 ⟨K, vs, F, nw, rfl, hos, hF, hn3, hb4⟩
  obtain ⟨aS, cS, rfl, hrs0⟩ := hos.form
  have hrs := hos.read
  clear hos hrs0
  have HF : Hid (∀ f ∈ F, f.size ≤ 1048576) := fun f hf => by have := hF f hf; omega
  have kbx := Blk.new w4 30 #[.int .i64 K, .slice aS F.length cS]
  have hb5 := belowA w4 (.cells #[.int .i64 K, .slice aS F.length cS] 30)
  clear hF
  go_wp2_with fail
  generalize w4.alloc (.cells #[.int .i64 K, .slice aS F.length cS] 30) = w5 at kbx hb5 ⊢
  generalize w4.heap.size = gx at kbx ⊢
  refine (drawJoin_any _ _ _ _ (HY.out.keep (step2 (step2 (step2 (step2 hb1 hb2) hb3) hb4) hb5))).mono ?_
  rintro e w6 ⟨va, vb, a, b, rfl, hoa, hob, hb6⟩
  obtain ⟨aa, ca, rfl, hra⟩ := hoa.form
  clear hoa
  obtain ⟨ab, cb, rfl, hrb⟩ := hob.form
  clear hob
  go_wp2_with fail
  refine (iJoinG_any _ _ _ a _ _ _ b _ hra hrb).mono ?_
  rintro e w7 ⟨vj, rfl, hoj, hb7⟩
  obtain ⟨aj, cj, rfl, hrj⟩ := hoj.form
  clear hoj
  generalize hone : joinOk a b = one
  have Hone := Lib.hid hone
  clear hone
  go_wp2_with fail
  refine (sJoinG_any _ _ _ a _ _ _ b _ (hra.keep hb7) (hrb.keep hb7)).mono ?_
  rintro e w8 ⟨vk, rfl, hok, hb8⟩
  obtain ⟨ak, ck, rfl, hrk⟩ := hok.form
  clear hok
  rw [Hone.out]
  go_wp2_with fail
  refine (drawPair_any _ _ _ _ (HY.out.keep (step2 (step2 (step2 (step2 (step2 (step2 (step2 hb1 hb2) hb3) hb4) hb5) hb6) hb7) hb8))).mono ?_
  rintro e w9 ⟨vc, vd, c, d, rfl, hoc, hod, hb9⟩
  obtain ⟨ac, cc, rfl, hrc⟩ := hoc.form
  clear hoc
  obtain ⟨ad, cd, rfl, hrd⟩ := hod.form
  clear hod
  go_wp2_with fail
  refine (iPairG_any _ _ _ c _ _ _ d _ hrc hrd).mono ?_
  rintro e w10 ⟨vp, rfl, hop, hb10⟩
  obtain ⟨ap, cp, rfl, hrp⟩ := hop.form
  clear hop
  generalize hthree : pairOk c d = three
  have Hthree := Lib.hid hthree
  clear hthree
  go_wp2_with fail
  refine (sPairG_any _ _ _ c _ _ _ d _ (hrc.keep hb10) (hrd.keep hb10)).mono ?_
  rintro e w11 ⟨vq, rfl, hoq, hb11⟩
  obtain ⟨aq, cq, rfl, hrq⟩ := hoq.form
  clear hoq
  rw [Hthree.out]
  go_wp2_with fail
  refine (drawPowG_any _ _ _ _ (HY.out.keep (step2 (step2 (step2 (step2 (step2 (step2 (step2 (step2 (step2 (step2 hb1 hb2) hb3) hb4) hb5) hb6) hb7) hb8) hb9) hb10) hb11))).mono ?_
  rintro e w12 ⟨vu, u, l, rfl, hou, hb12⟩
  obtain ⟨au, cu, rfl, hru⟩ := hou.form
  clear hou
  go_wp2_with fail
  refine (iPowG_any _ _ _ u l _ hru).mono ?_
  rintro e w13 ⟨ve, rfl, hoe, hb13⟩
  obtain ⟨ae, ce, rfl, hre⟩ := hoe.form
  clear hoe
  generalize hfive : pwgOk u l = five
  have Hfive := Lib.hid hfive
  clear hfive
  go_wp2_with fail
  refine (sPowG_any _ _ _ u l _ (hru.keep hb13)).mono ?_
  rintro e w14 ⟨vf, rfl, hof, hb14⟩
  obtain ⟨af, cf, rfl, hrf⟩ := hof.form
  clear hof
  rw [Hfive.out]
  go_wp2_with fail
  refine (drawIsBlk_any _ _ _ _ (HY.out.keep (step2 (step2 (step2 (step2 (step2 (step2 (step2 (step2 (step2 (step2 (step2 (step2 (step2 hb1 hb2) hb3) hb4) hb5) hb6) hb7) hb8) hb9) hb10) hb11) hb12) hb13) hb14))).mono ?_
  rintro e w15 ⟨vg, vh, g, h, rfl, hog, hoh, hb15⟩
  obtain ⟨ag, cg, rfl, hrg⟩ := hog.form
  clear hog
  obtain ⟨ah, ch, rfl, hrh⟩ := hoh.form
  clear hoh
  go_wp2_with fail
  go_cut [166] (fun s166 wx => s166 = .bool false ∧ Below w15.heap.size w15 wx)
  case first =>
    as_aux_lemma =>
      have QX := Lib.hid (hrx.keep (step2 (step2 (step2 (step2 (step2 (step2 (step2 (step2 (step2 (step2 (step2 (step2 hb3 hb4) hb5) hb6) hb7) hb8) hb9) hb10) hb11) hb12) hb13) hb14) hb15))
      have QR := Lib.hid (hrr.keep (step2 (step2 (step2 (step2 (step2 (step2 (step2 (step2 (step2 (step2 (step2 hb4 hb5) hb6) hb7) hb8) hb9) hb10) hb11) hb12) hb13) hb14) hb15))
      have QS := Lib.hid (hrs.keep (step2 (step2 (step2 (step2 (step2 (step2 (step2 (step2 (step2 (step2 hb5 hb6) hb7) hb8) hb9) hb10) hb11) hb12) hb13) hb14) hb15))
      have QJ := Lib.hid (hrj.keep (step2 (step2 (step2 (step2 (step2 (step2 (step2 hb8 hb9) hb10) hb11) hb12) hb13) hb14) hb15))
      have QKK := Lib.hid (hrk.keep (step2 (step2 (step2 (step2 (step2 (step2 hb9 hb10) hb11) hb12) hb13) hb14) hb15))
      have QPP := Lib.hid (hrp.keep (step2 (step2 (step2 (step2 hb11 hb12) hb13) hb14) hb15))
      have QQ := Lib.hid (hrq.keep (step2 (step2 (step2 hb12 hb13) hb14) hb15))
      have QE := Lib.hid (hre.keep (step2 hb14 hb15))
      have QFF := Lib.hid (hrf.keep hb15)
      have QGG := Lib.hid hrg
      have QHH := Lib.hid hrh
      have QM := Lib.hid (HMX.out.keep (step2 (step2 (step2 (step2 (step2 (step2 (step2 (step2 (step2 (step2 (step2 (step2 (step2 (step2 hb1 hb2) hb3) hb4) hb5) hb6) hb7) hb8) hb9) hb10) hb11) hb12) hb13) hb14) hb15))
      have QB := Lib.hid (kbx.keep (step2 (step2 (step2 (step2 (step2 (step2 (step2 (step2 (step2 hb6 hb7) hb8) hb9) hb10) hb11) hb12) hb13) hb14) hb15))
      have HD := Lib.hid (below_drewN (Below.refl w15.heap.size w15) 1)
      have HS : Hid (∀ w' : World, Below w15.heap.size w15 w' → w'.cell? ⟨gx, 0, none⟩ = some (.int .i64 K) ∧ w'.cell? ⟨gx, 1, none⟩ = some (.slice aS F.length cS)) := fun w' hb => ⟨(QB.out.keep hb).cell 0, (QB.out.keep hb).cell 1⟩
      have z0 := HS.out _ HD.out
      have z1 := z0.2
      have z2 := z0.1
      clear z0
      go_region_held3 (fun w' => w'.cell? ⟨gx, 0, none⟩ = some (.int .i64 K) ∧ w'.cell? ⟨gx, 1, none⟩ = some (.slice aS F.length cS)) (first | exact HS.out _ bi.out | exact HS.out _ bh.out | exact HS.out _ bg.out | exact HS.out _ bf.out | exact HS.out _ be.out | exact HS.out _ bd.out | exact HS.out _ bc.out | exact HS.out _ bb.out | exact HS.out _ ba.out | exact HS.out _ HD.out | go_keep) (first
        | (go_at_call 24; refine (sIsBlk_any _ _ _ g _ _ _ h _ (QGG.out.keep bh.out) (QHH.out.keep bh.out)).mono ?_; rintro e ui ⟨rfl, hb⟩; have bi := Lib.hid (step2 bh.out hb); clear hb)
        | (go_at_call 23; refine (iIsBlk_any _ _ _ g _ _ _ h _ (QGG.out.keep bg.out) (QHH.out.keep bg.out)).mono ?_; rintro e uh ⟨rfl, hb⟩; have bh := Lib.hid (step2 bg.out hb); clear hb)
        | (go_at_call 19; refine (ofD (sameLists_any _ _ _ (pwgV u l) _ _ _ (pwgV u l) _ (QE.out.keep bf.out) (QFF.out.keep bf.out))).mono ?_; rw [eqL_self]; rintro e ug ⟨rfl, hb⟩; have bg := Lib.hid (step2 bf.out hb); clear hb)
        | (go_at_call 19; refine (ofD (sameLists_any _ _ _ (pairV c d) _ _ _ (pairV c d) _ (QPP.out.keep be.out) (QQ.out.keep be.out))).mono ?_; rw [eqL_self]; rintro e uf ⟨rfl, hb⟩; have bf := Lib.hid (step2 be.out hb); clear hb)
        | (go_at_call 19; refine (ofD (sameLists_any _ _ _ (joinV a b) _ _ _ (joinV a b) _ (QJ.out.keep bd.out) (QKK.out.keep bd.out))).mono ?_; rw [eqL_self]; rintro e ue ⟨rfl, hb⟩; have be := Lib.hid (step2 bd.out hb); clear hb)
        | (go_at_call 20; refine (ofD (sameTexts_same _ _ _ _ _ _ (blkW K F nw) _ (QWb.out.keep hb2c.out) QWc.out)).mono ?_; rintro e ud ⟨rfl, hb⟩; have bd := Lib.hid (step2 bc.out hb); clear hb)
        | (go_at_call 22; refine (sBlockW_any K aS F.length cS F nw _ (QS.out.keep bb.out) HF.out).mono ?_; rintro e uc ⟨vw, rfl, how, hb⟩; have bc := Lib.hid (step2 bb.out hb); have hb2c := Lib.hid hb; obtain ⟨awc, cwc, rfl, _⟩ := how.form; have hrw := how.read; have QWc := Lib.hid hrw; clear how hrw; clear hb)
        | (go_at_call 21; refine (iBlockW_any K aS F.length cS F nw _ (QS.out.keep ba.out) HF.out (QM.out.keep ba.out).2 (QM.out.keep ba.out).1).mono ?_; rw [blk_eq]; rintro e ub ⟨vw, rfl, how, hb⟩; have bb := Lib.hid (step2 ba.out hb); obtain ⟨awb, cwb, rfl, _⟩ := how.form; have hrw := how.read; have QWb := Lib.hid hrw; clear how hrw; clear hb)
        | (go_at_call 19; refine (ofD (sameLists_any _ _ _ (blkV m) _ _ _ (blkV m) _ (QX.out.keep HD.out) (QR.out.keep HD.out))).mono ?_; rw [eqL_self]; rintro e ua ⟨rfl, hb⟩; have ba := Lib.hid (step2 HD.out hb); clear hb))
      all_goals (go_wp2_with fail; go_meet; exact ⟨rfl, bi.out⟩)
  case rest =>
  obtain ⟨rfl, hb16⟩ := hcut
  generalize wc = w16 at hb16 ⊢
  have Tm := Lib.hid (hrm.keep (step2 (step2 (step2 (step2 (step2 (step2 (step2 (step2 (step2 (step2 (step2 (step2 (step2 (step2 hb2 hb3) hb4) hb5) hb6) hb7) hb8) hb9) hb10) hb11) hb12) hb13) hb14) hb15) hb16))
  have Tx := Lib.hid (hrx.keep (step2 (step2 (step2 (step2 (step2 (step2 (step2 (step2 (step2 (step2 (step2 (step2 (step2 hb3 hb4) hb5) hb6) hb7) hb8) hb9) hb10) hb11) hb12) hb13) hb14) hb15) hb16))
  have Ta := Lib.hid (hra.keep (step2 (step2 (step2 (step2 (step2 (step2 (step2 (step2 (step2 hb7 hb8) hb9) hb10) hb11) hb12) hb13) hb14) hb15) hb16))
  have Tb := Lib.hid (hrb.keep (step2 (step2 (step2 (step2 (step2 (step2 (step2 (step2 (step2 hb7 hb8) hb9) hb10) hb11) hb12) hb13) hb14) hb15) hb16))
  have Tj := Lib.hid (hrj.keep (step2 (step2 (step2 (step2 (step2 (step2 (step2 (step2 hb8 hb9) hb10) hb11) hb12) hb13) hb14) hb15) hb16))
  have Tc := Lib.hid (hrc.keep (step2 (step2 (step2 (step2 (step2 (step2 hb10 hb11) hb12) hb13) hb14) hb15) hb16))
  have Td := Lib.hid (hrd.keep (step2 (step2 (step2 (step2 (step2 (step2 hb10 hb11) hb12) hb13) hb14) hb15) hb16))
  have Tp := Lib.hid (hrp.keep (step2 (step2 (step2 (step2 (step2 hb11 hb12) hb13) hb14) hb15) hb16))
  have HW := Lib.hid (step2 (step2 (step2 (step2 (step2 (step2 (step2 (step2 (step2 (step2 (step2 (step2 (step2 (step2 (step2 hb1 hb2) hb3) hb4) hb5) hb6) hb7) hb8) hb9) hb10) hb11) hb12) hb13) hb14) hb15) hb16)
  go_wp2_with fail
  go_loopw [30] (fun v wr => ∃ i : Nat, 1 ≤ i ∧ i ≤ 5 ∧ v = .int .i64 i ∧ Below w16.heap.size w16 wr) (fun v _ => 5 - (intOf v).toNat)
  case atStart => exact ⟨1, Nat.le_refl _, by omega, rfl, Below.refl _ _⟩
  case round =>
    obtain ⟨i, hi1, hi5, rfl, hbl⟩ := hrel
    have hrm := Tm.out.keep hbl
    have hrx := Tx.out.keep hbl
    have hra := Ta.out.keep hbl
    have hrb := Tb.out.keep hbl
    have hrj := Tj.out.keep hbl
    have hrc := Tc.out.keep hbl
    have hrd := Td.out.keep hbl
    have hrp := Tp.out.keep hbl
    obtain ⟨w17, rfl⟩ : ∃ z : World, z = wr := ⟨_, rfl⟩
    have HBL := Lib.hid hbl
    clear hbl
    by_cases hlt : i ≤ 4
    · have d0 : decide ((i : Int) ≤ 4) = true := decide_eq_true (by omega)
      go_upto_region 22 with fail
      go_cut [180] (fun s180 wx => s180 = .bool false ∧ Below w17.heap.size w17 wx)
      case first =>
        as_aux_lemma =>
          cases ok
          · go_wp2_with fail
            go_meet
            exact ⟨rfl, (Below.refl _ _)⟩
          · have hne : (closed (blkV m) i != closed m i) = false := by rw [blk_closed Hok.out hi1 hlt]; simp
            go_wp2_with fail
            refine (sClosed_any _ _ _ (blkV m) i _ hrx).mono ?_
            rintro e w18 ⟨rfl, hb18⟩
            go_wp2_with fail
            refine (sClosed_any _ _ _ m i _ (hrm.keep hb18)).mono ?_
            rintro e w19 ⟨rfl, hb19⟩
            go_wp2_with fail
            go_meet
            exact ⟨rfl, (step2 hb18 hb19)⟩
      case rest =>
      obtain ⟨rfl, hb18⟩ := hcut
      generalize wc = w18 at hb18 ⊢
      go_upto_region 24 with fail
      go_cut [212] (fun s212 wx => s212 = .bool false ∧ Below w18.heap.size w18 wx)
      case first =>
        as_aux_lemma =>
          cases one
          · go_wp2_with fail
            go_meet
            exact ⟨rfl, (Below.refl _ _)⟩
          · skip
            by_cases h1 : 0 ≤ closed a i
            · have e1 : decide (0 ≤ closed a i) = true := decide_eq_true h1
              by_cases h2 : 0 ≤ closed b i
              · have e2 : decide (0 ≤ closed b i) = true := decide_eq_true h2
                by_cases h4 : 0 ≤ closed (joinV a b) i
                · have e4 : decide (0 ≤ closed (joinV a b) i) = true := decide_eq_true h4
                  have hne : (closed (joinV a b) i != wrap64 (closed a i + closed b i)) = false := by rw [← join_closed Hone.out h1 h2 h4]; simp
                  clear h1 h2 h4
                  go_wp2_with fail
                  refine (sClosed_any _ _ _ (a) i _ (hra.keep hb18)).mono ?_
                  rintro e w19 ⟨rfl, hb19⟩
                  go_wp2_with fail
                  refine (sClosed_any _ _ _ (b) i _ (hrb.keep (step2 hb18 hb19))).mono ?_
                  rintro e w20 ⟨rfl, hb20⟩
                  go_wp2_with fail
                  refine (sClosed_any _ _ _ (joinV a b) i _ (hrj.keep (step2 (step2 hb18 hb19) hb20))).mono ?_
                  rintro e w21 ⟨rfl, hb21⟩
                  go_wp2_with fail
                  refine (sClosed_any _ _ _ (joinV a b) i _ (hrj.keep (step2 (step2 (step2 hb18 hb19) hb20) hb21))).mono ?_
                  rintro e w22 ⟨rfl, hb22⟩
                  go_wp2_with fail
                  refine (sClosed_any _ _ _ (a) i _ (hra.keep (step2 (step2 (step2 (step2 hb18 hb19) hb20) hb21) hb22))).mono ?_
                  rintro e w23 ⟨rfl, hb23⟩
                  go_wp2_with fail
                  refine (sClosed_any _ _ _ (b) i _ (hrb.keep (step2 (step2 (step2 (step2 (step2 hb18 hb19) hb20) hb21) hb22) hb23))).mono ?_
                  rintro e w24 ⟨rfl, hb24⟩
                  go_wp2_with fail
                  go_meet
                  exact ⟨rfl, (step2 (step2 (step2 (step2 (step2 hb19 hb20) hb21) hb22) hb23) hb24)⟩
                · have e4 : decide (0 ≤ closed (joinV a b) i) = false := decide_eq_false h4
                  clear h1 h2 h4
                  go_wp2_with fail
                  refine (sClosed_any _ _ _ (a) i _ (hra.keep hb18)).mono ?_
                  rintro e w19 ⟨rfl, hb19⟩
                  go_wp2_with fail
                  refine (sClosed_any _ _ _ (b) i _ (hrb.keep (step2 hb18 hb19))).mono ?_
                  rintro e w20 ⟨rfl, hb20⟩
                  go_wp2_with fail
                  refine (sClosed_any _ _ _ (joinV a b) i _ (hrj.keep (step2 (step2 hb18 hb19) hb20))).mono ?_
                  rintro e w21 ⟨rfl, hb21⟩
                  go_wp2_with fail
                  go_meet
                  exact ⟨rfl, (step2 (step2 hb19 hb20) hb21)⟩
              · have e2 : decide (0 ≤ closed b i) = false := decide_eq_false h2
                clear h1 h2
                go_wp2_with fail
                refine (sClosed_any _ _ _ (a) i _ (hra.keep hb18)).mono ?_
                rintro e w19 ⟨rfl, hb19⟩
                go_wp2_with fail
                refine (sClosed_any _ _ _ (b) i _ (hrb.keep (step2 hb18 hb19))).mono ?_
                rintro e w20 ⟨rfl, hb20⟩
                go_wp2_with fail
                go_meet
                exact ⟨rfl, (step2 hb19 hb20)⟩
            · have e1 : decide (0 ≤ closed a i) = false := decide_eq_false h1
              clear h1
              go_wp2_with fail
              refine (sClosed_any _ _ _ (a) i _ (hra.keep hb18)).mono ?_
              rintro e w19 ⟨rfl, hb19⟩
              go_wp2_with fail
              go_meet
              exact ⟨rfl, hb19⟩
      case rest =>
      obtain ⟨rfl, hb19⟩ := hcut
      generalize wc = w19 at hb19 ⊢
      go_upto_region 26 with fail
      go_cut [248] (fun s248 wx => s248 = .bool false ∧ Below w19.heap.size w19 wx)
      case first =>
        as_aux_lemma =>
          cases three
          · go_wp2_with fail
            go_meet
            exact ⟨rfl, (Below.refl _ _)⟩
          · skip
            by_cases h3 : i < 3
            · have d3 : decide ((i : Int) < 3) = true := decide_eq_true (by omega)
              by_cases h1 : 0 ≤ closed c i
              · have e1 : decide (0 ≤ closed c i) = true := decide_eq_true h1
                by_cases h2 : 0 ≤ closed d i
                · have e2 : decide (0 ≤ closed d i) = true := decide_eq_true h2
                  by_cases h4 : 0 ≤ closed (pairV c d) i
                  · have e4 : decide (0 ≤ closed (pairV c d) i) = true := decide_eq_true h4
                    have hne : (closed (pairV c d) i != wrap64 (closed c i * closed d i)) = false := by rw [← pair_closed Hthree.out h1 h2 h4]; simp
                    clear h1 h2 h4
                    go_wp2_with fail
                    refine (sClosed_any _ _ _ (c) i _ (hrc.keep (step2 hb18 hb19))).mono ?_
                    rintro e w20 ⟨rfl, hb20⟩
                    go_wp2_with fail
                    refine (sClosed_any _ _ _ (d) i _ (hrd.keep (step2 (step2 hb18 hb19) hb20))).mono ?_
                    rintro e w21 ⟨rfl, hb21⟩
                    go_wp2_with fail
                    refine (sClosed_any _ _ _ (pairV c d) i _ (hrp.keep (step2 (step2 (step2 hb18 hb19) hb20) hb21))).mono ?_
                    rintro e w22 ⟨rfl, hb22⟩
                    go_wp2_with fail
                    refine (sClosed_any _ _ _ (pairV c d) i _ (hrp.keep (step2 (step2 (step2 (step2 hb18 hb19) hb20) hb21) hb22))).mono ?_
                    rintro e w23 ⟨rfl, hb23⟩
                    go_wp2_with fail
                    refine (sClosed_any _ _ _ (c) i _ (hrc.keep (step2 (step2 (step2 (step2 (step2 hb18 hb19) hb20) hb21) hb22) hb23))).mono ?_
                    rintro e w24 ⟨rfl, hb24⟩
                    go_wp2_with fail
                    refine (sClosed_any _ _ _ (d) i _ (hrd.keep (step2 (step2 (step2 (step2 (step2 (step2 hb18 hb19) hb20) hb21) hb22) hb23) hb24))).mono ?_
                    rintro e w25 ⟨rfl, hb25⟩
                    go_wp2_with fail
                    go_meet
                    exact ⟨rfl, (step2 (step2 (step2 (step2 (step2 hb20 hb21) hb22) hb23) hb24) hb25)⟩
                  · have e4 : decide (0 ≤ closed (pairV c d) i) = false := decide_eq_false h4
                    clear h1 h2 h4
                    go_wp2_with fail
                    refine (sClosed_any _ _ _ (c) i _ (hrc.keep (step2 hb18 hb19))).mono ?_
                    rintro e w20 ⟨rfl, hb20⟩
                    go_wp2_with fail
                    refine (sClosed_any _ _ _ (d) i _ (hrd.keep (step2 (step2 hb18 hb19) hb20))).mono ?_
                    rintro e w21 ⟨rfl, hb21⟩
                    go_wp2_with fail
                    refine (sClosed_any _ _ _ (pairV c d) i _ (hrp.keep (step2 (step2 (step2 hb18 hb19) hb20) hb21))).mono ?_
                    rintro e w22 ⟨rfl, hb22⟩
                    go_wp2_with fail
                    go_meet
                    exact ⟨rfl, (step2 (step2 hb20 hb21) hb22)⟩
                · have e2 : decide (0 ≤ closed d i) = false := decide_eq_false h2
                  clear h1 h2
                  go_wp2_with fail
                  refine (sClosed_any _ _ _ (c) i _ (hrc.keep (step2 hb18 hb19))).mono ?_
                  rintro e w20 ⟨rfl, hb20⟩
                  go_wp2_with fail
                  refine (sClosed_any _ _ _ (d) i _ (hrd.keep (step2 (step2 hb18 hb19) hb20))).mono ?_
                  rintro e w21 ⟨rfl, hb21⟩
                  go_wp2_with fail
                  go_meet
                  exact ⟨rfl, (step2 hb20 hb21)⟩
              · have e1 : decide (0 ≤ closed c i) = false := decide_eq_false h1
                clear h1
                go_wp2_with fail
                refine (sClosed_any _ _ _ (c) i _ (hrc.keep (step2 hb18 hb19))).mono ?_
                rintro e w20 ⟨rfl, hb20⟩
                go_wp2_with fail
                go_meet
                exact ⟨rfl, hb20⟩
            · have d3 : decide ((i : Int) < 3) = false := decide_eq_false (by omega)
              go_wp2_with fail
              go_meet
              exact ⟨rfl, (Below.refl _ _)⟩
      case rest =>
      obtain ⟨rfl, hb20⟩ := hcut
      generalize wc = w20 at hb20 ⊢
      have HE := Lib.hid (step2 (step2 hb18 hb19) hb20)
      go_wp2_with fail
      go_roundw
      case rel => exact ⟨i + 1, by omega, by omega, by go_num, step2 HBL.out HE.out⟩
      case measure => (simp [intOf] <;> omega)
    · have d0 : decide ((i : Int) ≤ 4) = false := decide_eq_false (by omega)
      cases ok
      · go_wp2_with fail
        go_ret
        exact ⟨rfl, step2 HW.out HBL.out⟩
      · have hbk : isBlk m (blkV m) = true := by simp [isBlk, Hok.out, eqL_self]
        have hsm : (sumOf (blkV m) == cntP m 2) = true := by rw [blk_sum Hok.out]; simp
        have HBK := Lib.hid hbk
        clear hbk
        go_wp2_with fail
        refine (iIsBlk_any _ _ _ m _ _ _ (blkV m) _ hrm hrx).mono ?_
        rintro e w18 ⟨rfl, hb18⟩
        rw [HBK.out]
        go_wp2_with fail
        refine (ofL (sSumOf_any _ _ _ (blkV m) _ (hrx.keep hb18))).mono ?_
        rintro e w19 ⟨rfl, hb19⟩
        go_wp2_with fail
        refine (sCntP_any _ _ _ m 2 _ (hrm.keep (step2 hb18 hb19))).mono ?_
        rintro e w20 ⟨rfl, hb20⟩
        go_wp2_with fail
        go_ret
        exact ⟨rfl, step2 (step2 HW.out HBL.out) (step2 (step2 hb18 hb19) hb20)⟩

namespace fnBlocks
open Go.ChangeShapes Go.WideShapes Go.ChangeAt
open Go.ChangeMaps (open_string shut_string)
set_option maxRecDepth 100000 in
theorem lifted (os : Os) (started : os.Started) (H : Type) (enc : TypeId × Value → H) :
    ReturnsInHanded {} Tryz.checked os 3 .any (fun w args => (Rows.fnBlocksSpec.pre enc Tryz.prog Tryz.f3 [] false w args ∧ laidMetH Tryz.prog Rows.fnBlocksRow.laid w) ∧ sizedMet enc Tryz.prog Tryz.f3 (OpenSpec.ofChange Rows.fnBlocksSpec) false w args) (Rows.fnBlocksSpec.post enc Tryz.prog Tryz.f3 false true false false) := by
  refine returnsInHanded_door (C := Tryz.checked) (X := fun w _ => laidMetH Tryz.prog Rows.fnBlocksRow.laid w) (fun _ _ _ hh h => h.of_heap hh) ownKnobNone started (by kernel_rfl) Tryz.func3
    (ChangeSpec.witness_shaped (enc := enc) (C := Tryz.checked) (os := os) (X := fun w _ => laidMetH Tryz.prog Rows.fnBlocksRow.laid w) false (World.laidAll Tryz.prog os Rows.fnBlocksRow.laid) #[.slice none 0 0] 8 (World.laidAll_os _ _ _) (World.shaped_of_ZipB (by kernel_rfl) (by kernel_rfl)) (by kernel_rfl) (by kernel_rfl) (by kernel_rfl)
      (by rw [MakeChecks.laidMetH_plain _ _ _ (by kernel_rfl)]; exact laidMet_laidAll _ (by kernel_rfl) (by kernel_rfl))) ?_
  intro W base args ds gs before hval0 hW hL hsh
  have hval : ∀ (j : Nat) t v, Tryz.f3.params[j]? = some t → args[j]? = some v → Value.okWide Tryz.prog W .any base t v := hval0
  have hW' := hW
  obtain ⟨p, q, hA0, hV, rfl, hfz, hnd⟩ := hW
  have hA : DataW.TrodAll enc Tryz.prog W 0 (fun _ => true) true Tryz.f3.params.toList args.toList ds p := hA0
  rw [Tryz.params3] at hA hval
  obtain ⟨v0, vs0, d0, ds0, p0, q0, hargs, rfl, rfl, h0, r0⟩ := trodAll_cons hA
  obtain ⟨rfl, rfl, rfl⟩ := trodAll_nil r0
  obtain rfl : args = #[v0] := by cases args; simp_all
  obtain ⟨rfl, rfl⟩ := trodVars_none hV
  obtain ⟨a0, len0, cap0, rfl⟩ := okWide_slice Tryz.underlying22 (hval 0 22 v0 rfl rfl)
  have k0 := h0
  have lt0 : ∀ x ∈ p0, x.block < W.heap.size := by obtain ⟨m, hm⟩ := k0; exact DataW.trod_lt m _ _ _ hm
  obtain ⟨z0, w0⟩ := open_bytesIn h0
  clear hA0 hval0
  refine (fnBlocks_walk a0 len0 cap0 z0 W w0 (⟨powV_of (by kernel_rfl) (by first | exact .head _ | exact .tail _ (.head _) | exact .tail _ (.tail _ (.head _)) | exact .tail _ (.tail _ (.tail _ (.head _)))) hL, maxM_of hsh⟩)).mono fun e W' ⟨he, bel⟩ => ?_
  subst he
  exact ⟨_, rfl, _, _, _, [], _, [], hW', trodAll_mk1 (shut_bool Tryz.underlying4 _), (trodAll_cons_mk (Below.trod laidOutYes (by kernel_rfl) (of_decide_eq_true (by kernel_rfl)) k0 bel lt0) trodAll_mk0), rfl, bel.frame _, fun h => by cases h⟩

theorem over : Rows.fnBlocksRow.holds Tryz.pinned (OpenSpec.ofChange Rows.fnBlocksSpec) :=
  OpenClaim.holds_of_wide 3 Tryz.f3 rfl rfl rfl rfl rfl rfl rfl ⟨rfl, rfl, rfl, rfl, rfl⟩ rfl rfl rfl rfl rfl (by kernel_rfl) Tryz.func3 (by kernel_rfl)
    (of_decide_eq_true (by kernel_rfl)) (by unfold Func.isWrapper; first | (rw [if_pos (by decide +kernel)]; kernel_rfl) | (rw [if_neg (by decide +kernel)]; exact ⟨rfl, rfl⟩))
    (fun os started H enc _ => lifted os started H enc)

theorem proved : Rows.FnBlocksCardSaid :=
  Claim7.holds_tied_plain_at .later [] [.data, .data, .data] true (true, "200294f5d6c658dfd30b0d0c1d3fe0bb47ba9089811cfb9d4f47cc880cd7d082") false over (fun _ h => by cases h) (by kernel_rfl) (fun _ h => by cases h) fnBlocks_row_tie rfl ⟨rfl, rfl⟩ (by kernel_rfl) rfl
    (fun f fn hf hfn => by
      obtain rfl : f = 3 := Option.some.inj ((show Tryz.prog.funcNamed "loop.example/g03103/laws.FnBlocks" = some 3 by kernel_rfl).symm.trans hf) |>.symm
      obtain rfl : fn = Tryz.f3 := (Option.some.inj (Tryz.func3.symm.trans hfn)).symm
      exact ⟨by kernel_rfl, fun j t ht => by
        rw [Tryz.params3] at ht
        have hm : t ∈ [22] := by simpa using Array.mem_of_getElem? ht
        have hall : ([22].all fun u => !Tryz.prog.wantsStandIn u) = true := by kernel_rfl
        exact (show Tryz.prog.wantsStandIn t = false by simpa using List.all_eq_true.1 hall t hm)⟩)
    (by kernel_rfl)
end fnBlocks

#print axioms fnBlocks.proved
end Go.Proofs.YtdmpokanfnlbgaaGreatDoor
