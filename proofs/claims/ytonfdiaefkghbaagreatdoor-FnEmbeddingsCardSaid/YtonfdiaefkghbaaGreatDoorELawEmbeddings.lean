/- Proved here: the law FnEmbeddings returns true at every input, and leaves its argument as it was. No condition. -/
import Derived.Test.YtonfdiaefkghbaaGreatDoorRows
import Derived.Test.YtonfdiaefkghbaaGreatDoorTie
import Derived.Test.YtonfdiaefkghbaaGreatDoorCards
import Derived.BigQuiet
import Derived.Test.YtonfdiaefkghbaaGreatDoorProg
import Derived.Test.YtonfdiaefkghbaaGreatDoorEG0a
import Derived.Test.YtonfdiaefkghbaaGreatDoorEG1a
import Derived.Test.YtonfdiaefkghbaaGreatDoorEG0c
import Derived.Test.YtonfdiaefkghbaaGreatDoorEG0d
import Derived.Test.YtonfdiaefkghbaaGreatDoorEG2a
import Derived.Test.YtonfdiaefkghbaaGreatDoorESPathW
namespace Go.Proofs.YtonfdiaefkghbaaGreatDoor
open Go.RowKit
set_option linter.all false
/- Nothing is asked of the world that is laid. -/
def MaxL (_ : World) : Prop := True
theorem maxL_of {w : World} {p : Prop} (_ : p) : MaxL w := trivial
set_option maxHeartbeats 25600000 in
set_option maxRecDepth 100000 in
theorem fnEmbeddings_walk (p0 : Option Addr) (n0 c0 : Nat) (z0 : List Int) (w : World) (h0 : BytesIn w p0 n0 z0) (hm : MaxL w) :
    Calls Tryz.prog 3 #[.slice p0 n0 c0] w fun e w' => e = .returned (.bool true) ∧ Below w.heap.size w w' := by
  by_cases hbig : 1048576 < n0
  · go_enter Tryz.func3, Tryz.ntmps3
    go_wp2_with (go_at_call 5; refine (lBig_yes _ _ _ _ hbig).mono ?_; rintro e w' ⟨rfl, rfl⟩)
    go_ret
    exact ⟨rfl, Below.refl _ _⟩
  have HY : Hid (Bytes w p0 n0) := ⟨by omega, h0.cells⟩
  clear h0 hm
  go_enter Tryz.func3, Tryz.ntmps3
  go_wp2_with (go_at_call 5; refine (lBig_no _ _ _ _ (by omega)).mono ?_; rintro e w' ⟨rfl, rfl⟩)
  refine (drawFits_any _ _ _ _ HY.out).mono ?_
  rintro e w1 ⟨va, vb, a, b, nn, rfl, hoa, hob, hb1⟩
  obtain ⟨aa, ca, rfl, hra⟩ := hoa.form
  clear hoa
  obtain ⟨ab, cb, rfl, hrb⟩ := hob.form
  clear hob
  go_wp2_with fail
  refine (drawFirst_any _ _ _ _ (HY.out.keep hb1)).mono ?_
  rintro e w2 ⟨vm, m, i, k, rfl, hom, hb2⟩
  obtain ⟨am, cm, rfl, hrm⟩ := hom.form
  clear hom
  go_wp2_with fail
  refine (iFirst_any _ _ _ m i k _ hrm).mono ?_
  rintro e w3 ⟨rfl, hb3⟩
  go_wp2_with fail
  refine (drawPathW_any _ _ _ _ (HY.out.keep (step2 (step2 hb1 hb2) hb3))).mono ?_
  rintro e w4 ⟨vp, q, l, rfl, hop, hb4⟩
  obtain ⟨ap, cp, rfl, hrp⟩ := hop.form
  clear hop
  go_wp2_with fail
  refine (iPathW_any _ _ _ q l _ hrp).mono ?_
  rintro e w5 ⟨vt, rfl, hotw, hb5⟩
  obtain ⟨atw, ctw, rfl, hrtw⟩ := hotw.form
  clear hotw
  go_wp2_with fail
  refine (drawOrb_any _ _ _ _ (HY.out.keep (step2 (step2 (step2 (step2 hb1 hb2) hb3) hb4) hb5))).mono ?_
  rintro e w6 ⟨vo, o, r, rfl, hoo, hb6⟩
  obtain ⟨ao, co, rfl, hro⟩ := hoo.form
  clear hoo
  go_wp2_with fail
  refine (iOrb_any _ _ _ o r _ hro).mono ?_
  rintro e w7 ⟨vr, rfl, hor, hb7⟩
  obtain ⟨ar, cr, rfl, hrr⟩ := hor.form
  clear hor
  go_wp2_with fail
  refine (iFitsInto_any _ _ _ a _ _ _ b nn _ (hra.keep (step2 (step2 (step2 (step2 (step2 hb2 hb3) hb4) hb5) hb6) hb7)) (hrb.keep (step2 (step2 (step2 (step2 (step2 hb2 hb3) hb4) hb5) hb6) hb7))).mono ?_
  rintro e w8 ⟨rfl, hb8⟩
  generalize hfr : fits a b nn = fi
  have HFR := Lib.hid hfr
  clear hfr
  have t1 : (fi != fi) = false := by simp
  have t2 : (firstR m i k != firstR m i k) = false := by simp
  have t3 := eqL_self (orbV o r)
  have t4 : (rooted m i k != rooted m i k) = false := by simp
  go_wp2_with fail
  refine (sFitsInto_any _ _ _ a _ _ _ b nn _ (hra.keep (step2 (step2 (step2 (step2 (step2 (step2 hb2 hb3) hb4) hb5) hb6) hb7) hb8)) (hrb.keep (step2 (step2 (step2 (step2 (step2 (step2 hb2 hb3) hb4) hb5) hb6) hb7) hb8))).mono ?_
  rintro e w9 ⟨rfl, hb9⟩
  rw [HFR.out]
  go_wp2_with fail
  refine (iCannot_any _ _ _ a _ _ _ b nn _ (hra.keep (step2 (step2 (step2 (step2 (step2 (step2 (step2 hb2 hb3) hb4) hb5) hb6) hb7) hb8) hb9)) (hrb.keep (step2 (step2 (step2 (step2 (step2 (step2 (step2 hb2 hb3) hb4) hb5) hb6) hb7) hb8) hb9))).mono ?_
  rintro e w10 ⟨rfl, hb10⟩
  go_wp2_with fail
  refine (sCannot_any _ _ _ a _ _ _ b nn _ (hra.keep (step2 (step2 (step2 (step2 (step2 (step2 (step2 (step2 hb2 hb3) hb4) hb5) hb6) hb7) hb8) hb9) hb10)) (hrb.keep (step2 (step2 (step2 (step2 (step2 (step2 (step2 (step2 hb2 hb3) hb4) hb5) hb6) hb7) hb8) hb9) hb10))).mono ?_
  rintro e w11 ⟨rfl, hb11⟩
  go_wp2_with fail
  refine (sFirst_any _ _ _ m i k _ (hrm.keep (step2 (step2 (step2 (step2 (step2 (step2 (step2 (step2 hb3 hb4) hb5) hb6) hb7) hb8) hb9) hb10) hb11))).mono ?_
  rintro e w12 ⟨rfl, hb12⟩
  go_wp2_with fail
  refine (sPathW_any _ _ _ q l _ (hrp.keep (step2 (step2 (step2 (step2 (step2 (step2 (step2 hb5 hb6) hb7) hb8) hb9) hb10) hb11) hb12))).mono ?_
  rintro e w13 ⟨vu, rfl, hou, hb13⟩
  obtain ⟨au, cu, rfl, hru⟩ := hou.form
  clear hou
  go_wp2_with fail
  refine (ofD (sameTexts_same _ _ _ _ _ _ _ _ (hrtw.keep (step2 (step2 (step2 (step2 (step2 (step2 (step2 hb6 hb7) hb8) hb9) hb10) hb11) hb12) hb13)) hru)).mono ?_
  rintro e w14 ⟨rfl, hb14⟩
  go_wp2_with fail
  refine (sOrb_any _ _ _ o r _ (hro.keep (step2 (step2 (step2 (step2 (step2 (step2 (step2 hb7 hb8) hb9) hb10) hb11) hb12) hb13) hb14))).mono ?_
  rintro e w15 ⟨vs, rfl, hov, hb15⟩
  obtain ⟨av, cv, rfl, hrv⟩ := hov.form
  clear hov
  go_wp2_with fail
  refine (ofD (sameInts_any _ _ _ (orbV o r) _ _ _ (orbV o r) _ (hrr.keep (step2 (step2 (step2 (step2 (step2 (step2 (step2 hb8 hb9) hb10) hb11) hb12) hb13) hb14) hb15)) hrv)).mono ?_
  rintro e w16 ⟨rfl, hb16⟩
  go_wp2_with fail
  refine (iCountRooted_any _ _ _ m i k _ (hrm.keep (step2 (step2 (step2 (step2 (step2 (step2 (step2 (step2 (step2 (step2 (step2 (step2 (step2 hb3 hb4) hb5) hb6) hb7) hb8) hb9) hb10) hb11) hb12) hb13) hb14) hb15) hb16))).mono ?_
  rintro e w17 ⟨rfl, hb17⟩
  go_wp2_with fail
  refine (sCountRooted_any _ _ _ m i k _ (hrm.keep (step2 (step2 (step2 (step2 (step2 (step2 (step2 (step2 (step2 (step2 (step2 (step2 (step2 (step2 hb3 hb4) hb5) hb6) hb7) hb8) hb9) hb10) hb11) hb12) hb13) hb14) hb15) hb16) hb17))).mono ?_
  rintro e w18 ⟨rfl, hb18⟩
  clear t1 t2 t3
  go_upto_region 12 with fail
  go_cut [119] (fun s119 wx => s119 = .bool false ∧ Below w18.heap.size w18 wx)
  case first =>
    as_aux_lemma =>
      have HA := Lib.hid (hra.keep (step2 (step2 (step2 (step2 (step2 (step2 (step2 (step2 (step2 (step2 (step2 (step2 (step2 (step2 (step2 (step2 hb2 hb3) hb4) hb5) hb6) hb7) hb8) hb9) hb10) hb11) hb12) hb13) hb14) hb15) hb16) hb17) hb18))
      have HB := Lib.hid (hrb.keep (step2 (step2 (step2 (step2 (step2 (step2 (step2 (step2 (step2 (step2 (step2 (step2 (step2 (step2 (step2 (step2 hb2 hb3) hb4) hb5) hb6) hb7) hb8) hb9) hb10) hb11) hb12) hb13) hb14) hb15) hb16) hb17) hb18))
      cases fi
      · have hq2 := dash_prop HFR.out
        go_wp2_with fail
        refine (iCannot_any _ _ _ a _ _ _ b nn _ HA.out HB.out).mono ?_
        rintro e w19 ⟨rfl, hb19⟩
        go_wp2_with fail
        go_meet
        exact ⟨rfl, hb19⟩
      · go_wp2_with fail
        refine (iCannot_any _ _ _ a _ _ _ b nn _ HA.out HB.out).mono ?_
        rintro e w19 ⟨rfl, hb19⟩
        by_cases hq : (cannotT a b nn).toList = [45]
        · have hq2 := hq
          go_wp2_with fail
          refine (iFitsInto_any _ _ _ a _ _ _ b nn _ (HA.out.keep hb19) (HB.out.keep hb19)).mono ?_
          rintro e w20 ⟨rfl, hb20⟩
          rw [HFR.out]
          go_wp2_with fail
          go_meet
          exact ⟨rfl, (step2 hb19 hb20)⟩
        · have hq2 := hq
          go_wp2_with fail
          go_meet
          exact ⟨rfl, hb19⟩
  case rest =>
  obtain ⟨rfl, hb19⟩ := hcut
  generalize wc = w19 at hb19 ⊢
  go_upto_if 121 with fail
  go_cut [16, 17] (fun s16 s17 wx => Below w19.heap.size w19 wx)
  case first =>
    as_aux_lemma =>
      by_cases hf : 0 ≤ firstR m i k
      · obtain ⟨h10, hrt⟩ := first_get hf
        have hfa := rooted_facts hrt
        obtain ⟨K, rfl⟩ : ∃ K : Nat, k = (K : Int) := ⟨k.toNat, by have := hfa.2.2.2.1; omega⟩
        have hd : decide (0 ≤ firstR m i K) = true := decide_eq_true hf
        have HRE := Lib.hid (renewal hf)
        have hK1 := HRE.out.1
        have HM := Lib.hid (hrm.keep (step2 (step2 (step2 (step2 (step2 (step2 (step2 (step2 (step2 (step2 (step2 (step2 (step2 (step2 (step2 (step2 hb3 hb4) hb5) hb6) hb7) hb8) hb9) hb10) hb11) hb12) hb13) hb14) hb15) hb16) hb17) hb18) hb19))
        clear hrt hfa
        go_wp2_with fail
        refine (iFirst_any _ _ _ m i K _ HM.out).mono ?_
        rintro e w20 ⟨rfl, hb20⟩
        go_wp2_with fail
        clear hd
        have HMM := Lib.hid (HM.out.keep hb20)
        have HBM := Lib.hid hb20
        go_loopw [16, 17] (fun y x wr => ∃ (z : Nat) (s : Int), 1 ≤ z ∧ z ≤ K ∧ y = .int .i64 s ∧ x = .int .i64 z ∧ Hid (fSum m i K (K - z) z s = rooted m i K) ∧ Below w20.heap.size w20 wr) (fun _ x _ => K - (intOf x).toNat)
        case atStart => exact ⟨1, _, Nat.le_refl _, hK1, rfl, rfl, HRE.out.2, Below.refl _ _⟩
        case round =>
          obtain ⟨z, s, hz1, hz, rfl, rfl, hr, hbl⟩ := hrel
          have HBL := Lib.hid hbl
          have HMR := Lib.hid (HMM.out.keep hbl)
          clear hbl
          by_cases hlt : z < K
          · have HN := Lib.hid (fSum_step hlt hr.out)
            clear hr
            go_wp2_with (first
              | (go_at_call 22; refine (iCountRooted_any _ _ _ m i ((K : Int) - z) _ (HMR.out.keep HB1.out)).mono ?_; rintro e wb ⟨rfl, hbb⟩; have HB2 := Lib.hid (step2 HB1.out hbb); clear hbb)
              | (go_at_call 8; refine (iFirst_any _ _ _ m i z _ HMR.out).mono ?_; rintro e wa ⟨rfl, hba⟩; have HB1 := Lib.hid hba; clear hba))
            go_roundw
            case rel => exact ⟨z + 1, _, by omega, hlt, rfl, by go_num, HN.out, step2 HBL.out HB2.out⟩
            case measure => (simp [intOf] <;> omega)
          · have ez : z = K := by omega
            subst ez
            have hs : s = rooted m i z := by
              have h := hr.out
              rw [Nat.sub_self] at h
              exact h
            have hne : (s != rooted m i z) = false := by rw [hs]; simp
            clear hr hs
            go_wp2_with (go_at_call 22; refine (iCountRooted_any _ _ _ m i z _ HMR.out).mono ?_; rintro e wa ⟨rfl, hba⟩; have HB1 := Lib.hid hba; clear hba)
            go_meet
            exact step2 (step2 HBM.out HBL.out) HB1.out
      · have hd : decide (0 ≤ firstR m i k) = false := decide_eq_false hf
        go_wp2_with fail
        go_meet
        exact Below.refl _ _
  case rest =>
  have hb20 := hcut
  clear hcut
  generalize wc = w20 at hb20 ⊢
  go_wp2_with fail
  have HT := Lib.hid (hrtw.keep (step2 (step2 (step2 (step2 (step2 (step2 (step2 (step2 (step2 (step2 (step2 (step2 (step2 (step2 hb6 hb7) hb8) hb9) hb10) hb11) hb12) hb13) hb14) hb15) hb16) hb17) hb18) hb19) hb20))
  have HPS : Hid (∀ s ∈ pathW q l, (s.size : Int) = l) := fun s hs => pathW_size hs
  have HO := Lib.hid (hro.keep (step2 (step2 (step2 (step2 (step2 (step2 (step2 (step2 (step2 (step2 (step2 (step2 (step2 hb7 hb8) hb9) hb10) hb11) hb12) hb13) hb14) hb15) hb16) hb17) hb18) hb19) hb20))
  have HBL := Lib.hid (step2 (step2 (step2 (step2 (step2 (step2 (step2 (step2 (step2 (step2 (step2 (step2 (step2 (step2 (step2 (step2 (step2 (step2 (step2 hb1 hb2) hb3) hb4) hb5) hb6) hb7) hb8) hb9) hb10) hb11) hb12) hb13) hb14) hb15) hb16) hb17) hb18) hb19) hb20)
  generalize pathW q l = PW at HT HPS ⊢
  have hpb := HT.out.2.1
  go_loopw [18] (fun x wr => ∃ z : Nat, z ≤ PW.length ∧ x = .int .i64 z ∧ Drew w20 wr) (fun x _ => PW.length - (intOf x).toNat)
  case atStart => exact ⟨0, Nat.zero_le _, rfl, Drew.refl _⟩
  case round =>
    obtain ⟨z, hz, rfl, ⟨dn, rfl⟩⟩ := hrel
    by_cases hlt : z < PW.length
    · obtain ⟨b1, o1, s, rfl, hcs, hgs⟩ := HT.out.at_ hlt
      have hne : ((s.size : Int) != l) = false := by rw [HPS.out s (List.mem_of_getElem? hgs.out)]; simp
      clear hgs
      go_wp2_with fail
      go_roundw
      case rel => exact ⟨z + 1, hlt, by go_num, Drew.mk _ _⟩
      case measure => (simp [intOf] <;> omega)
    · by_cases h0 : (orbV o r).length = 0
      · have d0 : (((orbV o r).length : Int) == 0) = true := by rw [h0]; rfl
        clear h0
        go_wp2_with fail
        go_ret
        exact ⟨rfl, below_drewN HBL.out _⟩
      · have hrf := row_fits h0
        have d0 : (((orbV o r).length : Int) == 0) = false := beq_eq_false_iff_ne.2 (by omega)
        have d1 : (((orbV o r).length : Int) == r) = true := beq_iff_eq.2 hrf.1
        have HF := Lib.hid hrf.2
        clear h0 hrf
        go_wp2_with fail
        refine (iFitsInto_any _ _ _ o _ _ _ o r _ (HO.out.drewN dn) (HO.out.drewN dn)).mono ?_
        rw [HF.out]
        rintro e wz ⟨rfl, hbz⟩
        go_wp2_with fail
        go_ret
        exact ⟨rfl, step2 (below_drewN HBL.out dn) hbz⟩

namespace fnEmbeddings
open Go.ChangeShapes Go.WideShapes Go.ChangeAt
open Go.ChangeMaps (open_string shut_string)
set_option maxRecDepth 100000 in
theorem lifted (os : Os) (started : os.Started) (H : Type) (enc : TypeId × Value → H) :
    ReturnsInHanded {} Tryz.checked os 3 .any (fun w args => (Rows.fnEmbeddingsSpec.pre enc Tryz.prog Tryz.f3 [] false w args ∧ laidMetH Tryz.prog Rows.fnEmbeddingsRow.laid w) ∧ sizedMet enc Tryz.prog Tryz.f3 (OpenSpec.ofChange Rows.fnEmbeddingsSpec) false w args) (Rows.fnEmbeddingsSpec.post enc Tryz.prog Tryz.f3 false true false false) := by
  refine returnsInHanded_door (C := Tryz.checked) (X := fun w _ => laidMetH Tryz.prog Rows.fnEmbeddingsRow.laid w) (fun _ _ _ hh h => h.of_heap hh) ownKnobNone started (by kernel_rfl) Tryz.func3
    (ChangeSpec.witness_shaped (enc := enc) (C := Tryz.checked) (os := os) (X := fun w _ => laidMetH Tryz.prog Rows.fnEmbeddingsRow.laid w) false (World.laidAll Tryz.prog os Rows.fnEmbeddingsRow.laid) #[.slice none 0 0] 8 (World.laidAll_os _ _ _) (World.shaped_of_ZipB (by kernel_rfl) (by kernel_rfl)) (by kernel_rfl) (by kernel_rfl) (by kernel_rfl)
      (by rw [MakeChecks.laidMetH_plain _ _ _ (by kernel_rfl)]; exact laidMet_laidAll _ (by kernel_rfl) (by kernel_rfl))) ?_
  intro W base args ds gs before hval0 hW hL hsh
  have hval : ∀ (j : Nat) t v, Tryz.f3.params[j]? = some t → args[j]? = some v → Value.okWide Tryz.prog W .any base t v := hval0
  have hW' := hW
  obtain ⟨p, q, hA0, hV, rfl, hfz, hnd⟩ := hW
  have hA : DataW.TrodAll enc Tryz.prog W 0 (fun _ => true) true Tryz.f3.params.toList args.toList ds p := hA0
  rw [Tryz.params3] at hA hval
  obtain ⟨v0, vs0, d0, ds0, p0, q0, hargs, rfl, rfl, h0, r0⟩ := trodAll_cons hA
  obtain ⟨rfl, rfl, rfl⟩ := trodAll_nil r0
  obtain rfl : args = #[v0] := by cases args; simp_all
  obtain ⟨rfl, rfl⟩ := trodVars_none hV
  obtain ⟨a0, len0, cap0, rfl⟩ := okWide_slice Tryz.underlying22 (hval 0 22 v0 rfl rfl)
  have k0 := h0
  have lt0 : ∀ x ∈ p0, x.block < W.heap.size := by obtain ⟨m, hm⟩ := k0; exact DataW.trod_lt m _ _ _ hm
  obtain ⟨z0, w0⟩ := open_bytesIn h0
  clear hA0 hval0
  refine (fnEmbeddings_walk a0 len0 cap0 z0 W w0 (maxL_of hsh)).mono fun e W' ⟨he, bel⟩ => ?_
  subst he
  exact ⟨_, rfl, _, _, _, [], _, [], hW', trodAll_mk1 (shut_bool Tryz.underlying4 _), (trodAll_cons_mk (Below.trod laidOutYes (by kernel_rfl) (of_decide_eq_true (by kernel_rfl)) k0 bel lt0) trodAll_mk0), rfl, bel.frame _, fun h => by cases h⟩

theorem over : Rows.fnEmbeddingsRow.holds Tryz.pinned (OpenSpec.ofChange Rows.fnEmbeddingsSpec) :=
  OpenClaim.holds_of_wide 3 Tryz.f3 rfl rfl rfl rfl rfl rfl rfl ⟨rfl, rfl, rfl, rfl, rfl⟩ rfl rfl rfl rfl rfl (by kernel_rfl) Tryz.func3 (by kernel_rfl)
    (of_decide_eq_true (by kernel_rfl)) (by unfold Func.isWrapper; first | (rw [if_pos (by decide +kernel)]; kernel_rfl) | (rw [if_neg (by decide +kernel)]; exact ⟨rfl, rfl⟩))
    (fun os started H enc _ => lifted os started H enc)

theorem proved : Rows.FnEmbeddingsCardSaid :=
  Claim7.holds_tied_plain_at .later [] [.data, .data, .data] true (true, "761f52daaede2771b6713adb5f62c92c8f11ce30cd2f1eadaa7267f27a57d60b") false over (fun _ h => by cases h) (by kernel_rfl) (fun _ h => by cases h) fnEmbeddings_row_tie rfl ⟨rfl, rfl⟩ (by kernel_rfl) rfl
    (fun f fn hf hfn => by
      obtain rfl : f = 3 := Option.some.inj ((show Tryz.prog.funcNamed "loop.example/g03103/laws.FnEmbeddings" = some 3 by kernel_rfl).symm.trans hf) |>.symm
      obtain rfl : fn = Tryz.f3 := (Option.some.inj (Tryz.func3.symm.trans hfn)).symm
      exact ⟨by kernel_rfl, fun j t ht => by
        rw [Tryz.params3] at ht
        have hm : t ∈ [22] := by simpa using Array.mem_of_getElem? ht
        have hall : ([22].all fun u => !Tryz.prog.wantsStandIn u) = true := by kernel_rfl
        exact (show Tryz.prog.wantsStandIn t = false by simpa using List.all_eq_true.1 hall t hm)⟩)
    (by kernel_rfl)
end fnEmbeddings

#print axioms fnEmbeddings.proved
end Go.Proofs.YtonfdiaefkghbaaGreatDoor
