/- Proved here: the law FnSplits returns true at every input, and leaves its argument as it was. No condition. -/
import Derived.Test.YtblkgkgopneleaaRows
import Derived.BigQuiet
import Derived.Test.YtblkgkgopneleaaProg
import Derived.Test.YtblkgkgopneleaaBG0a
import Derived.Test.YtblkgkgopneleaaBG2a
import Derived.Test.YtblkgkgopneleaaBG1a
import Derived.Test.YtblkgkgopneleaaBG0c
namespace Go.Proofs.Ytblkgkgopneleaa
open Go.RowKit
set_option linter.all false
theorem tt_RS {m : List (List Int)} {i : Int} {p : List Int} (h : splOk m i p = true) (ht : ttOk (pairR m i p) (pairS m i p) = true) : ttV (pairR m i p) (pairS m i p) = m := by
  have hf := splOk_facts h
  have hr : pairR m i p = prR m.length i.toNat := by simp [pairR, h]
  have hs : pairS m i p = prS m i.toNat p := by simp [pairS, h]
  rw [ttV_yes ht, hr, hs]
  have e : ((prS m i.toNat p).getD 0 []).length = m.length := prS_rows hf 0 _ (getD_lt (by rw [prS_len]; omega))
  rw [e]
  exact spl_RS hf
theorem tt_SR {m : List (List Int)} {i : Int} {p : List Int} (h : splOk m i p = true) (ht : ttOk (pairS m i p) (pairR m i p) = true) : ttV (pairS m i p) (pairR m i p) = splV m i p := by
  have hf := splOk_facts h
  have hr : pairR m i p = prR m.length i.toNat := by simp [pairR, h]
  have hs : pairS m i p = prS m i.toNat p := by simp [pairS, h]
  have hl := isMat_len hf.mat
  rw [ttV_yes ht, hr, hs, splV_yes h]
  have e : ((prR m.length i.toNat).getD 0 []).length = m.length + 1 := prR_rows _ _ 0 _ (getD_lt (by rw [prR_len]; omega))
  rw [e]
  exact spl_SR hf
set_option maxHeartbeats 25600000 in
set_option maxRecDepth 100000 in
theorem fnSplits_walk (p0 : Option Addr) (n0 c0 : Nat) (z0 : List Int) (w : World) (h0 : BytesIn w p0 n0 z0) :
    Calls Try.prog 4 #[.slice p0 n0 c0] w fun e w' => e = .returned (.bool true) ∧ Below w.heap.size w w' := by
  by_cases hbig : 1048576 < n0
  · go_enter Try.func4, Try.ntmps4
    go_wp2_with (go_at_call 5; refine (lBig_yes _ _ _ _ hbig).mono ?_; rintro e w' ⟨rfl, rfl⟩)
    go_ret
    exact ⟨rfl, Below.refl _ _⟩
  have HY : Hid (Bytes w p0 n0) := ⟨by omega, h0.cells⟩
  clear h0
  go_enter Try.func4, Try.ntmps4
  go_wp2_with (go_at_call 5; refine (lBig_no _ _ _ _ (by omega)).mono ?_; rintro e w' ⟨rfl, rfl⟩)
  refine (drawSplitOut_any _ _ _ _ HY.out).mono ?_
  rintro e w1 ⟨vm, vp, M, i, P, rfl, hom, hop, hbt, hb1⟩
  clear hbt
  obtain ⟨am, cm, rfl, hfm⟩ := hom.form
  have hrm := Lib.hid hfm
  clear hom hfm
  obtain ⟨ap, cp, rfl, hfp⟩ := hop.form
  have hrp := Lib.hid hfp
  clear hop hfp
  go_wp2_with fail
  refine (iSplitOut_any _ _ _ M i _ _ _ P _ hrm.out hrp.out).mono ?_
  rintro e w2 ⟨vx, rfl, hox, hb2⟩
  obtain ⟨ax, cx, rfl, hfx⟩ := hox.form
  have hrx := Lib.hid hfx
  clear hox hfx
  generalize hsm : splOk M i P = ok
  have HOK := Lib.hid hsm
  clear hsm
  go_wp2_with fail
  refine (sSplitOut_any _ _ _ M i _ _ _ P _ (hrm.out.keep hb2) (hrp.out.keep hb2)).mono ?_
  rintro e w3 ⟨vw, rfl, how, hb3⟩
  obtain ⟨aw, cw, rfl, hfw⟩ := how.form
  have hrw := Lib.hid hfw
  clear how hfw
  rw [HOK.out]
  go_wp2_with fail
  refine (drawSplitIn_any _ _ _ _ (HY.out.keep (step2 (step2 hb1 hb2) hb3))).mono ?_
  rintro e w4 ⟨vn, vq, N, j, Q, rfl, hon, hoq, hbt, hb4⟩
  clear hbt
  obtain ⟨an, cn, rfl, hfn⟩ := hon.form
  have hrn := Lib.hid hfn
  clear hon hfn
  obtain ⟨aq, cq, rfl, hfq⟩ := hoq.form
  have hrq := Lib.hid hfq
  clear hoq hfq
  go_wp2_with fail
  refine (iSplitIn_any _ _ _ N j _ _ _ Q _ hrn.out hrq.out).mono ?_
  rintro e w5 ⟨vy, rfl, hoy, hb5⟩
  obtain ⟨ay, cy, rfl, hfy⟩ := hoy.form
  have hry := Lib.hid hfy
  clear hoy hfy
  generalize hsm : splOk (turnM N) j Q = on
  have HON := Lib.hid hsm
  clear hsm
  go_wp2_with fail
  refine (sSplitIn_any _ _ _ N j _ _ _ Q _ (hrn.out.keep hb5) (hrq.out.keep hb5)).mono ?_
  rintro e w6 ⟨vz, rfl, hoz, hb6⟩
  obtain ⟨az, cz, rfl, hfz⟩ := hoz.form
  have hrz := Lib.hid hfz
  clear hoz hfz
  rw [HON.out]
  go_wp2_with fail
  refine (iSplitPair_any _ _ _ M i _ _ _ P _ (hrm.out.keep (step2 (step2 (step2 (step2 hb2 hb3) hb4) hb5) hb6)) (hrp.out.keep (step2 (step2 (step2 (step2 hb2 hb3) hb4) hb5) hb6))).mono ?_
  rintro e w7 ⟨vr, vsx, rfl, hor, hosx, hb7⟩
  obtain ⟨ar, cr, rfl, hfr⟩ := hor.form
  have hrr := Lib.hid hfr
  clear hor hfr
  obtain ⟨asx, csx, rfl, hfsx⟩ := hosx.form
  have hrsx := Lib.hid hfsx
  clear hosx hfsx
  rw [HOK.out]
  go_wp2_with fail
  refine (sSplitPair_any _ _ _ M i _ _ _ P _ (hrm.out.keep (step2 (step2 (step2 (step2 (step2 hb2 hb3) hb4) hb5) hb6) hb7)) (hrp.out.keep (step2 (step2 (step2 (step2 (step2 hb2 hb3) hb4) hb5) hb6) hb7))).mono ?_
  rintro e w8 ⟨vtx, vu, rfl, hotx, hou, hb8⟩
  obtain ⟨atx, ctx, rfl, hftx⟩ := hotx.form
  have hrtx := Lib.hid hftx
  clear hotx hftx
  obtain ⟨au, cu, rfl, hfu⟩ := hou.form
  have hru := Lib.hid hfu
  clear hou hfu
  rw [HOK.out]
  go_wp2_with fail
  refine (drawTT_any _ _ _ _ (HY.out.keep (step2 (step2 (step2 (step2 (step2 (step2 (step2 hb1 hb2) hb3) hb4) hb5) hb6) hb7) hb8))).mono ?_
  rintro e w9 ⟨aa, na, ca, ab, nb, cb, A, B, rfl, hfa, hfb, hb9⟩
  have hra := Lib.hid hfa
  have hrb := Lib.hid hfb
  clear hfa hfb
  go_wp2_with fail
  refine (iTableTimes_any _ _ _ A _ _ _ B _ hra.out hrb.out).mono ?_
  rintro e w10 ⟨vc, rfl, hoc, hb10⟩
  obtain ⟨ac, cc, rfl, hfc⟩ := hoc.form
  have hrc := Lib.hid hfc
  clear hoc hfc
  go_wp2_with fail
  refine (sTableTimes_any _ _ _ A _ _ _ B _ (hra.out.keep hb10) (hrb.out.keep hb10)).mono ?_
  rintro e w11 ⟨vd, rfl, hod, hb11⟩
  obtain ⟨ad, cd, rfl, hfd⟩ := hod.form
  have hrd := Lib.hid hfd
  clear hod hfd
  go_wp2_with fail
  refine (drawParts_any _ _ _ _ (HY.out.keep (step2 (step2 (step2 (step2 (step2 (step2 (step2 (step2 (step2 (step2 hb1 hb2) hb3) hb4) hb5) hb6) hb7) hb8) hb9) hb10) hb11))).mono ?_
  rintro e w12 ⟨ag, ng, cg, R, rfl, hfg, hng, hb12⟩
  have hrg := Lib.hid hfg
  clear hfg
  go_wp2_with fail
  refine (iPartsOf_any _ _ _ R _ hrg.out).mono ?_
  rintro e w13 ⟨ah, nh, ch, rfl, hfh, hb13⟩
  have hrh := Lib.hid hfh
  clear hfh
  have t1 : (ok != ok) = false := by simp
  have t2 := eqL_self (splV M i P)
  have t3 : (on != on) = false := by simp
  have t4 := eqL_self (splInV N j Q)
  have t5 := eqL_self (pairR M i P)
  have t6 := eqL_self (pairS M i P)
  have t7 : (ttOk A B != ttOk A B) = false := by simp
  have t8 := eqL_self (ttV A B)
  have t9 := eqL_self (partsV R)
  go_wp2_with fail
  refine (ofD (sameLists_any _ _ _ (splV M i P) _ _ _ (splV M i P) _ (hrx.out.keep (step2 (step2 (step2 (step2 (step2 (step2 (step2 (step2 (step2 (step2 hb3 hb4) hb5) hb6) hb7) hb8) hb9) hb10) hb11) hb12) hb13)) (hrw.out.keep (step2 (step2 (step2 (step2 (step2 (step2 (step2 (step2 (step2 hb4 hb5) hb6) hb7) hb8) hb9) hb10) hb11) hb12) hb13)))).mono ?_
  rintro e w14 ⟨rfl, hb14⟩
  go_wp2_with fail
  refine (ofD (sameLists_any _ _ _ (splInV N j Q) _ _ _ (splInV N j Q) _ (hry.out.keep (step2 (step2 (step2 (step2 (step2 (step2 (step2 (step2 hb6 hb7) hb8) hb9) hb10) hb11) hb12) hb13) hb14)) (hrz.out.keep (step2 (step2 (step2 (step2 (step2 (step2 (step2 hb7 hb8) hb9) hb10) hb11) hb12) hb13) hb14)))).mono ?_
  rintro e w15 ⟨rfl, hb15⟩
  go_wp2_with fail
  refine (ofD (sameLists_any _ _ _ (pairR M i P) _ _ _ (pairR M i P) _ (hrr.out.keep (step2 (step2 (step2 (step2 (step2 (step2 (step2 hb8 hb9) hb10) hb11) hb12) hb13) hb14) hb15)) (hrtx.out.keep (step2 (step2 (step2 (step2 (step2 (step2 hb9 hb10) hb11) hb12) hb13) hb14) hb15)))).mono ?_
  rintro e w16 ⟨rfl, hb16⟩
  go_wp2_with fail
  refine (ofD (sameLists_any _ _ _ (pairS M i P) _ _ _ (pairS M i P) _ (hrsx.out.keep (step2 (step2 (step2 (step2 (step2 (step2 (step2 (step2 hb8 hb9) hb10) hb11) hb12) hb13) hb14) hb15) hb16)) (hru.out.keep (step2 (step2 (step2 (step2 (step2 (step2 (step2 hb9 hb10) hb11) hb12) hb13) hb14) hb15) hb16)))).mono ?_
  rintro e w17 ⟨rfl, hb17⟩
  go_wp2_with fail
  refine (ofD (sameLists_any _ _ _ (ttV A B) _ _ _ (ttV A B) _ (hrc.out.keep (step2 (step2 (step2 (step2 (step2 (step2 hb11 hb12) hb13) hb14) hb15) hb16) hb17)) (hrd.out.keep (step2 (step2 (step2 (step2 (step2 hb12 hb13) hb14) hb15) hb16) hb17)))).mono ?_
  rintro e w18 ⟨rfl, hb18⟩
  go_wp2_with fail
  refine (sPartsOf_any _ _ _ R _ (hrg.out.keep (step2 (step2 (step2 (step2 (step2 hb13 hb14) hb15) hb16) hb17) hb18)) hng).mono ?_
  rintro e w19 ⟨ak, nk, ck, rfl, hfk, hb19⟩
  have hrk := Lib.hid hfk
  clear hfk
  go_wp2_with fail
  refine (ofD (sameLists_any _ _ _ (partsV R) _ _ _ (partsV R) _ (hrh.out.keep (step2 (step2 (step2 (step2 (step2 hb14 hb15) hb16) hb17) hb18) hb19)) hrk.out)).mono ?_
  rintro e w20 ⟨rfl, hb20⟩
  go_wp2_with fail
  clear t1 t2 t3 t4 t5 t6 t7 t8 t9
  have HBZ := Lib.hid (step2 (step2 (step2 (step2 (step2 (step2 (step2 (step2 (step2 (step2 (step2 (step2 (step2 (step2 (step2 (step2 (step2 (step2 (step2 hb1 hb2) hb3) hb4) hb5) hb6) hb7) hb8) hb9) hb10) hb11) hb12) hb13) hb14) hb15) hb16) hb17) hb18) hb19) hb20)
  have HRm := Lib.hid (hrm.out.keep (step2 (step2 (step2 (step2 (step2 (step2 (step2 (step2 (step2 (step2 (step2 (step2 (step2 (step2 (step2 (step2 (step2 (step2 hb2 hb3) hb4) hb5) hb6) hb7) hb8) hb9) hb10) hb11) hb12) hb13) hb14) hb15) hb16) hb17) hb18) hb19) hb20))
  have HRx := Lib.hid (hrx.out.keep (step2 (step2 (step2 (step2 (step2 (step2 (step2 (step2 (step2 (step2 (step2 (step2 (step2 (step2 (step2 (step2 (step2 hb3 hb4) hb5) hb6) hb7) hb8) hb9) hb10) hb11) hb12) hb13) hb14) hb15) hb16) hb17) hb18) hb19) hb20))
  have HRn := Lib.hid (hrn.out.keep (step2 (step2 (step2 (step2 (step2 (step2 (step2 (step2 (step2 (step2 (step2 (step2 (step2 (step2 (step2 hb5 hb6) hb7) hb8) hb9) hb10) hb11) hb12) hb13) hb14) hb15) hb16) hb17) hb18) hb19) hb20))
  have HRy := Lib.hid (hry.out.keep (step2 (step2 (step2 (step2 (step2 (step2 (step2 (step2 (step2 (step2 (step2 (step2 (step2 (step2 hb6 hb7) hb8) hb9) hb10) hb11) hb12) hb13) hb14) hb15) hb16) hb17) hb18) hb19) hb20))
  have HRr := Lib.hid (hrr.out.keep (step2 (step2 (step2 (step2 (step2 (step2 (step2 (step2 (step2 (step2 (step2 (step2 hb8 hb9) hb10) hb11) hb12) hb13) hb14) hb15) hb16) hb17) hb18) hb19) hb20))
  have HRsx := Lib.hid (hrsx.out.keep (step2 (step2 (step2 (step2 (step2 (step2 (step2 (step2 (step2 (step2 (step2 (step2 hb8 hb9) hb10) hb11) hb12) hb13) hb14) hb15) hb16) hb17) hb18) hb19) hb20))
  clear hb1 hb2 hb3 hb4 hb5 hb6 hb7 hb8 hb9 hb10 hb11 hb12 hb13 hb14 hb15 hb16 hb17 hb18 hb19 hb20
  cases ok
  · skip
    go_loopw [31] (fun x wr => ∃ k : Nat, 1 ≤ k ∧ k ≤ 5 ∧ x = .int .i64 k ∧ Below w20.heap.size w20 wr) (fun x _ => 5 - (intOf x).toNat)
    case atStart => exact ⟨1, by omega, by omega, rfl, Below.refl _ _⟩
    case round =>
      obtain ⟨k, hk1, hk5, rfl, hbl⟩ := hrel
      have HBL := Lib.hid hbl
      by_cases hlt : k ≤ 4
      · have hle : decide ((k : Int) ≤ 4) = true := decide_eq_true (by omega)
        have hm := HRm.out.keep hbl
        have hx := HRx.out.keep hbl
        have hn := HRn.out.keep hbl
        have hy := HRy.out.keep hbl
        have Hm := Lib.hid hm
        have Hx := Lib.hid hx
        have Hn := Lib.hid hn
        have Hy := Lib.hid hy
        clear hm hx hn hy hbl
        cases on
        · as_aux_lemma =>
            go_wp2_with fail
            go_roundw
            case rel => exact ⟨k + 1, by omega, by omega, by go_num, HBL.out⟩
            case measure => simp [intOf]; omega
        · have hsp := HON.out
          by_cases hn0 : 0 ≤ closed N (k : Int)
          · have dhn0 : decide (0 ≤ closed N (k : Int)) = true := decide_eq_true hn0
            by_cases hy0 : 0 ≤ closed (splInV N j Q) (k : Int)
            · have dhy0 : decide (0 ≤ closed (splInV N j Q) (k : Int)) = true := decide_eq_true hy0
              have heq : (closed (splInV N j Q) (k : Int) != closed N (k : Int)) = false := by rw [splIn_closed hsp hn0 hy0]; simp
              clear hsp
              as_aux_lemma =>
                go_wp2_with fail
                refine (sClosed_any _ _ _ (N) (k : Int) _ Hn.out).mono ?_
                rintro e v1 ⟨rfl, hc1⟩
                go_wp2_with fail
                refine (sClosed_any _ _ _ (splInV N j Q) (k : Int) _ (Hy.out.keep hc1)).mono ?_
                rintro e v2 ⟨rfl, hc2⟩
                go_wp2_with fail
                refine (sClosed_any _ _ _ (splInV N j Q) (k : Int) _ (Hy.out.keep (step2 hc1 hc2))).mono ?_
                rintro e v3 ⟨rfl, hc3⟩
                go_wp2_with fail
                refine (sClosed_any _ _ _ (N) (k : Int) _ (Hn.out.keep (step2 (step2 hc1 hc2) hc3))).mono ?_
                rintro e v4 ⟨rfl, hc4⟩
                go_wp2_with fail
                go_roundw
                case rel => exact ⟨k + 1, by omega, by omega, by go_num, (HBL.out.trans ((step2 (step2 (step2 hc1 hc2) hc3) hc4).mono HBL.out.size))⟩
                case measure => simp [intOf]; omega
            · have dhy0 : decide (0 ≤ closed (splInV N j Q) (k : Int)) = false := decide_eq_false hy0
              as_aux_lemma =>
                go_wp2_with fail
                refine (sClosed_any _ _ _ (N) (k : Int) _ Hn.out).mono ?_
                rintro e v1 ⟨rfl, hc1⟩
                go_wp2_with fail
                refine (sClosed_any _ _ _ (splInV N j Q) (k : Int) _ (Hy.out.keep hc1)).mono ?_
                rintro e v2 ⟨rfl, hc2⟩
                go_wp2_with fail
                go_roundw
                case rel => exact ⟨k + 1, by omega, by omega, by go_num, (HBL.out.trans ((step2 hc1 hc2).mono HBL.out.size))⟩
                case measure => simp [intOf]; omega
          · have dhn0 : decide (0 ≤ closed N (k : Int)) = false := decide_eq_false hn0
            as_aux_lemma =>
              go_wp2_with fail
              refine (sClosed_any _ _ _ (N) (k : Int) _ Hn.out).mono ?_
              rintro e v1 ⟨rfl, hc1⟩
              go_wp2_with fail
              go_roundw
              case rel => exact ⟨k + 1, by omega, by omega, by go_num, (HBL.out.trans (hc1.mono HBL.out.size))⟩
              case measure => simp [intOf]; omega
      · have hle : decide ((k : Int) ≤ 4) = false := decide_eq_false (by omega)
        generalize wr = w21 at HBL ⊢
        have hb21 := HBL.out
        clear hbl
        go_wp2_with fail
        go_ret
        exact ⟨rfl, step2 HBZ.out hb21⟩
  · have hf := splOk_facts HOK.out
    obtain ⟨i0, rfl⟩ := Int.eq_ofNat_of_zero_le hf.i0
    have e0 : (i0 : Int).toNat = i0 := Int.toNat_natCast i0
    have hil := hf.il
    rw [e0] at hil
    have hXV : splV M (i0 : Int) P = spT M i0 P := by rw [splV_yes HOK.out, e0]
    have hRV : pairR M (i0 : Int) P = prR M.length i0 := by simp [pairR, HOK.out, e0]
    have hSV : pairS M (i0 : Int) P = prS M i0 P := by simp [pairS, HOK.out, e0]
    have HSPL : Hid (∀ k : Int, 0 ≤ closed M k → 0 ≤ closed (splV M (i0 : Int) P) k → closed (splV M (i0 : Int) P) k = closed M k) := by
      intro k h1 h2
      rw [splV_yes HOK.out] at h2 ⊢
      exact spl_closed hf h1 h2
    have HMT : Hid (isMat (splV M (i0 : Int) P) = true) := by show _ = _; rw [splV_yes HOK.out]; exact spl_mat hf
    have HXL : Hid ((splV M (i0 : Int) P).length = M.length + 1) := by show _ = _; rw [hXV, spT_len]
    have HCOL : Hid (∀ (k : Nat) (r : List Int), (splV M (i0 : Int) P)[k]? = some r → r.getD i0 0 = r.getD M.length 0) := by
      rw [splV_yes HOK.out, ← e0]
      exact spl_cols hf
    have HJ : Hid (minorT (sumT (splV M (i0 : Int) P) i0 M.length) M.length M.length = M) := by
      show _ = _
      rw [splV_yes HOK.out, ← e0]
      exact spl_join hf
    have HRES : Hid (isMat (minorT (sumT (splV M (i0 : Int) P) i0 M.length) M.length M.length) = true) := by show _ = _; rw [HJ.out]; exact hf.mat
    have HTE : Hid (ttOk (pairR M (i0 : Int) P) (pairS M (i0 : Int) P) = true → ttV (pairR M (i0 : Int) P) (pairS M (i0 : Int) P) = M) := fun h => tt_RS HOK.out h
    have HTF : Hid (ttOk (pairS M (i0 : Int) P) (pairR M (i0 : Int) P) = true → ttV (pairS M (i0 : Int) P) (pairR M (i0 : Int) P) = splV M (i0 : Int) P) := fun h => tt_SR HOK.out h
    clear hf e0 hXV hRV hSV
    go_loopw [31] (fun x wr => ∃ k : Nat, 1 ≤ k ∧ k ≤ 5 ∧ x = .int .i64 k ∧ Below w20.heap.size w20 wr) (fun x _ => 5 - (intOf x).toNat)
    case atStart => exact ⟨1, by omega, by omega, rfl, Below.refl _ _⟩
    case round =>
      obtain ⟨k, hk1, hk5, rfl, hbl⟩ := hrel
      have HBL := Lib.hid hbl
      by_cases hlt : k ≤ 4
      · have hle : decide ((k : Int) ≤ 4) = true := decide_eq_true (by omega)
        have hm := HRm.out.keep hbl
        have hx := HRx.out.keep hbl
        have hn := HRn.out.keep hbl
        have hy := HRy.out.keep hbl
        have Hm := Lib.hid hm
        have Hx := Lib.hid hx
        have Hn := Lib.hid hn
        have Hy := Lib.hid hy
        clear hm hx hn hy hbl
        by_cases hm0 : 0 ≤ closed M (k : Int)
        · have dhm0 : decide (0 ≤ closed M (k : Int)) = true := decide_eq_true hm0
          by_cases hx0 : 0 ≤ closed (splV M (i0 : Int) P) (k : Int)
          · have dhx0 : decide (0 ≤ closed (splV M (i0 : Int) P) (k : Int)) = true := decide_eq_true hx0
            have heqx : (closed (splV M (i0 : Int) P) (k : Int) != closed M (k : Int)) = false := by
              have e := HSPL.out (k : Int) hm0 hx0
              rw [e]; simp
            cases on
            · as_aux_lemma =>
                go_wp2_with fail
                refine (sClosed_any _ _ _ (M) (k : Int) _ Hm.out).mono ?_
                rintro e v1 ⟨rfl, hc1⟩
                go_wp2_with fail
                refine (sClosed_any _ _ _ (splV M (i0 : Int) P) (k : Int) _ (Hx.out.keep hc1)).mono ?_
                rintro e v2 ⟨rfl, hc2⟩
                go_wp2_with fail
                refine (sClosed_any _ _ _ (splV M (i0 : Int) P) (k : Int) _ (Hx.out.keep (step2 hc1 hc2))).mono ?_
                rintro e v3 ⟨rfl, hc3⟩
                go_wp2_with fail
                refine (sClosed_any _ _ _ (M) (k : Int) _ (Hm.out.keep (step2 (step2 hc1 hc2) hc3))).mono ?_
                rintro e v4 ⟨rfl, hc4⟩
                go_wp2_with fail
                go_roundw
                case rel => exact ⟨k + 1, by omega, by omega, by go_num, (HBL.out.trans ((step2 (step2 (step2 hc1 hc2) hc3) hc4).mono HBL.out.size))⟩
                case measure => simp [intOf]; omega
            · have hsp := HON.out
              by_cases hn0 : 0 ≤ closed N (k : Int)
              · have dhn0 : decide (0 ≤ closed N (k : Int)) = true := decide_eq_true hn0
                by_cases hy0 : 0 ≤ closed (splInV N j Q) (k : Int)
                · have dhy0 : decide (0 ≤ closed (splInV N j Q) (k : Int)) = true := decide_eq_true hy0
                  have heq : (closed (splInV N j Q) (k : Int) != closed N (k : Int)) = false := by rw [splIn_closed hsp hn0 hy0]; simp
                  clear hsp
                  as_aux_lemma =>
                    go_wp2_with fail
                    refine (sClosed_any _ _ _ (M) (k : Int) _ Hm.out).mono ?_
                    rintro e v1 ⟨rfl, hc1⟩
                    go_wp2_with fail
                    refine (sClosed_any _ _ _ (splV M (i0 : Int) P) (k : Int) _ (Hx.out.keep hc1)).mono ?_
                    rintro e v2 ⟨rfl, hc2⟩
                    go_wp2_with fail
                    refine (sClosed_any _ _ _ (splV M (i0 : Int) P) (k : Int) _ (Hx.out.keep (step2 hc1 hc2))).mono ?_
                    rintro e v3 ⟨rfl, hc3⟩
                    go_wp2_with fail
                    refine (sClosed_any _ _ _ (M) (k : Int) _ (Hm.out.keep (step2 (step2 hc1 hc2) hc3))).mono ?_
                    rintro e v4 ⟨rfl, hc4⟩
                    go_wp2_with fail
                    refine (sClosed_any _ _ _ (N) (k : Int) _ (Hn.out.keep (step2 (step2 (step2 hc1 hc2) hc3) hc4))).mono ?_
                    rintro e v5 ⟨rfl, hc5⟩
                    go_wp2_with fail
                    refine (sClosed_any _ _ _ (splInV N j Q) (k : Int) _ (Hy.out.keep (step2 (step2 (step2 (step2 hc1 hc2) hc3) hc4) hc5))).mono ?_
                    rintro e v6 ⟨rfl, hc6⟩
                    go_wp2_with fail
                    refine (sClosed_any _ _ _ (splInV N j Q) (k : Int) _ (Hy.out.keep (step2 (step2 (step2 (step2 (step2 hc1 hc2) hc3) hc4) hc5) hc6))).mono ?_
                    rintro e v7 ⟨rfl, hc7⟩
                    go_wp2_with fail
                    refine (sClosed_any _ _ _ (N) (k : Int) _ (Hn.out.keep (step2 (step2 (step2 (step2 (step2 (step2 hc1 hc2) hc3) hc4) hc5) hc6) hc7))).mono ?_
                    rintro e v8 ⟨rfl, hc8⟩
                    go_wp2_with fail
                    go_roundw
                    case rel => exact ⟨k + 1, by omega, by omega, by go_num, (HBL.out.trans ((step2 (step2 (step2 (step2 (step2 (step2 (step2 hc1 hc2) hc3) hc4) hc5) hc6) hc7) hc8).mono HBL.out.size))⟩
                    case measure => simp [intOf]; omega
                · have dhy0 : decide (0 ≤ closed (splInV N j Q) (k : Int)) = false := decide_eq_false hy0
                  as_aux_lemma =>
                    go_wp2_with fail
                    refine (sClosed_any _ _ _ (M) (k : Int) _ Hm.out).mono ?_
                    rintro e v1 ⟨rfl, hc1⟩
                    go_wp2_with fail
                    refine (sClosed_any _ _ _ (splV M (i0 : Int) P) (k : Int) _ (Hx.out.keep hc1)).mono ?_
                    rintro e v2 ⟨rfl, hc2⟩
                    go_wp2_with fail
                    refine (sClosed_any _ _ _ (splV M (i0 : Int) P) (k : Int) _ (Hx.out.keep (step2 hc1 hc2))).mono ?_
                    rintro e v3 ⟨rfl, hc3⟩
                    go_wp2_with fail
                    refine (sClosed_any _ _ _ (M) (k : Int) _ (Hm.out.keep (step2 (step2 hc1 hc2) hc3))).mono ?_
                    rintro e v4 ⟨rfl, hc4⟩
                    go_wp2_with fail
                    refine (sClosed_any _ _ _ (N) (k : Int) _ (Hn.out.keep (step2 (step2 (step2 hc1 hc2) hc3) hc4))).mono ?_
                    rintro e v5 ⟨rfl, hc5⟩
                    go_wp2_with fail
                    refine (sClosed_any _ _ _ (splInV N j Q) (k : Int) _ (Hy.out.keep (step2 (step2 (step2 (step2 hc1 hc2) hc3) hc4) hc5))).mono ?_
                    rintro e v6 ⟨rfl, hc6⟩
                    go_wp2_with fail
                    go_roundw
                    case rel => exact ⟨k + 1, by omega, by omega, by go_num, (HBL.out.trans ((step2 (step2 (step2 (step2 (step2 hc1 hc2) hc3) hc4) hc5) hc6).mono HBL.out.size))⟩
                    case measure => simp [intOf]; omega
              · have dhn0 : decide (0 ≤ closed N (k : Int)) = false := decide_eq_false hn0
                as_aux_lemma =>
                  go_wp2_with fail
                  refine (sClosed_any _ _ _ (M) (k : Int) _ Hm.out).mono ?_
                  rintro e v1 ⟨rfl, hc1⟩
                  go_wp2_with fail
                  refine (sClosed_any _ _ _ (splV M (i0 : Int) P) (k : Int) _ (Hx.out.keep hc1)).mono ?_
                  rintro e v2 ⟨rfl, hc2⟩
                  go_wp2_with fail
                  refine (sClosed_any _ _ _ (splV M (i0 : Int) P) (k : Int) _ (Hx.out.keep (step2 hc1 hc2))).mono ?_
                  rintro e v3 ⟨rfl, hc3⟩
                  go_wp2_with fail
                  refine (sClosed_any _ _ _ (M) (k : Int) _ (Hm.out.keep (step2 (step2 hc1 hc2) hc3))).mono ?_
                  rintro e v4 ⟨rfl, hc4⟩
                  go_wp2_with fail
                  refine (sClosed_any _ _ _ (N) (k : Int) _ (Hn.out.keep (step2 (step2 (step2 hc1 hc2) hc3) hc4))).mono ?_
                  rintro e v5 ⟨rfl, hc5⟩
                  go_wp2_with fail
                  go_roundw
                  case rel => exact ⟨k + 1, by omega, by omega, by go_num, (HBL.out.trans ((step2 (step2 (step2 (step2 hc1 hc2) hc3) hc4) hc5).mono HBL.out.size))⟩
                  case measure => simp [intOf]; omega
          · have dhx0 : decide (0 ≤ closed (splV M (i0 : Int) P) (k : Int)) = false := decide_eq_false hx0
            cases on
            · as_aux_lemma =>
                go_wp2_with fail
                refine (sClosed_any _ _ _ (M) (k : Int) _ Hm.out).mono ?_
                rintro e v1 ⟨rfl, hc1⟩
                go_wp2_with fail
                refine (sClosed_any _ _ _ (splV M (i0 : Int) P) (k : Int) _ (Hx.out.keep hc1)).mono ?_
                rintro e v2 ⟨rfl, hc2⟩
                go_wp2_with fail
                go_roundw
                case rel => exact ⟨k + 1, by omega, by omega, by go_num, (HBL.out.trans ((step2 hc1 hc2).mono HBL.out.size))⟩
                case measure => simp [intOf]; omega
            · have hsp := HON.out
              by_cases hn0 : 0 ≤ closed N (k : Int)
              · have dhn0 : decide (0 ≤ closed N (k : Int)) = true := decide_eq_true hn0
                by_cases hy0 : 0 ≤ closed (splInV N j Q) (k : Int)
                · have dhy0 : decide (0 ≤ closed (splInV N j Q) (k : Int)) = true := decide_eq_true hy0
                  have heq : (closed (splInV N j Q) (k : Int) != closed N (k : Int)) = false := by rw [splIn_closed hsp hn0 hy0]; simp
                  clear hsp
                  as_aux_lemma =>
                    go_wp2_with fail
                    refine (sClosed_any _ _ _ (M) (k : Int) _ Hm.out).mono ?_
                    rintro e v1 ⟨rfl, hc1⟩
                    go_wp2_with fail
                    refine (sClosed_any _ _ _ (splV M (i0 : Int) P) (k : Int) _ (Hx.out.keep hc1)).mono ?_
                    rintro e v2 ⟨rfl, hc2⟩
                    go_wp2_with fail
                    refine (sClosed_any _ _ _ (N) (k : Int) _ (Hn.out.keep (step2 hc1 hc2))).mono ?_
                    rintro e v3 ⟨rfl, hc3⟩
                    go_wp2_with fail
                    refine (sClosed_any _ _ _ (splInV N j Q) (k : Int) _ (Hy.out.keep (step2 (step2 hc1 hc2) hc3))).mono ?_
                    rintro e v4 ⟨rfl, hc4⟩
                    go_wp2_with fail
                    refine (sClosed_any _ _ _ (splInV N j Q) (k : Int) _ (Hy.out.keep (step2 (step2 (step2 hc1 hc2) hc3) hc4))).mono ?_
                    rintro e v5 ⟨rfl, hc5⟩
                    go_wp2_with fail
                    refine (sClosed_any _ _ _ (N) (k : Int) _ (Hn.out.keep (step2 (step2 (step2 (step2 hc1 hc2) hc3) hc4) hc5))).mono ?_
                    rintro e v6 ⟨rfl, hc6⟩
                    go_wp2_with fail
                    go_roundw
                    case rel => exact ⟨k + 1, by omega, by omega, by go_num, (HBL.out.trans ((step2 (step2 (step2 (step2 (step2 hc1 hc2) hc3) hc4) hc5) hc6).mono HBL.out.size))⟩
                    case measure => simp [intOf]; omega
                · have dhy0 : decide (0 ≤ closed (splInV N j Q) (k : Int)) = false := decide_eq_false hy0
                  as_aux_lemma =>
                    go_wp2_with fail
                    refine (sClosed_any _ _ _ (M) (k : Int) _ Hm.out).mono ?_
                    rintro e v1 ⟨rfl, hc1⟩
                    go_wp2_with fail
                    refine (sClosed_any _ _ _ (splV M (i0 : Int) P) (k : Int) _ (Hx.out.keep hc1)).mono ?_
                    rintro e v2 ⟨rfl, hc2⟩
                    go_wp2_with fail
                    refine (sClosed_any _ _ _ (N) (k : Int) _ (Hn.out.keep (step2 hc1 hc2))).mono ?_
                    rintro e v3 ⟨rfl, hc3⟩
                    go_wp2_with fail
                    refine (sClosed_any _ _ _ (splInV N j Q) (k : Int) _ (Hy.out.keep (step2 (step2 hc1 hc2) hc3))).mono ?_
                    rintro e v4 ⟨rfl, hc4⟩
                    go_wp2_with fail
                    go_roundw
                    case rel => exact ⟨k + 1, by omega, by omega, by go_num, (HBL.out.trans ((step2 (step2 (step2 hc1 hc2) hc3) hc4).mono HBL.out.size))⟩
                    case measure => simp [intOf]; omega
              · have dhn0 : decide (0 ≤ closed N (k : Int)) = false := decide_eq_false hn0
                as_aux_lemma =>
                  go_wp2_with fail
                  refine (sClosed_any _ _ _ (M) (k : Int) _ Hm.out).mono ?_
                  rintro e v1 ⟨rfl, hc1⟩
                  go_wp2_with fail
                  refine (sClosed_any _ _ _ (splV M (i0 : Int) P) (k : Int) _ (Hx.out.keep hc1)).mono ?_
                  rintro e v2 ⟨rfl, hc2⟩
                  go_wp2_with fail
                  refine (sClosed_any _ _ _ (N) (k : Int) _ (Hn.out.keep (step2 hc1 hc2))).mono ?_
                  rintro e v3 ⟨rfl, hc3⟩
                  go_wp2_with fail
                  go_roundw
                  case rel => exact ⟨k + 1, by omega, by omega, by go_num, (HBL.out.trans ((step2 (step2 hc1 hc2) hc3).mono HBL.out.size))⟩
                  case measure => simp [intOf]; omega
        · have dhm0 : decide (0 ≤ closed M (k : Int)) = false := decide_eq_false hm0
          cases on
          · as_aux_lemma =>
              go_wp2_with fail
              refine (sClosed_any _ _ _ (M) (k : Int) _ Hm.out).mono ?_
              rintro e v1 ⟨rfl, hc1⟩
              go_wp2_with fail
              go_roundw
              case rel => exact ⟨k + 1, by omega, by omega, by go_num, (HBL.out.trans (hc1.mono HBL.out.size))⟩
              case measure => simp [intOf]; omega
          · have hsp := HON.out
            by_cases hn0 : 0 ≤ closed N (k : Int)
            · have dhn0 : decide (0 ≤ closed N (k : Int)) = true := decide_eq_true hn0
              by_cases hy0 : 0 ≤ closed (splInV N j Q) (k : Int)
              · have dhy0 : decide (0 ≤ closed (splInV N j Q) (k : Int)) = true := decide_eq_true hy0
                have heq : (closed (splInV N j Q) (k : Int) != closed N (k : Int)) = false := by rw [splIn_closed hsp hn0 hy0]; simp
                clear hsp
                as_aux_lemma =>
                  go_wp2_with fail
                  refine (sClosed_any _ _ _ (M) (k : Int) _ Hm.out).mono ?_
                  rintro e v1 ⟨rfl, hc1⟩
                  go_wp2_with fail
                  refine (sClosed_any _ _ _ (N) (k : Int) _ (Hn.out.keep hc1)).mono ?_
                  rintro e v2 ⟨rfl, hc2⟩
                  go_wp2_with fail
                  refine (sClosed_any _ _ _ (splInV N j Q) (k : Int) _ (Hy.out.keep (step2 hc1 hc2))).mono ?_
                  rintro e v3 ⟨rfl, hc3⟩
                  go_wp2_with fail
                  refine (sClosed_any _ _ _ (splInV N j Q) (k : Int) _ (Hy.out.keep (step2 (step2 hc1 hc2) hc3))).mono ?_
                  rintro e v4 ⟨rfl, hc4⟩
                  go_wp2_with fail
                  refine (sClosed_any _ _ _ (N) (k : Int) _ (Hn.out.keep (step2 (step2 (step2 hc1 hc2) hc3) hc4))).mono ?_
                  rintro e v5 ⟨rfl, hc5⟩
                  go_wp2_with fail
                  go_roundw
                  case rel => exact ⟨k + 1, by omega, by omega, by go_num, (HBL.out.trans ((step2 (step2 (step2 (step2 hc1 hc2) hc3) hc4) hc5).mono HBL.out.size))⟩
                  case measure => simp [intOf]; omega
              · have dhy0 : decide (0 ≤ closed (splInV N j Q) (k : Int)) = false := decide_eq_false hy0
                as_aux_lemma =>
                  go_wp2_with fail
                  refine (sClosed_any _ _ _ (M) (k : Int) _ Hm.out).mono ?_
                  rintro e v1 ⟨rfl, hc1⟩
                  go_wp2_with fail
                  refine (sClosed_any _ _ _ (N) (k : Int) _ (Hn.out.keep hc1)).mono ?_
                  rintro e v2 ⟨rfl, hc2⟩
                  go_wp2_with fail
                  refine (sClosed_any _ _ _ (splInV N j Q) (k : Int) _ (Hy.out.keep (step2 hc1 hc2))).mono ?_
                  rintro e v3 ⟨rfl, hc3⟩
                  go_wp2_with fail
                  go_roundw
                  case rel => exact ⟨k + 1, by omega, by omega, by go_num, (HBL.out.trans ((step2 (step2 hc1 hc2) hc3).mono HBL.out.size))⟩
                  case measure => simp [intOf]; omega
            · have dhn0 : decide (0 ≤ closed N (k : Int)) = false := decide_eq_false hn0
              as_aux_lemma =>
                go_wp2_with fail
                refine (sClosed_any _ _ _ (M) (k : Int) _ Hm.out).mono ?_
                rintro e v1 ⟨rfl, hc1⟩
                go_wp2_with fail
                refine (sClosed_any _ _ _ (N) (k : Int) _ (Hn.out.keep hc1)).mono ?_
                rintro e v2 ⟨rfl, hc2⟩
                go_wp2_with fail
                go_roundw
                case rel => exact ⟨k + 1, by omega, by omega, by go_num, (HBL.out.trans ((step2 hc1 hc2).mono HBL.out.size))⟩
                case measure => simp [intOf]; omega
      · have hle : decide ((k : Int) ≤ 4) = false := decide_eq_false (by omega)
        generalize wr = w21 at HBL ⊢
        have hb21 := HBL.out
        clear hbl
        go_wp2_with fail
        refine (iTableTimes_any _ _ _ (pairR M (i0 : Int) P) _ _ _ (pairS M (i0 : Int) P) _ (HRr.out.keep hb21) (HRsx.out.keep hb21)).mono ?_
        rintro e w22 ⟨ve, rfl, hoe, hb22⟩
        obtain ⟨ae, ce, rfl, hfe⟩ := hoe.form
        have hre := Lib.hid hfe
        clear hoe hfe
        generalize hfi : ttOk (pairR M (i0 : Int) P) (pairS M (i0 : Int) P) = fi
        have HFI := Lib.hid hfi
        clear hfi
        go_wp2_with fail
        refine (iTableTimes_any _ _ _ (pairS M (i0 : Int) P) _ _ _ (pairR M (i0 : Int) P) _ (HRsx.out.keep (step2 hb21 hb22)) (HRr.out.keep (step2 hb21 hb22))).mono ?_
        rintro e w23 ⟨vf, rfl, hof, hb23⟩
        obtain ⟨af, cf, rfl, hff⟩ := hof.form
        have hrf := Lib.hid hff
        clear hof hff
        generalize hgo : ttOk (pairS M (i0 : Int) P) (pairR M (i0 : Int) P) = gd
        have HGO := Lib.hid hgo
        clear hgo
        cases fi
        · as_aux_lemma =>
            go_wp2_with fail
            refine (sJoinOut_in _ _ _ (splV M (i0 : Int) P) i0 M.length _ (HRx.out.keep (step2 (step2 hb21 hb22) hb23)) HMT.out (by omega) (by rw [HXL.out]; omega) HCOL.out HRES.out).mono ?_
            rintro e w24 ⟨vb, rfl, hobk, hb24⟩
            obtain ⟨abk, cbk, rfl, hfb⟩ := hobk.form
            have hrbk := Lib.hid hfb
            clear hobk hfb
            go_wp2_with fail
            refine (ofD (sameLists_any _ _ _ M _ _ _ M _ (by have h := hrbk.out; rw [HJ.out] at h; rw [HJ.out]; exact h) (HRm.out.keep (step2 (step2 (step2 hb21 hb22) hb23) hb24)))).mono ?_
            rintro e w25 ⟨rfl, hb25⟩
            go_wp2_with fail
            go_ret
            exact ⟨ret_bool (eqL_self M), step2 HBZ.out (step2 (step2 (step2 (step2 hb21 hb22) hb23) hb24) hb25)⟩
        · cases gd
          · as_aux_lemma =>
              go_wp2_with fail
              refine (sJoinOut_in _ _ _ (splV M (i0 : Int) P) i0 M.length _ (HRx.out.keep (step2 (step2 hb21 hb22) hb23)) HMT.out (by omega) (by rw [HXL.out]; omega) HCOL.out HRES.out).mono ?_
              rintro e w24 ⟨vb, rfl, hobk, hb24⟩
              obtain ⟨abk, cbk, rfl, hfb⟩ := hobk.form
              have hrbk := Lib.hid hfb
              clear hobk hfb
              go_wp2_with fail
              refine (ofD (sameLists_any _ _ _ M _ _ _ M _ (by have h := hrbk.out; rw [HJ.out] at h; rw [HJ.out]; exact h) (HRm.out.keep (step2 (step2 (step2 hb21 hb22) hb23) hb24)))).mono ?_
              rintro e w25 ⟨rfl, hb25⟩
              go_wp2_with fail
              go_ret
              exact ⟨ret_bool (eqL_self M), step2 HBZ.out (step2 (step2 (step2 (step2 hb21 hb22) hb23) hb24) hb25)⟩
          · have t1 := HTE.out HFI.out
            have t2 := HTF.out HGO.out
            have t3 := eqL_true t1
            have t4 := eqL_true t2
            clear t1 t2
            as_aux_lemma =>
              go_wp2_with fail
              refine (ofD (sameLists_any _ _ _ (ttV (pairR M (i0 : Int) P) (pairS M (i0 : Int) P)) _ _ _ M _ (hre.out.keep hb23) (HRm.out.keep (step2 (step2 hb21 hb22) hb23)))).mono ?_
              rintro e w24 ⟨rfl, hb24⟩
              rw [t3]
              go_wp2_with fail
              refine (ofD (sameLists_any _ _ _ (ttV (pairS M (i0 : Int) P) (pairR M (i0 : Int) P)) _ _ _ (splV M (i0 : Int) P) _ (hrf.out.keep hb24) (HRx.out.keep (step2 (step2 (step2 hb21 hb22) hb23) hb24)))).mono ?_
              rintro e w25 ⟨rfl, hb25⟩
              rw [t4]
              go_wp2_with fail
              refine (sJoinOut_in _ _ _ (splV M (i0 : Int) P) i0 M.length _ (HRx.out.keep (step2 (step2 (step2 (step2 hb21 hb22) hb23) hb24) hb25)) HMT.out (by omega) (by rw [HXL.out]; omega) HCOL.out HRES.out).mono ?_
              rintro e w26 ⟨vb, rfl, hobk, hb26⟩
              obtain ⟨abk, cbk, rfl, hfb⟩ := hobk.form
              have hrbk := Lib.hid hfb
              clear hobk hfb
              go_wp2_with fail
              refine (ofD (sameLists_any _ _ _ M _ _ _ M _ (by have h := hrbk.out; rw [HJ.out] at h; rw [HJ.out]; exact h) (HRm.out.keep (step2 (step2 (step2 (step2 (step2 hb21 hb22) hb23) hb24) hb25) hb26)))).mono ?_
              rintro e w27 ⟨rfl, hb27⟩
              go_wp2_with fail
              go_ret
              exact ⟨ret_bool (eqL_self M), step2 HBZ.out (step2 (step2 (step2 (step2 (step2 (step2 hb21 hb22) hb23) hb24) hb25) hb26) hb27)⟩

namespace fnSplits
open Go.ChangeShapes Go.WideShapes Go.ChangeAt
open Go.ChangeMaps (open_string shut_string)
set_option maxRecDepth 100000 in
theorem lifted (os : Os) (started : os.Started) (H : Type) (enc : TypeId × Value → H) :
    ReturnsInHanded {} Try.checked os 4 .any (Rows.fnSplitsSpec.pre6 enc Try.prog Try.f4 Rows.fnSplitsRow.domain false) (Rows.fnSplitsSpec.post enc Try.prog Try.f4 false true false false) := by
  refine returnsInHanded_of_change (C := Try.checked) ownKnobNone started (by kernel_rfl) Try.func4
    (ChangeSpec.witness6 (enc := enc) (C := Try.checked) false ⟨#[], #[.slice none 0 0], []⟩ 8 (by kernel_rfl) (by kernel_rfl) (by kernel_rfl) (by kernel_rfl)) ?_
  intro W base args ds gs before hval0 hW hcnd _
  have hval : ∀ (j : Nat) t v, Try.f4.params[j]? = some t → args[j]? = some v → Value.okWide Try.prog W .any base t v := hval0
  have hW' := hW
  obtain ⟨p, q, hA0, hV, rfl, hfz, hnd⟩ := hW
  have hA : DataW.TrodAll enc Try.prog W 0 (fun _ => true) true Try.f4.params.toList args.toList ds p := hA0
  rw [Try.params4] at hA hval
  obtain ⟨v0, vs0, d0, ds0, p0, q0, hargs, rfl, rfl, h0, r0⟩ := trodAll_cons hA
  obtain ⟨rfl, rfl, rfl⟩ := trodAll_nil r0
  obtain rfl : args = #[v0] := by cases args; simp_all
  obtain ⟨rfl, rfl⟩ := trodVars_none hV
  obtain ⟨a0, len0, cap0, rfl⟩ := okWide_slice Try.underlying22 (hval 0 22 v0 rfl rfl)
  have k0 := h0
  have lt0 : ∀ x ∈ p0, x.block < W.heap.size := by obtain ⟨m, hm⟩ := k0; exact DataW.trod_lt m _ _ _ hm
  obtain ⟨z0, w0⟩ := open_bytesIn h0
  clear hA0 hval0
  refine (fnSplits_walk a0 len0 cap0 z0 W w0).mono fun e W' ⟨he, bel⟩ => ?_
  subst he
  exact ⟨_, rfl, _, _, _, [], _, [], hW', trodAll_mk1 (shut_bool Try.underlying4 _), (trodAll_cons_mk (Below.trod laidOutYes (by kernel_rfl) (of_decide_eq_true (by kernel_rfl)) k0 bel lt0) trodAll_mk0), rfl, bel.frame _, fun h => by cases h⟩

theorem over : Rows.fnSplitsRow.holds Try.pinned (OpenSpec.ofChange Rows.fnSplitsSpec) :=
  OpenClaim.holds_of_wide 4 Try.f4 rfl rfl rfl rfl rfl rfl rfl ⟨rfl, rfl, rfl, rfl, rfl⟩ rfl rfl rfl rfl rfl (by kernel_rfl) Try.func4 (by kernel_rfl)
    (of_decide_eq_true (by kernel_rfl)) (by unfold Func.isWrapper; first | (rw [if_pos (by decide +kernel)]; kernel_rfl) | (rw [if_neg (by decide +kernel)]; exact ⟨rfl, rfl⟩))
    (fun os started H enc _ => lifted os started H enc)

theorem proved : Rows.FnSplitsSaid := over
end fnSplits

#print axioms fnSplits.proved
end Go.Proofs.Ytblkgkgopneleaa
