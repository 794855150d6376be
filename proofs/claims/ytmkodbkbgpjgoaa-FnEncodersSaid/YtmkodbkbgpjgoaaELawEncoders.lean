/- Proved here: the law FnEncoders returns true at every input, and leaves its argument as it was. No condition. -/
import Derived.Test.YtmkodbkbgpjgoaaRows
import Derived.BigQuiet
import Derived.Deep.RegionLaw
import Derived.Deep.RegionHeld3
import Derived.Test.YtmkodbkbgpjgoaaProg
import Derived.Test.YtmkodbkbgpjgoaaEG0a
import Derived.Test.YtmkodbkbgpjgoaaEG2a
import Derived.Test.YtmkodbkbgpjgoaaED27c
import Derived.Test.YtmkodbkbgpjgoaaEG0c
import Derived.Test.YtmkodbkbgpjgoaaEIEnc
import Derived.Test.YtmkodbkbgpjgoaaEIDec
import Derived.Test.YtmkodbkbgpjgoaaESDec
import Derived.Test.YtmkodbkbgpjgoaaEG1a
import Derived.Test.YtmkodbkbgpjgoaaEISplitW
import Derived.Test.YtmkodbkbgpjgoaaESSplitW
namespace Go.Proofs.Ytmkodbkbgpjgoaa
open Go.RowKit
set_option linter.all false
set_option maxHeartbeats 25600000 in
set_option maxRecDepth 100000 in
theorem fnEncoders_walk (p0 : Option Addr) (n0 c0 : Nat) (z0 : List Int) (w : World) (h0 : BytesIn w p0 n0 z0) :
    Calls Try.prog 3 #[.slice p0 n0 c0] w fun e w' => e = .returned (.bool true) ∧ Below w.heap.size w w' := by
  by_cases hbig : 1048576 < n0
  · go_enter Try.func3, Try.ntmps3
    go_wp2_with (go_at_call 4; refine (lBig_yes _ _ _ _ hbig).mono ?_; rintro e w' ⟨rfl, rfl⟩)
    go_ret
    exact ⟨rfl, Below.refl _ _⟩
  have HY : Hid (Bytes w p0 n0) := ⟨by omega, h0.cells⟩
  clear h0
  go_enter Try.func3, Try.ntmps3
  go_wp2_with (go_at_call 4; refine (lBig_no _ _ _ _ (by omega)).mono ?_; rintro e w' ⟨rfl, rfl⟩)
  refine (drawEnc_any _ _ _ _ HY.out).mono ?_
  rintro e w1 ⟨L1, S1, v1, x1, p1, s1, rfl, ho1, hx1, hs1, h1⟩
  have H1 := Lib.hid h1
  obtain ⟨a1, c1, rfl, hr1⟩ := ho1.form
  clear ho1 h1
  have hs1m : s1.size ≤ 1048576 := by omega
  obtain ⟨ok1, hok1⟩ : ∃ k, encOk L1 S1 x1 p1 s1 = k := ⟨_, rfl⟩
  obtain ⟨ws1, hws1⟩ : ∃ k, encS L1 S1 x1 p1 s1 = k := ⟨_, rfl⟩
  obtain ⟨q1, hq1⟩ : ∃ k, encQ L1 S1 x1 p1 s1 = k := ⟨_, rfl⟩
  obtain ⟨e1, he1⟩ : ∃ k, isEnc L1 S1 x1 = k := ⟨_, rfl⟩
  have HIe := fun W (q : Arcs W a1 x1.length x1) => iEncodeBits_any L1 S1 a1 x1.length c1 x1 p1 s1 W q hs1m
  have HSe := fun W (q : Arcs W a1 x1.length x1) => sEncodeBits_any L1 S1 a1 x1.length c1 x1 p1 s1 W q hs1m
  have HIi := fun W (q : Arcs W a1 x1.length x1) => iIsEncoder_any L1 S1 a1 x1.length c1 x1 W q
  have HSi := fun W (q : Arcs W a1 x1.length x1) => sIsEncoder_any L1 S1 a1 x1.length c1 x1 W q
  rw [hok1, hws1, hq1] at HIe HSe
  rw [he1] at HIi HSi
  have HIe := Lib.hid HIe
  have HSe := Lib.hid HSe
  have HIi := Lib.hid HIi
  have HSi := Lib.hid HSi
  have HOK1 := Lib.hid hok1
  have HWS1 := Lib.hid hws1
  have HQ1 := Lib.hid hq1
  clear hok1 hws1 hq1 he1
  have Kl := Lib.hid (Blk.new w1 26 #[.int .i64 L1, .int .i64 S1, .slice a1 x1.length c1])
  have Gl := Lib.hid (belowA w1 (.cells #[.int .i64 L1, .int .i64 S1, .slice a1 x1.length c1] 26))
  have Al := Lib.hid (hr1.keep Gl.out)
  have k0 := Kl.out.c0
  have k1 := Kl.out.c1
  have k2 := Kl.out.c2
  go_wp2_with fail
  generalize w1.alloc (.cells #[.int .i64 L1, .int .i64 S1, .slice a1 x1.length c1] 26) = w1a at Kl Gl Al k0 k1 k2 ⊢
  clear k0 k1 k2
  clear hr1
  refine (HIe.out _ Al.out).mono ?_
  rintro e w2 ⟨rfl, h2⟩
  have H2 := Lib.hid h2
  clear h2
  have k0 := (Kl.out.keep H2.out).c0
  have k1 := (Kl.out.keep H2.out).c1
  have k2 := (Kl.out.keep H2.out).c2
  go_wp2_with fail
  clear k0 k1 k2
  refine (HSe.out _ (Al.out.keep H2.out)).mono ?_
  rintro e w3 ⟨rfl, h3⟩
  have H3 := Lib.hid h3
  clear h3
  go_wp2_with fail
  refine (drawDec_any _ _ _ _ (HY.out.keep (step2 (step2 (step2 H1.out Gl.out) H2.out) H3.out))).mono ?_
  rintro e w4 ⟨L2, S2, v2, x2, p2, s2, rfl, ho2, hx2, hs2, h4⟩
  have H4 := Lib.hid h4
  obtain ⟨a2, c2, rfl, hr2⟩ := ho2.form
  clear ho2 h4
  have hs2m : s2.size ≤ 1048576 := by omega
  obtain ⟨ok2, hok2⟩ : ∃ k, decOk L2 S2 x2 p2 s2 = k := ⟨_, rfl⟩
  obtain ⟨ws2, hws2⟩ : ∃ k, decS L2 S2 x2 p2 s2 = k := ⟨_, rfl⟩
  have HId := fun W (q : Arcs W a2 x2.length x2) => iDecodeWord_any L2 S2 a2 x2.length c2 x2 p2 s2 W q hs2m
  have HSd := fun W (q : Arcs W a2 x2.length x2) => sDecodeWord_any L2 S2 a2 x2.length c2 x2 p2 s2 W q hs2m
  rw [hok2, hws2] at HId HSd
  have HId := Lib.hid HId
  have HSd := Lib.hid HSd
  have HOK2 := Lib.hid hok2
  have HWS2 := Lib.hid hws2
  clear hok2 hws2
  have Ka := Lib.hid (Blk.new w4 26 #[.int .i64 L2, .int .i64 S2, .slice a2 x2.length c2])
  have Ga := Lib.hid (belowA w4 (.cells #[.int .i64 L2, .int .i64 S2, .slice a2 x2.length c2] 26))
  have Aa := Lib.hid (hr2.keep Ga.out)
  have k0 := Ka.out.c0
  have k1 := Ka.out.c1
  have k2 := Ka.out.c2
  go_wp2_with fail
  generalize w4.alloc (.cells #[.int .i64 L2, .int .i64 S2, .slice a2 x2.length c2] 26) = w4a at Ka Ga Aa k0 k1 k2 ⊢
  clear k0 k1 k2
  clear hr2
  refine (HId.out _ Aa.out).mono ?_
  rintro e w5 ⟨rfl, h5⟩
  have H5 := Lib.hid h5
  clear h5
  have k0 := (Ka.out.keep H5.out).c0
  have k1 := (Ka.out.keep H5.out).c1
  have k2 := (Ka.out.keep H5.out).c2
  go_wp2_with fail
  clear k0 k1 k2
  refine (HSd.out _ (Aa.out.keep H5.out)).mono ?_
  rintro e w6 ⟨rfl, h6⟩
  have H6 := Lib.hid h6
  clear h6
  go_wp2_with fail
  refine (drawPrune_any _ _ _ _ (HY.out.keep (step2 (step2 (step2 (step2 (step2 (step2 (step2 H1.out Gl.out) H2.out) H3.out) H4.out) Ga.out) H5.out) H6.out))).mono ?_
  rintro e w7 ⟨L3, S3, v3, x3, rfl, ho3, hx3, h7⟩
  have H7 := Lib.hid h7
  obtain ⟨a3, c3, rfl, hr3⟩ := ho3.form
  clear ho3 h7
  obtain ⟨ok3, hok3⟩ : ∃ k, isEnc L3 S3 x3 = k := ⟨_, rfl⟩
  have HIp := fun W (q : Arcs W a3 x3.length x3) => iPruneLabels_any L3 S3 a3 x3.length c3 x3 W q
  have HSp := fun W (q : Arcs W a3 x3.length x3) => sPruneLabels_any L3 S3 a3 x3.length c3 x3 W q
  rw [hok3] at HIp HSp
  have HPL : Hid (ok3 = true → isEnc (prL L3 S3 x3) (prS L3 S3 x3) (prX L3 S3 x3) = true ∧ ∀ (k : Nat) (x : Int), (stSums (prL L3 S3 x3) (prS L3 S3 x3) (prX L3 S3 x3))[k]? = some x → x = 2) := fun e => prune_law (hok3.trans e)
  obtain ⟨pL, hpL⟩ : ∃ k, prL L3 S3 x3 = k := ⟨_, rfl⟩
  obtain ⟨pS, hpS⟩ : ∃ k, prS L3 S3 x3 = k := ⟨_, rfl⟩
  obtain ⟨pX, hpX⟩ : ∃ k, prX L3 S3 x3 = k := ⟨_, rfl⟩
  rw [hpL, hpS, hpX] at HIp HSp HPL
  have HIp := Lib.hid HIp
  have HSp := Lib.hid HSp
  clear hok3 hpL hpS hpX
  have Ke := Lib.hid (Blk.new w7 26 #[.int .i64 L3, .int .i64 S3, .slice a3 x3.length c3])
  have Ge := Lib.hid (belowA w7 (.cells #[.int .i64 L3, .int .i64 S3, .slice a3 x3.length c3] 26))
  have Ae := Lib.hid (hr3.keep Ge.out)
  have k0 := Ke.out.c0
  have k1 := Ke.out.c1
  have k2 := Ke.out.c2
  go_wp2_with fail
  generalize w7.alloc (.cells #[.int .i64 L3, .int .i64 S3, .slice a3 x3.length c3] 26) = w7a at Ke Ge Ae k0 k1 k2 ⊢
  clear k0 k1 k2
  clear hr3
  refine (HIp.out _ Ae.out).mono ?_
  rintro e w8 ⟨v4, rfl, ho4, h8⟩
  have H8 := Lib.hid h8
  obtain ⟨a4, c4, rfl, hr4⟩ := ho4.form
  clear ho4 h8
  have Kx := Lib.hid (Blk.new w8 26 #[.int .i64 pL, .int .i64 pS, .slice a4 pX.length c4])
  have Gx := Lib.hid (belowA w8 (.cells #[.int .i64 pL, .int .i64 pS, .slice a4 pX.length c4] 26))
  have Ax := Lib.hid (hr4.keep Gx.out)
  have k0 := (Ke.out.keep (step2 H8.out Gx.out)).c0
  have k1 := (Ke.out.keep (step2 H8.out Gx.out)).c1
  have k2 := (Ke.out.keep (step2 H8.out Gx.out)).c2
  go_wp2_with fail
  generalize w8.alloc (.cells #[.int .i64 pL, .int .i64 pS, .slice a4 pX.length c4] 26) = w8a at Kx Gx Ax k0 k1 k2 ⊢
  clear k0 k1 k2
  clear hr4
  refine (HSp.out _ (Ae.out.keep (step2 H8.out Gx.out))).mono ?_
  rintro e w9 ⟨v5, rfl, ho5, h9⟩
  have H9 := Lib.hid h9
  obtain ⟨a5, c5, rfl, hr5⟩ := ho5.form
  clear ho5 h9
  have Ky := Lib.hid (Blk.new w9 26 #[.int .i64 pL, .int .i64 pS, .slice a5 pX.length c5])
  have Gy := Lib.hid (belowA w9 (.cells #[.int .i64 pL, .int .i64 pS, .slice a5 pX.length c5] 26))
  have Ay := Lib.hid (hr5.keep Gy.out)
  go_wp2_with fail
  generalize w9.alloc (.cells #[.int .i64 pL, .int .i64 pS, .slice a5 pX.length c5] 26) = w9a at Ky Gy Ay ⊢
  clear hr5
  refine (drawSpl_any _ _ _ _ (HY.out.keep (step2 (step2 (step2 (step2 (step2 (step2 (step2 (step2 (step2 (step2 (step2 (step2 (step2 H1.out Gl.out) H2.out) H3.out) H4.out) Ga.out) H5.out) H6.out) H7.out) Ge.out) H8.out) Gx.out) H9.out) Gy.out))).mono ?_
  rintro e w10 ⟨L6, S6, v6, x6, p6, q6, rfl, ho6, hx6, h10⟩
  have H10 := Lib.hid h10
  obtain ⟨a6, c6, rfl, hr6⟩ := ho6.form
  clear ho6 h10
  have HIs := fun W (q : Arcs W a6 x6.length x6) => iSplitState_any L6 S6 a6 x6.length c6 x6 p6 q6 W q
  have HSs := fun W (q : Arcs W a6 x6.length x6) => sSplitState_any L6 S6 a6 x6.length c6 x6 p6 q6 W q
  have HSL : Hid (splOk L6 S6 x6 p6 q6 = true → ∃ Sn pn : Nat, S6 = Sn ∧ Sn ≤ 12 ∧ splL L6 S6 x6 p6 q6 = L6 ∧ splS L6 S6 x6 p6 q6 = ((Sn + 1 : Nat) : Int) ∧ SameH L6 Sn (Sn + 1) (splX L6 S6 x6 p6 q6) x6 (liftS Sn pn)) := split_same
  obtain ⟨ok4, hok4⟩ : ∃ k, splOk L6 S6 x6 p6 q6 = k := ⟨_, rfl⟩
  obtain ⟨fL, hfL⟩ : ∃ k, splL L6 S6 x6 p6 q6 = k := ⟨_, rfl⟩
  obtain ⟨fS, hfS⟩ : ∃ k, splS L6 S6 x6 p6 q6 = k := ⟨_, rfl⟩
  obtain ⟨fX, hfX⟩ : ∃ k, splX L6 S6 x6 p6 q6 = k := ⟨_, rfl⟩
  rw [hok4, hfL, hfS, hfX] at HIs HSs HSL
  have HIs := Lib.hid HIs
  have HSs := Lib.hid HSs
  clear hok4 hfL hfS hfX
  have Ks := Lib.hid (Blk.new w10 26 #[.int .i64 L6, .int .i64 S6, .slice a6 x6.length c6])
  have Gs := Lib.hid (belowA w10 (.cells #[.int .i64 L6, .int .i64 S6, .slice a6 x6.length c6] 26))
  have As := Lib.hid (hr6.keep Gs.out)
  have k0 := Ks.out.c0
  have k1 := Ks.out.c1
  have k2 := Ks.out.c2
  go_wp2_with fail
  generalize w10.alloc (.cells #[.int .i64 L6, .int .i64 S6, .slice a6 x6.length c6] 26) = w10a at Ks Gs As k0 k1 k2 ⊢
  clear k0 k1 k2
  clear hr6
  refine (HIs.out _ As.out).mono ?_
  rintro e w11 ⟨v7, rfl, ho7, h11⟩
  have H11 := Lib.hid h11
  obtain ⟨a7, c7, rfl, hr7⟩ := ho7.form
  clear ho7 h11
  have Kf := Lib.hid (Blk.new w11 26 #[.int .i64 fL, .int .i64 fS, .slice a7 fX.length c7])
  have Gf := Lib.hid (belowA w11 (.cells #[.int .i64 fL, .int .i64 fS, .slice a7 fX.length c7] 26))
  have Af := Lib.hid (hr7.keep Gf.out)
  have k0 := (Ks.out.keep (step2 H11.out Gf.out)).c0
  have k1 := (Ks.out.keep (step2 H11.out Gf.out)).c1
  have k2 := (Ks.out.keep (step2 H11.out Gf.out)).c2
  go_wp2_with fail
  generalize w11.alloc (.cells #[.int .i64 fL, .int .i64 fS, .slice a7 fX.length c7] 26) = w11a at Kf Gf Af k0 k1 k2 ⊢
  clear k0 k1 k2
  clear hr7
  refine (HSs.out _ (As.out.keep (step2 H11.out Gf.out))).mono ?_
  rintro e w12 ⟨v8, rfl, ho8, h12⟩
  have H12 := Lib.hid h12
  obtain ⟨a8, c8, rfl, hr8⟩ := ho8.form
  clear ho8 h12
  have t1 : (ok1 != ok1) = false := by simp
  have t2 : (ws1.toList != ws1.toList) = false := by simp
  have t3 : (q1 != q1) = false := by simp
  have t4 : (ok2 != ok2) = false := by simp
  have t5 : (ws2.toList != ws2.toList) = false := by simp
  have t6 : (ok3 != ok3) = false := by simp
  have t7 : (ok4 != ok4) = false := by simp
  have t8 : (e1 != e1) = false := by simp
  have Kg := Lib.hid (Blk.new w12 26 #[.int .i64 fL, .int .i64 fS, .slice a8 fX.length c8])
  have Gg := Lib.hid (belowA w12 (.cells #[.int .i64 fL, .int .i64 fS, .slice a8 fX.length c8] 26))
  have Ag := Lib.hid (hr8.keep Gg.out)
  go_upto_region 15 with fail
  generalize w12.alloc (.cells #[.int .i64 fL, .int .i64 fS, .slice a8 fX.length c8] 26) = w12a at Kg Gg Ag ⊢
  clear hr8
  have Kl := Lib.hid ((Kl.out.keep (step2 (step2 (step2 (step2 (step2 (step2 (step2 (step2 (step2 (step2 (step2 (step2 (step2 (step2 (step2 (step2 (step2 H2.out H3.out) H4.out) Ga.out) H5.out) H6.out) H7.out) Ge.out) H8.out) Gx.out) H9.out) Gy.out) H10.out) Gs.out) H11.out) Gf.out) H12.out) Gg.out)))
  have Al := Lib.hid ((Al.out.keep (step2 (step2 (step2 (step2 (step2 (step2 (step2 (step2 (step2 (step2 (step2 (step2 (step2 (step2 (step2 (step2 (step2 H2.out H3.out) H4.out) Ga.out) H5.out) H6.out) H7.out) Ge.out) H8.out) Gx.out) H9.out) Gy.out) H10.out) Gs.out) H11.out) Gf.out) H12.out) Gg.out)))
  have Ke := Lib.hid ((Ke.out.keep (step2 (step2 (step2 (step2 (step2 (step2 (step2 (step2 (step2 H8.out Gx.out) H9.out) Gy.out) H10.out) Gs.out) H11.out) Gf.out) H12.out) Gg.out)))
  have Ae := Lib.hid ((Ae.out.keep (step2 (step2 (step2 (step2 (step2 (step2 (step2 (step2 (step2 H8.out Gx.out) H9.out) Gy.out) H10.out) Gs.out) H11.out) Gf.out) H12.out) Gg.out)))
  have Ka := Lib.hid ((Ka.out.keep (step2 (step2 (step2 (step2 (step2 (step2 (step2 (step2 (step2 (step2 (step2 (step2 (step2 H5.out H6.out) H7.out) Ge.out) H8.out) Gx.out) H9.out) Gy.out) H10.out) Gs.out) H11.out) Gf.out) H12.out) Gg.out)))
  have Aa := Lib.hid ((Aa.out.keep (step2 (step2 (step2 (step2 (step2 (step2 (step2 (step2 (step2 (step2 (step2 (step2 (step2 H5.out H6.out) H7.out) Ge.out) H8.out) Gx.out) H9.out) Gy.out) H10.out) Gs.out) H11.out) Gf.out) H12.out) Gg.out)))
  have Ks := Lib.hid ((Ks.out.keep (step2 (step2 (step2 H11.out Gf.out) H12.out) Gg.out)))
  have As := Lib.hid ((As.out.keep (step2 (step2 (step2 H11.out Gf.out) H12.out) Gg.out)))
  have Kx := Lib.hid ((Kx.out.keep (step2 (step2 (step2 (step2 (step2 (step2 (step2 H9.out Gy.out) H10.out) Gs.out) H11.out) Gf.out) H12.out) Gg.out)))
  have Ax := Lib.hid ((Ax.out.keep (step2 (step2 (step2 (step2 (step2 (step2 (step2 H9.out Gy.out) H10.out) Gs.out) H11.out) Gf.out) H12.out) Gg.out)))
  have Ky := Lib.hid ((Ky.out.keep (step2 (step2 (step2 (step2 (step2 H10.out Gs.out) H11.out) Gf.out) H12.out) Gg.out)))
  have Ay := Lib.hid ((Ay.out.keep (step2 (step2 (step2 (step2 (step2 H10.out Gs.out) H11.out) Gf.out) H12.out) Gg.out)))
  have Kf := Lib.hid ((Kf.out.keep (step2 H12.out Gg.out)))
  have Af := Lib.hid ((Af.out.keep (step2 H12.out Gg.out)))
  have HW := Lib.hid ((step2 (step2 (step2 (step2 (step2 (step2 (step2 (step2 (step2 (step2 (step2 (step2 (step2 (step2 (step2 (step2 (step2 (step2 (step2 H1.out Gl.out) H2.out) H3.out) H4.out) Ga.out) H5.out) H6.out) H7.out) Ge.out) H8.out) Gx.out) H9.out) Gy.out) H10.out) Gs.out) H11.out) Gf.out) H12.out) Gg.out))
  clear HY H1 Gl H2 H3 H4 Ga H5 H6 H7 Ge H8 Gx H9 Gy H10 Gs H11 Gf H12 Gg
  have HS : Hid (∀ w' : World, Below w12a.heap.size w12a w' → (w'.cell? ⟨w8.heap.size, 0, none⟩ = some (.int .i64 pL) ∧ w'.cell? ⟨w8.heap.size, 1, none⟩ = some (.int .i64 pS) ∧ w'.cell? ⟨w8.heap.size, 2, none⟩ = some (.slice a4 pX.length c4) ∧ w'.cell? ⟨w9.heap.size, 0, none⟩ = some (.int .i64 pL) ∧ w'.cell? ⟨w9.heap.size, 1, none⟩ = some (.int .i64 pS) ∧ w'.cell? ⟨w9.heap.size, 2, none⟩ = some (.slice a5 pX.length c5) ∧ w'.cell? ⟨w11.heap.size, 0, none⟩ = some (.int .i64 fL) ∧ w'.cell? ⟨w11.heap.size, 1, none⟩ = some (.int .i64 fS) ∧ w'.cell? ⟨w11.heap.size, 2, none⟩ = some (.slice a7 fX.length c7) ∧ w'.cell? ⟨w12.heap.size, 0, none⟩ = some (.int .i64 fL) ∧ w'.cell? ⟨w12.heap.size, 1, none⟩ = some (.int .i64 fS) ∧ w'.cell? ⟨w12.heap.size, 2, none⟩ = some (.slice a8 fX.length c8) ∧ w'.cell? ⟨w1.heap.size, 0, none⟩ = some (.int .i64 L1) ∧ w'.cell? ⟨w1.heap.size, 1, none⟩ = some (.int .i64 S1) ∧ w'.cell? ⟨w1.heap.size, 2, none⟩ = some (.slice a1 x1.length c1) ∧ w'.cell? ⟨w7.heap.size, 0, none⟩ = some (.int .i64 L3) ∧ w'.cell? ⟨w7.heap.size, 1, none⟩ = some (.int .i64 S3) ∧ w'.cell? ⟨w7.heap.size, 2, none⟩ = some (.slice a3 x3.length c3))) := fun w' hb => ⟨(Kx.out.keep hb).c0, (Kx.out.keep hb).c1, (Kx.out.keep hb).c2, (Ky.out.keep hb).c0, (Ky.out.keep hb).c1, (Ky.out.keep hb).c2, (Kf.out.keep hb).c0, (Kf.out.keep hb).c1, (Kf.out.keep hb).c2, (Kg.out.keep hb).c0, (Kg.out.keep hb).c1, (Kg.out.keep hb).c2, (Kl.out.keep hb).c0, (Kl.out.keep hb).c1, (Kl.out.keep hb).c2, (Ke.out.keep hb).c0, (Ke.out.keep hb).c1, (Ke.out.keep hb).c2⟩
  have HEQ : Hid (eqL (stSums L3 S3 x3) (stSums L3 S3 x3) = true) := eqL_true rfl
  have HD : Hid (Below w12a.heap.size w12a w12a.drew) := below_drewN (Below.refl _ _) 1
  go_cut [173] (fun v wx => v = .bool false ∧ Below w12a.heap.size w12a wx)
  case first =>
    as_aux_lemma =>
      go_region_held3 (fun w' => w'.cell? ⟨w8.heap.size, 0, none⟩ = some (.int .i64 pL) ∧ w'.cell? ⟨w8.heap.size, 1, none⟩ = some (.int .i64 pS) ∧ w'.cell? ⟨w8.heap.size, 2, none⟩ = some (.slice a4 pX.length c4) ∧ w'.cell? ⟨w9.heap.size, 0, none⟩ = some (.int .i64 pL) ∧ w'.cell? ⟨w9.heap.size, 1, none⟩ = some (.int .i64 pS) ∧ w'.cell? ⟨w9.heap.size, 2, none⟩ = some (.slice a5 pX.length c5) ∧ w'.cell? ⟨w11.heap.size, 0, none⟩ = some (.int .i64 fL) ∧ w'.cell? ⟨w11.heap.size, 1, none⟩ = some (.int .i64 fS) ∧ w'.cell? ⟨w11.heap.size, 2, none⟩ = some (.slice a7 fX.length c7) ∧ w'.cell? ⟨w12.heap.size, 0, none⟩ = some (.int .i64 fL) ∧ w'.cell? ⟨w12.heap.size, 1, none⟩ = some (.int .i64 fS) ∧ w'.cell? ⟨w12.heap.size, 2, none⟩ = some (.slice a8 fX.length c8) ∧ w'.cell? ⟨w1.heap.size, 0, none⟩ = some (.int .i64 L1) ∧ w'.cell? ⟨w1.heap.size, 1, none⟩ = some (.int .i64 S1) ∧ w'.cell? ⟨w1.heap.size, 2, none⟩ = some (.slice a1 x1.length c1) ∧ w'.cell? ⟨w7.heap.size, 0, none⟩ = some (.int .i64 L3) ∧ w'.cell? ⟨w7.heap.size, 1, none⟩ = some (.int .i64 S3) ∧ w'.cell? ⟨w7.heap.size, 2, none⟩ = some (.slice a3 x3.length c3)) (first | exact HS.out _ bg.out | exact HS.out _ bf.out | exact HS.out _ be.out | exact HS.out _ bd.out | exact HS.out _ bc.out | exact HS.out _ bb.out | exact HS.out _ ba.out | exact HS.out _ HD.out | go_keep) (first
        | (go_at_call 20; refine (ofD (sameInts_any _ _ _ (stSums L3 S3 x3) _ _ _ (stSums L3 S3 x3) _ (HI6.out.keep hb7.out) HI7.out)).mono ?_; rw [HEQ.out]; rintro e ug ⟨rfl, hb⟩; have bg := Lib.hid (step2 bf.out hb); clear hb)
        | (go_at_call 22; refine (sStateSums_any _ _ _ _ _ x3 _ (Ae.out.keep be.out)).mono ?_; rintro e uf ⟨v7, rfl, hi7, hb⟩; have bf := Lib.hid (step2 be.out hb); have hb7 := Lib.hid hb; obtain ⟨a17, c17, rfl, hr17⟩ := hi7.form; have HI7 := Lib.hid hr17; clear hi7 hr17; clear hb)
        | (go_at_call 21; refine (iStateSums_any _ _ _ _ _ x3 _ (Ae.out.keep bd.out)).mono ?_; rintro e ue ⟨v6, rfl, hi6, hb⟩; have be := Lib.hid (step2 bd.out hb); obtain ⟨a16, c16, rfl, hr16⟩ := hi6.form; have HI6 := Lib.hid hr16; clear hi6 hr16; clear hb)
        | (go_at_call 19; refine (HSi.out _ (Al.out.keep bc.out)).mono ?_; rintro e ud ⟨rfl, hb⟩; have bd := Lib.hid (step2 bc.out hb); clear hb)
        | (go_at_call 18; refine (HIi.out _ (Al.out.keep bb.out)).mono ?_; rintro e uc ⟨rfl, hb⟩; have bc := Lib.hid (step2 bb.out hb); clear hb)
        | (go_at_call 17; refine (sameLabels_same fL fS _ _ _ _ _ _ fX _ (Af.out.keep ba.out) (Ag.out.keep ba.out)).mono ?_; rintro e ub ⟨rfl, hb⟩; have bb := Lib.hid (step2 ba.out hb); clear hb)
        | (go_at_call 17; refine (sameLabels_same pL pS _ _ _ _ _ _ pX _ (Ax.out.keep HD.out) (Ay.out.keep HD.out)).mono ?_; rintro e ua ⟨rfl, hb⟩; have ba := Lib.hid (step2 HD.out hb); clear hb))
      all_goals (go_wp2_with fail; go_meet; exact ⟨rfl, bg.out⟩)
  case rest =>
  obtain ⟨rfl, hbB⟩ := hcut
  have HW := Lib.hid (step2 HW.out hbB)
  have Kl := Lib.hid (Kl.out.keep hbB)
  have Al := Lib.hid (Al.out.keep hbB)
  have Ka := Lib.hid (Ka.out.keep hbB)
  have Aa := Lib.hid (Aa.out.keep hbB)
  have Ks := Lib.hid (Ks.out.keep hbB)
  have As := Lib.hid (As.out.keep hbB)
  have Ke := Lib.hid (Ke.out.keep hbB)
  have Ae := Lib.hid (Ae.out.keep hbB)
  have Kx := Lib.hid (Kx.out.keep hbB)
  have Ax := Lib.hid (Ax.out.keep hbB)
  have Kf := Lib.hid (Kf.out.keep hbB)
  have Af := Lib.hid (Af.out.keep hbB)
  generalize wc = wB at HW Kl Ka Ks Ke Kx Kf Al Aa As Ae Ax Af ⊢
  clear hbB HS HD HEQ Ky Kg Ay Ag t1 t2 t3 t4 t5 t6 t7 t8 HSe HIi HSi HSd HIp HSp HIs HSs
  go_upto_if 174 with fail
  go_cut [31, 32] (fun s31 s32 wx => Below wB.heap.size wB wx)
  case first =>
    as_aux_lemma =>
      cases ok1
      · go_wp2_with fail
        go_meet
        exact Below.refl _ _
      · obtain ⟨pn, qn, Sn, hR⟩ := enc_round HOK1.out
        have hws16 := (isWd_get hR.wd).1
        have e1 := hR.hp
        have e2 := hR.hS
        subst e1
        subst e2
        have HWD := Lib.hid hR.wd
        have HRD := Lib.hid hR.rd
        have HOK := Lib.hid hR.ok
        have HEQ := Lib.hid hR.eq
        have HQQ := Lib.hid hR.hq
        have hpS := hR.pS
        have hqS := hR.qS
        have hS12 := hR.S12
        have HLB := Lib.hid hR.lab
        clear hR
        rw [HWS1.out] at HWD HRD HOK HEQ hws16
        rw [HQ1.out] at HQQ
        obtain ⟨T1, hT1⟩ : ∃ T : Nat, 2 ^ pn = T := ⟨_, rfl⟩
        obtain ⟨T2, hT2⟩ : ∃ T : Nat, 2 ^ qn = T := ⟨_, rfl⟩
        have sh1 : wrap64 ((2 : Int) ^ pn) = (T1 : Int) := by rw [(shl_nat (show pn ≤ 12 by omega)).1, hT1]
        have sh2 : wrap64 ((2 : Int) ^ qn) = (T2 : Int) := by rw [(shl_nat (show qn ≤ 12 by omega)).1, hT2]
        have hTl : T1 < 2 ^ Sn := by rw [← hT1]; exact Nat.pow_lt_pow_right (by omega) hpS
        have HDc := iDecodeWord_any L1 Sn a1 x1.length c1 x1 pn ws1 wB Al.out (by omega)
        rw [HOK.out, HEQ.out] at HDc
        have HDc := Lib.hid HDc
        have HRF := fun W (q : Arcs W a1 x1.length x1) => sReadFrom_in L1 Sn a1 x1.length c1 x1 T1 ws1 W q HLB.out hTl HWD.out
        have HRD2 := HRD.out
        rw [hT1, hT2] at HRD2
        rw [HRD2] at HRF
        have HRF := Lib.hid HRF
        have hq2 := HQQ.out
        subst hq2
        have k0 := Kl.out.c0
        have k1 := Kl.out.c1
        have k2 := Kl.out.c2
        have tt1 : (s1.toList != s1.toList) = false := by simp
        have tt2 : ((T2 : Int) != (T2 : Int)) = false := by simp
        have hp12 : pn ≤ 12 := by omega
        have hq12 : qn ≤ 12 := by omega
        clear hT1 hT2 HRD2 HRD HOK HEQ HQQ hTl
        go_wp2_with fail
        refine HDc.out.mono ?_
        rintro e wx ⟨rfl, hbx⟩
        have q := Kl.out.keep hbx
        have HAx := Lib.hid (Al.out.keep hbx)
        have HBX := Lib.hid hbx
        have k0 := q.c0
        have k1 := q.c1
        have k2 := q.c2
        clear q hbx
        go_wp2_with fail
        refine (HRF.out _ HAx.out).mono ?_
        rintro e wy ⟨rfl, hby⟩
        have HBY := Lib.hid (step2 HBX.out hby)
        clear hby
        go_wp2_with fail
        go_meet
        exact HBY.out
  case rest =>
  have hbB := hcut
  have HW := Lib.hid (step2 HW.out hbB)
  have Ka := Lib.hid (Ka.out.keep hbB)
  have Aa := Lib.hid (Aa.out.keep hbB)
  have Ks := Lib.hid (Ks.out.keep hbB)
  have As := Lib.hid (As.out.keep hbB)
  have Ke := Lib.hid (Ke.out.keep hbB)
  have Ae := Lib.hid (Ae.out.keep hbB)
  have Kx := Lib.hid (Kx.out.keep hbB)
  have Ax := Lib.hid (Ax.out.keep hbB)
  have Kf := Lib.hid (Kf.out.keep hbB)
  have Af := Lib.hid (Af.out.keep hbB)
  generalize wc = wC at HW Ka Ks Ke Kx Kf Aa As Ae Ax Af ⊢
  clear hbB hcut Kl Al HOK1 HWS1 HQ1
  go_upto_if 201 with fail
  go_cut [33, 34, 35] (fun s33 s34 s35 wx => Below wC.heap.size wC wx)
  case first =>
    as_aux_lemma =>
      cases ok2
      · go_wp2_with fail
        go_meet
        exact Below.refl _ _
      · have hR := dec_round HOK2.out
        have hb16 : ws2.size ≤ 16 := by
          have h := hR.1
          rw [HWS2.out] at h
          simp only [encOk, Bool.and_eq_true] at h
          exact (isWd_get h.2.2).1
        have HEn := iEncodeBits_any L2 S2 a2 x2.length c2 x2 p2 ws2 wC Aa.out (by omega)
        have e1 := hR.1
        have e2 := hR.2
        rw [HWS2.out] at e1 e2
        rw [e1, e2] at HEn
        have HEn := Lib.hid HEn
        have k0 := Ka.out.c0
        have k1 := Ka.out.c1
        have k2 := Ka.out.c2
        have tt1 : (s2.toList != s2.toList) = false := by simp
        clear hR e1 e2
        go_wp2_with fail
        refine HEn.out.mono ?_
        rintro e wx ⟨rfl, hbx⟩
        have HBX := Lib.hid hbx
        clear hbx
        go_wp2_with fail
        go_meet
        exact HBX.out
  case rest =>
  have hbB := hcut
  have HW := Lib.hid (step2 HW.out hbB)
  have Ks := Lib.hid (Ks.out.keep hbB)
  have As := Lib.hid (As.out.keep hbB)
  have Ke := Lib.hid (Ke.out.keep hbB)
  have Ae := Lib.hid (Ae.out.keep hbB)
  have Kx := Lib.hid (Kx.out.keep hbB)
  have Ax := Lib.hid (Ax.out.keep hbB)
  have Kf := Lib.hid (Kf.out.keep hbB)
  have Af := Lib.hid (Af.out.keep hbB)
  generalize wc = wD at HW Ks Ke Kx Kf As Ae Ax Af ⊢
  clear hbB hcut Ka Aa HOK2 HWS2
  go_upto_if 217 with fail
  go_cut [36, 37] (fun s36 s37 wx => Below wD.heap.size wD wx)
  case first =>
    as_aux_lemma =>
      cases ok3
      · go_wp2_with fail
        go_meet
        exact Below.refl _ _
      · have HPP := Lib.hid (HPL.out rfl)
        have k0 := Kx.out.c0
        have k1 := Kx.out.c1
        have k2 := Kx.out.c2
        go_wp2_with fail
        clear k0 k1 k2
        refine (iStateSums_any _ _ _ _ _ pX _ Ax.out).mono ?_
        rintro e wx ⟨v36, rfl, ho36, hbx⟩
        obtain ⟨a36, c36, rfl, hi36⟩ := ho36.form
        have HI := Lib.hid hi36
        have HBX := Lib.hid hbx
        have KX := Lib.hid (Kx.out.keep hbx)
        have AX := Lib.hid (Ax.out.keep hbx)
        have HIE := fun W (q : Arcs W a4 pX.length pX) => iIsEncoder_any pL pS a4 pX.length c4 pX W q
        rw [HPP.out.1] at HIE
        have HIE := Lib.hid HIE
        have HTW := Lib.hid HPP.out.2
        generalize stSums pL pS pX = sums at hi36 HI HTW ⊢
        obtain ⟨m, hm⟩ : ∃ m, sums.length = m := ⟨_, rfl⟩
        have HM := Lib.hid hm
        have hmm := HI.out.2.1
        rw [hm] at HI hmm ⊢
        clear ho36 hbx hi36 hm HPP
        go_wp2_with fail
        go_loop [37] (fun y => ∃ k : Nat, k ≤ m ∧ y = .int .i64 k) (fun y => m - (intOf y).toNat)
        case atStart => exact ⟨0, Nat.zero_le _, rfl⟩
        case round =>
          obtain ⟨k, hk, rfl⟩ := hrel
          by_cases hlt : k < m
          · obtain ⟨b, o, y, rfl, hc, hy⟩ := HI.out.at_ hlt
            have hy2 := HTW.out k y hy.out
            subst hy2
            clear hy
            go_wp2_with fail
            go_round
            case rel => exact ⟨k + 1, hlt, by go_num⟩
            case measure => simp [intOf]; omega
          · have k0 := KX.out.c0
            have k1 := KX.out.c1
            have k2 := KX.out.c2
            go_wp2_with fail
            clear k0 k1 k2
            refine (HIE.out _ AX.out).mono ?_
            rintro e wy ⟨rfl, hby⟩
            have HBY := Lib.hid (step2 HBX.out hby)
            clear hby
            go_wp2_with fail
            go_meet
            exact HBY.out
  case rest =>
  have hbB := hcut
  have HW := Lib.hid (step2 HW.out hbB)
  have Ks := Lib.hid (Ks.out.keep hbB)
  have As := Lib.hid (As.out.keep hbB)
  have Kf := Lib.hid (Kf.out.keep hbB)
  have Af := Lib.hid (Af.out.keep hbB)
  generalize wc = wE at HW Ks Kf As Af ⊢
  clear hbB hcut Kx Ax Ke Ae HPL
  cases ok4
  · go_wp2_with fail
    go_ret
    exact ⟨rfl, HW.out⟩
  · obtain ⟨Sn, pn, e1, hS12, e2, e3, hsame⟩ := HSL.out rfl
    obtain ⟨S7, hS7⟩ : ∃ S7 : Nat, Sn + 1 = S7 := ⟨_, rfl⟩
    rw [hS7] at e3 hsame
    subst e1
    subst e2
    subst e3
    have tt : ((S7 : Int) == (Sn : Int) + 1) = true := beq_iff_eq.2 (by omega)
    have HSM := Lib.hid hsame
    have HLB := Lib.hid hsame.ly
    clear hsame HSL hS7
    have k0 := Kf.out.c0
    have k1 := Kf.out.c1
    have k2 := Kf.out.c2
    go_wp2_with fail
    clear k0 k1 k2
    refine (sIsLabels_any _ _ _ _ _ fX _ Af.out).mono ?_
    rw [HLB.out]
    rintro e wx ⟨rfl, hbx⟩
    have HBX := Lib.hid (step2 HW.out hbx)
    have KX := Lib.hid (Kf.out.keep hbx)
    have AX := Lib.hid (Af.out.keep hbx)
    have KY := Lib.hid (Ks.out.keep hbx)
    have AY := Lib.hid (As.out.keep hbx)
    have k0 := KX.out.c0
    have k1 := KX.out.c1
    have k2 := KX.out.c2
    have m0 := KY.out.c0
    have m1 := KY.out.c1
    have m2 := KY.out.c2
    clear hbx
    go_wp2_with fail
    clear k0 k1 k2 m0 m1 m2
    refine (sReadSame_in _ _ _ _ _ _ fX _ _ _ x6 _ _ AX.out AY.out HSM.out).mono ?_
    rintro e wy ⟨rfl, hby⟩
    have HBY := Lib.hid (step2 HBX.out hby)
    have q1 := (KX.out.keep hby).c1
    have q2 := (KY.out.keep hby).c1
    clear hby
    go_wp2_with fail
    go_ret
    exact ⟨rfl, HBY.out⟩

namespace fnEncoders
open Go.ChangeShapes Go.WideShapes Go.ChangeAt
open Go.ChangeMaps (open_string shut_string)
set_option maxRecDepth 100000 in
theorem lifted (os : Os) (started : os.Started) (H : Type) (enc : TypeId × Value → H) :
    ReturnsInHanded {} Try.checked os 3 .any (Rows.fnEncodersSpec.pre6 enc Try.prog Try.f3 Rows.fnEncodersRow.domain false) (Rows.fnEncodersSpec.post enc Try.prog Try.f3 false true false false) := by
  refine returnsInHanded_of_change (C := Try.checked) ownKnobNone started (by kernel_rfl) Try.func3
    (ChangeSpec.witness6 (enc := enc) (C := Try.checked) false ⟨#[], #[.slice none 0 0], []⟩ 8 (by kernel_rfl) (by kernel_rfl) (by kernel_rfl) (by kernel_rfl)) ?_
  intro W base args ds gs before hval0 hW hcnd _
  have hval : ∀ (j : Nat) t v, Try.f3.params[j]? = some t → args[j]? = some v → Value.okWide Try.prog W .any base t v := hval0
  have hW' := hW
  obtain ⟨p, q, hA0, hV, rfl, hfz, hnd⟩ := hW
  have hA : DataW.TrodAll enc Try.prog W 0 (fun _ => true) true Try.f3.params.toList args.toList ds p := hA0
  rw [Try.params3] at hA hval
  obtain ⟨v0, vs0, d0, ds0, p0, q0, hargs, rfl, rfl, h0, r0⟩ := trodAll_cons hA
  obtain ⟨rfl, rfl, rfl⟩ := trodAll_nil r0
  obtain rfl : args = #[v0] := by cases args; simp_all
  obtain ⟨rfl, rfl⟩ := trodVars_none hV
  obtain ⟨a0, len0, cap0, rfl⟩ := okWide_slice Try.underlying22 (hval 0 22 v0 rfl rfl)
  have k0 := h0
  have lt0 : ∀ x ∈ p0, x.block < W.heap.size := by obtain ⟨m, hm⟩ := k0; exact DataW.trod_lt m _ _ _ hm
  obtain ⟨z0, w0⟩ := open_bytesIn h0
  clear hA0 hval0
  refine (fnEncoders_walk a0 len0 cap0 z0 W w0).mono fun e W' ⟨he, bel⟩ => ?_
  subst he
  exact ⟨_, rfl, _, _, _, [], _, [], hW', trodAll_mk1 (shut_bool Try.underlying4 _), (trodAll_cons_mk (Below.trod laidOutYes (by kernel_rfl) (of_decide_eq_true (by kernel_rfl)) k0 bel lt0) trodAll_mk0), rfl, bel.frame _, fun h => by cases h⟩

theorem over : Rows.fnEncodersRow.holds Try.pinned (OpenSpec.ofChange Rows.fnEncodersSpec) :=
  OpenClaim.holds_of_wide 3 Try.f3 rfl rfl rfl rfl rfl rfl rfl ⟨rfl, rfl, rfl, rfl, rfl⟩ rfl rfl rfl rfl rfl (by kernel_rfl) Try.func3 (by kernel_rfl)
    (of_decide_eq_true (by kernel_rfl)) (by unfold Func.isWrapper; first | (rw [if_pos (by decide +kernel)]; kernel_rfl) | (rw [if_neg (by decide +kernel)]; exact ⟨rfl, rfl⟩))
    (fun os started H enc _ => lifted os started H enc)

theorem proved : Rows.FnEncodersSaid := over
end fnEncoders

#print axioms fnEncoders.proved
end Go.Proofs.Ytmkodbkbgpjgoaa
