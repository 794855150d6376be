/- Proved here: the law FnRunLengths returns true at every input, and leaves its argument as it was. No condition. -/
import Derived.Test.YtobmljclokmbcaaDoorRows
import Derived.Test.YtobmljclokmbcaaDoorTie
import Derived.Test.YtobmljclokmbcaaDoorCards
import Derived.Test.YtobmljclokmbcaaDoorProg
import Derived.Test.YtobmljclokmbcaaDoorRLG1
import Derived.Test.YtobmljclokmbcaaDoorRLD25
import Derived.Test.YtobmljclokmbcaaDoorRLG3
import Derived.Test.YtobmljclokmbcaaDoorRLSLabs
import Derived.Test.YtobmljclokmbcaaDoorRLSRunLab
import Derived.Test.YtobmljclokmbcaaDoorRLIRunLab
import Derived.Test.YtobmljclokmbcaaDoorRLG2
import Derived.Test.YtobmljclokmbcaaDoorRLICRuns
import Derived.Test.YtobmljclokmbcaaDoorRLSCRuns
import Derived.Test.YtobmljclokmbcaaDoorRLSRunW
import Derived.Test.YtobmljclokmbcaaDoorRLIRunW
namespace Go.Proofs.YtobmljclokmbcaaDoor
open Go.RowKit
set_option linter.all false
set_option maxHeartbeats 25600000 in
set_option maxRecDepth 100000 in
theorem fnRunLengths_walk (p0 : Option Addr) (n0 c0 : Nat) (z0 : List Int) (w : World) (h0 : BytesIn w p0 n0 z0) (hm : MaxL w) :
    Calls Tryd.prog 3 #[.slice p0 n0 c0] w fun e w' => e = .returned (.bool true) ∧ Below w.heap.size w w' := by
  by_cases hbig : 1048576 < n0
  · go_enter Tryd.func3, Tryd.ntmps3
    go_wp2_with (go_at_call 5; refine (lBig_yes _ _ _ _ hbig).mono ?_; rintro e w' ⟨rfl, rfl⟩)
    go_ret
    exact ⟨rfl, Below.refl _ _⟩
  have HY : Hid (Bytes w p0 n0) := ⟨by omega, h0.cells⟩
  clear h0
  go_enter Tryd.func3, Tryd.ntmps3
  go_wp2_with (go_at_call 5; refine (lBig_no _ _ _ _ (by omega)).mono ?_; rintro e w' ⟨rfl, rfl⟩)
  refine (drawRunWords_any _ _ _ _ HY.out).mono ?_
  rintro e w1 ⟨d, k, m, rfl, hb1⟩
  go_wp2_with fail
  refine (iRunWords_any d k m _ (hm.keep hb1)).mono ?_
  rintro e w2 ⟨v2, rfl, ho2, hb2⟩
  obtain ⟨a2, c2, rfl, hr2⟩ := ho2.form
  go_wp2_with fail
  refine (drawKeepsRuns_any _ _ _ _ (HY.out.keep (step2 hb1 hb2))).mono ?_
  rintro e w3 ⟨f, g, s, hs, rfl, hb3⟩
  go_wp2_with fail
  have hs1 : s.size ≤ 1048576 := by omega
  refine (iRunLabels_any d k _).mono ?_
  rintro e w4 ⟨v4, rfl, ho4, hb4⟩
  obtain ⟨a4, c4, rfl, hr4⟩ := ho4.form
  go_wp2_with fail
  have hb5 := below1 w4 (.cells #[.int .i64 (runL d k), .int .i64 (runS d k), .slice a4 (runX d k).length c4] 32)
  have kb4 := Blk.new w4 32 #[.int .i64 (runL d k), .int .i64 (runS d k), .slice a4 (runX d k).length c4]
  generalize w4.alloc (.cells #[.int .i64 (runL d k), .int .i64 (runS d k), .slice a4 (runX d k).length c4] 32) = w5 at hb5 kb4 ⊢
  refine (sRunLabels_any d k _).mono ?_
  rintro e w6 ⟨v6, rfl, ho6, hb6⟩
  obtain ⟨a6, c6, rfl, hr6⟩ := ho6.form
  go_wp2_with fail
  have hb7 := below1 w6 (.cells #[.int .i64 (runL d k), .int .i64 (runS d k), .slice a6 (runX d k).length c6] 32)
  have kb6 := Blk.new w6 32 #[.int .i64 (runL d k), .int .i64 (runS d k), .slice a6 (runX d k).length c6]
  generalize w6.alloc (.cells #[.int .i64 (runL d k), .int .i64 (runS d k), .slice a6 (runX d k).length c6] 32) = w7 at hb7 kb6 ⊢
  refine (drawCountRuns_any _ _ _ _ (HY.out.keep (step2 (step2 (step2 (step2 (step2 (step2 hb1 hb2) hb3) hb4) hb5) hb6) hb7))).mono ?_
  rintro e w8 ⟨g1, g2, g3, rfl, hb8⟩
  go_wp2_with fail
  refine (iRunMatrix_any d k _).mono ?_
  rintro e w9 ⟨v9, rfl, ho9, hb9⟩
  obtain ⟨a9, c9, rfl, hr9⟩ := ho9.form
  go_wp2_with fail
  refine (sRunMatrix_any d k _).mono ?_
  rintro e w10 ⟨v10, rfl, ho10, hb10⟩
  obtain ⟨a10, c10, rfl, hr10⟩ := ho10.form
  go_wp2_with fail
  refine (iSplitRuns_any f g s _ hs1 (hm.keep (step2 (step2 (step2 (step2 (step2 (step2 (step2 (step2 (step2 hb1 hb2) hb3) hb4) hb5) hb6) hb7) hb8) hb9) hb10))).mono ?_
  rintro e w11 ⟨v11, rfl, ho11, hb11⟩
  obtain ⟨a11, c11, rfl, hr11⟩ := ho11.form
  go_wp2_with fail
  refine (sRunWords_any d k m _).mono ?_
  rintro e w12 ⟨v12, rfl, ho12, hb12⟩
  obtain ⟨a12, c12, rfl, hr12⟩ := ho12.form
  go_wp2_with fail
  refine ((ofD (sameTexts_same _ _ _ _ _ _ _ _ (hr2.keep (step2 (step2 (step2 (step2 (step2 (step2 (step2 (step2 (step2 hb3 hb4) hb5) hb6) hb7) hb8) hb9) hb10) hb11) hb12)) hr12))).mono ?_
  rintro e w13 ⟨rfl, hb13⟩
  go_wp2_with fail
  have t1 : (keepsB f g s != keepsB f g s) = false := by simp
  have t2 : (fitsR d k != fitsR d k) = false := by simp
  have t3 : (countR g1 g2 g3 != countR g1 g2 g3) = false := by simp
  have t4 : (runMO d k != runMO d k) = false := by simp
  have t5 : (runBound d k != runBound d k) = false := by simp
  have t6 := eqL_self (runMV d k)
  have t7 := eqL_self (splitR f g s)
  refine (iKeepsRuns_any f g s _ hs1 (hm.keep (step2 (step2 (step2 (step2 (step2 (step2 (step2 (step2 (step2 (step2 (step2 (step2 hb1 hb2) hb3) hb4) hb5) hb6) hb7) hb8) hb9) hb10) hb11) hb12) hb13))).mono ?_
  rintro e w14 ⟨rfl, hb14⟩
  go_wp2_with fail
  refine (sKeepsRuns_any f g s _ hs1).mono ?_
  rintro e w15 ⟨rfl, hb15⟩
  have K4 := (kb4.keep (step2 (step2 (step2 (step2 (step2 (step2 (step2 (step2 (step2 hb6 hb7) hb8) hb9) hb10) hb11) hb12) hb13) hb14) hb15))
  have K6 := (kb6.keep (step2 (step2 (step2 (step2 (step2 (step2 (step2 hb8 hb9) hb10) hb11) hb12) hb13) hb14) hb15))
  have k40 := K4.c0
  have k41 := K4.c1
  have k42 := K4.c2
  have k60 := K6.c0
  have k61 := K6.c1
  have k62 := K6.c2
  go_wp2_with fail
  clear k40 k41 k42 k60 k61 k62
  refine (sameLabels_same (runL d k) (runS d k) _ _ _ _ _ _ _ _ (hr4.keep (step2 (step2 (step2 (step2 (step2 (step2 (step2 (step2 (step2 (step2 hb5 hb6) hb7) hb8) hb9) hb10) hb11) hb12) hb13) hb14) hb15)) (hr6.keep (step2 (step2 (step2 (step2 (step2 (step2 (step2 (step2 hb7 hb8) hb9) hb10) hb11) hb12) hb13) hb14) hb15))).mono ?_
  rintro e w16 ⟨rfl, hb16⟩
  go_wp2_with fail
  refine (iCountRuns_any g1 g2 g3 _).mono ?_
  rintro e w17 ⟨rfl, hb17⟩
  go_wp2_with fail
  refine (sCountRuns_any g1 g2 g3 _).mono ?_
  rintro e w18 ⟨rfl, hb18⟩
  go_wp2_with fail
  refine ((ofD (sameLists_any _ _ _ (runMV d k) _ _ _ (runMV d k) _ (hr9.keep (step2 (step2 (step2 (step2 (step2 (step2 (step2 (step2 hb10 hb11) hb12) hb13) hb14) hb15) hb16) hb17) hb18)) (hr10.keep (step2 (step2 (step2 (step2 (step2 (step2 (step2 hb11 hb12) hb13) hb14) hb15) hb16) hb17) hb18))))).mono ?_
  rintro e w19 ⟨rfl, hb19⟩
  go_wp2_with fail
  refine (iRunBound_any d k _).mono ?_
  rintro e w20 ⟨rfl, hb20⟩
  go_wp2_with fail
  refine (sRunBound_any d k _).mono ?_
  rintro e w21 ⟨rfl, hb21⟩
  go_wp2_with fail
  refine (sSplitRuns_any f g s _ hs1).mono ?_
  rintro e w22 ⟨v20, rfl, ho20, hb22⟩
  obtain ⟨a20, c20, rfl, hr20⟩ := ho20.form
  go_wp2_with fail
  refine (ofD (sameInts_any _ _ _ (splitR f g s) _ _ _ (splitR f g s) _ (hr11.keep (step2 (step2 (step2 (step2 (step2 (step2 (step2 (step2 (step2 (step2 hb12 hb13) hb14) hb15) hb16) hb17) hb18) hb19) hb20) hb21) hb22)) hr20)).mono ?_
  rintro e w23 ⟨rfl, hb23⟩
  have hsf := splitR_facts (d := f) (k := g) hs
  have hsf : keepsB f g s = decide ((0 : Int) < ((splitR f g s).length : Int)) ∧ _ := ⟨by rw [hsf.1]; simp, hsf.2⟩
  cases hf : fitsR d k
  · go_wp2_with fail
    refine (iKeepsRuns_any f g s _ hs1 (hm.keep (step2 (step2 (step2 (step2 (step2 (step2 (step2 (step2 (step2 (step2 (step2 (step2 (step2 (step2 (step2 (step2 (step2 (step2 (step2 (step2 (step2 (step2 hb1 hb2) hb3) hb4) hb5) hb6) hb7) hb8) hb9) hb10) hb11) hb12) hb13) hb14) hb15) hb16) hb17) hb18) hb19) hb20) hb21) hb22) hb23))).mono ?_
    rintro e w24 ⟨rfl, hb24⟩
    rw [hsf.1]
    have t8 : (decide ((0 : Int) < ((splitR f g s).length : Int)) != decide ((0 : Int) < ((splitR f g s).length : Int))) = false := by simp
    go_wp2_with fail
    go_loop [22, 23] (fun b x => ∃ i c : Nat, i ≤ s.size ∧ c ≤ i ∧ b = .int .i64 c ∧ x = .int .i64 i ∧ Hid (c + nbR s i (s.size - i) = nbR s 0 s.size)) (fun _ x => s.size - (intOf x).toNat)
    case atStart => exact ⟨0, 0, Nat.zero_le _, Nat.le_refl _, rfl, rfl, by show _ = _; simp⟩
    case round =>
      obtain ⟨i, c, hi, hci, rfl, rfl, hr⟩ := hrel
      by_cases hlt : i < s.size
      · have HST := Lib.hid (nb_step hlt hr.out)
        obtain ⟨x, hx⟩ : ∃ x : Nat, s[i].toNat = x := ⟨_, rfl⟩
        have hxb : bl s i = x := (bl_get hlt).trans hx
        by_cases hx98 : x = 98
        · have hd : ((x : Int) == 98) = true := by simp; omega
          have HN := Lib.hid (HST.out.1 (by omega))
          clear hr HST hxb hx98
          go_wp2_with fail
          go_round
          case rel => exact ⟨i + 1, c + 1, hlt, by omega, by go_num, by go_num, HN.out⟩
          case measure => simp [intOf]; omega
        · have hd : ((x : Int) == 98) = false := by simp; omega
          have HN := Lib.hid (HST.out.2 (by omega))
          clear hr HST hxb hx98
          go_wp2_with fail
          go_round
          case rel => exact ⟨i + 1, c, hlt, by omega, by go_num, by go_num, HN.out⟩
          case measure => simp [intOf]; omega
      · have hc : c = nbR s 0 s.size := by
          have := hr.out
          rw [show s.size - i = 0 by omega] at this
          simpa [nbR] using this
        clear hr
        rcases hsf.2 with h | ⟨h, h2⟩
        · have y1 : (((splitR f g s).length : Int) == 0) = true := by simp [h]
          clear h hc
          go_wp2_with fail
          go_ret
          exact ⟨rfl, (step2 (step2 (step2 (step2 (step2 (step2 (step2 (step2 (step2 (step2 (step2 (step2 (step2 (step2 (step2 (step2 (step2 (step2 (step2 (step2 (step2 (step2 (step2 hb1 hb2) hb3) hb4) hb5) hb6) hb7) hb8) hb9) hb10) hb11) hb12) hb13) hb14) hb15) hb16) hb17) hb18) hb19) hb20) hb21) hb22) hb23) hb24)⟩
        · have y1 : (((splitR f g s).length : Int) == 0) = false := beq_eq_false_iff_ne.2 (by omega)
          have y2 : (((splitR f g s).length : Int) == (c : Int) + 1) = true := beq_iff_eq.2 (by omega)
          have y3 : (isum 0 (splitR f g s) == (s.size : Int) - (c : Int)) = true := by rw [h2, hc]; simp
          clear h h2 hc
          go_wp2_with fail
          refine (lTotal_any _ _ _ (splitR f g s) _ (hr11.keep (step2 (step2 (step2 (step2 (step2 (step2 (step2 (step2 (step2 (step2 (step2 (step2 hb12 hb13) hb14) hb15) hb16) hb17) hb18) hb19) hb20) hb21) hb22) hb23) hb24))).mono ?_
          rintro e w' ⟨rfl, rfl⟩
          go_wp2_with fail
          go_ret
          exact ⟨rfl, (step2 (step2 (step2 (step2 (step2 (step2 (step2 (step2 (step2 (step2 (step2 (step2 (step2 (step2 (step2 (step2 (step2 (step2 (step2 (step2 (step2 (step2 (step2 hb1 hb2) hb3) hb4) hb5) hb6) hb7) hb8) hb9) hb10) hb11) hb12) hb13) hb14) hb15) hb16) hb17) hb18) hb19) hb20) hb21) hb22) hb23) hb24)⟩
  · by_cases m0 : m < 0
    · have d0 : decide ((0 : Int) ≤ m) = false := decide_eq_false (by omega)
      go_wp2_with fail
      refine (iKeepsRuns_any f g s _ hs1 (hm.keep (step2 (step2 (step2 (step2 (step2 (step2 (step2 (step2 (step2 (step2 (step2 (step2 (step2 (step2 (step2 (step2 (step2 (step2 (step2 (step2 (step2 (step2 hb1 hb2) hb3) hb4) hb5) hb6) hb7) hb8) hb9) hb10) hb11) hb12) hb13) hb14) hb15) hb16) hb17) hb18) hb19) hb20) hb21) hb22) hb23))).mono ?_
      rintro e w24 ⟨rfl, hb24⟩
      rw [hsf.1]
      have t8 : (decide ((0 : Int) < ((splitR f g s).length : Int)) != decide ((0 : Int) < ((splitR f g s).length : Int))) = false := by simp
      go_wp2_with fail
      go_loop [22, 23] (fun b x => ∃ i c : Nat, i ≤ s.size ∧ c ≤ i ∧ b = .int .i64 c ∧ x = .int .i64 i ∧ Hid (c + nbR s i (s.size - i) = nbR s 0 s.size)) (fun _ x => s.size - (intOf x).toNat)
      case atStart => exact ⟨0, 0, Nat.zero_le _, Nat.le_refl _, rfl, rfl, by show _ = _; simp⟩
      case round =>
        obtain ⟨i, c, hi, hci, rfl, rfl, hr⟩ := hrel
        by_cases hlt : i < s.size
        · have HST := Lib.hid (nb_step hlt hr.out)
          obtain ⟨x, hx⟩ : ∃ x : Nat, s[i].toNat = x := ⟨_, rfl⟩
          have hxb : bl s i = x := (bl_get hlt).trans hx
          by_cases hx98 : x = 98
          · have hd : ((x : Int) == 98) = true := by simp; omega
            have HN := Lib.hid (HST.out.1 (by omega))
            clear hr HST hxb hx98
            go_wp2_with fail
            go_round
            case rel => exact ⟨i + 1, c + 1, hlt, by omega, by go_num, by go_num, HN.out⟩
            case measure => simp [intOf]; omega
          · have hd : ((x : Int) == 98) = false := by simp; omega
            have HN := Lib.hid (HST.out.2 (by omega))
            clear hr HST hxb hx98
            go_wp2_with fail
            go_round
            case rel => exact ⟨i + 1, c, hlt, by omega, by go_num, by go_num, HN.out⟩
            case measure => simp [intOf]; omega
        · have hc : c = nbR s 0 s.size := by
            have := hr.out
            rw [show s.size - i = 0 by omega] at this
            simpa [nbR] using this
          clear hr
          rcases hsf.2 with h | ⟨h, h2⟩
          · have y1 : (((splitR f g s).length : Int) == 0) = true := by simp [h]
            clear h hc
            go_wp2_with fail
            go_ret
            exact ⟨rfl, (step2 (step2 (step2 (step2 (step2 (step2 (step2 (step2 (step2 (step2 (step2 (step2 (step2 (step2 (step2 (step2 (step2 (step2 (step2 (step2 (step2 (step2 (step2 hb1 hb2) hb3) hb4) hb5) hb6) hb7) hb8) hb9) hb10) hb11) hb12) hb13) hb14) hb15) hb16) hb17) hb18) hb19) hb20) hb21) hb22) hb23) hb24)⟩
          · have y1 : (((splitR f g s).length : Int) == 0) = false := beq_eq_false_iff_ne.2 (by omega)
            have y2 : (((splitR f g s).length : Int) == (c : Int) + 1) = true := beq_iff_eq.2 (by omega)
            have y3 : (isum 0 (splitR f g s) == (s.size : Int) - (c : Int)) = true := by rw [h2, hc]; simp
            clear h h2 hc
            go_wp2_with fail
            refine (lTotal_any _ _ _ (splitR f g s) _ (hr11.keep (step2 (step2 (step2 (step2 (step2 (step2 (step2 (step2 (step2 (step2 (step2 (step2 hb12 hb13) hb14) hb15) hb16) hb17) hb18) hb19) hb20) hb21) hb22) hb23) hb24))).mono ?_
            rintro e w' ⟨rfl, rfl⟩
            go_wp2_with fail
            go_ret
            exact ⟨rfl, (step2 (step2 (step2 (step2 (step2 (step2 (step2 (step2 (step2 (step2 (step2 (step2 (step2 (step2 (step2 (step2 (step2 (step2 (step2 (step2 (step2 (step2 (step2 hb1 hb2) hb3) hb4) hb5) hb6) hb7) hb8) hb9) hb10) hb11) hb12) hb13) hb14) hb15) hb16) hb17) hb18) hb19) hb20) hb21) hb22) hb23) hb24)⟩
    have d0 : decide ((0 : Int) ≤ m) = true := decide_eq_true (by omega)
    by_cases m8 : 8 < m
    · have d1 : decide (m ≤ 6) = false := decide_eq_false (by omega)
      have d2 : decide (m ≤ 8) = false := decide_eq_false (by omega)
      go_wp2_with fail
      refine (iKeepsRuns_any f g s _ hs1 (hm.keep (step2 (step2 (step2 (step2 (step2 (step2 (step2 (step2 (step2 (step2 (step2 (step2 (step2 (step2 (step2 (step2 (step2 (step2 (step2 (step2 (step2 (step2 hb1 hb2) hb3) hb4) hb5) hb6) hb7) hb8) hb9) hb10) hb11) hb12) hb13) hb14) hb15) hb16) hb17) hb18) hb19) hb20) hb21) hb22) hb23))).mono ?_
      rintro e w24 ⟨rfl, hb24⟩
      rw [hsf.1]
      have t8 : (decide ((0 : Int) < ((splitR f g s).length : Int)) != decide ((0 : Int) < ((splitR f g s).length : Int))) = false := by simp
      go_wp2_with fail
      go_loop [22, 23] (fun b x => ∃ i c : Nat, i ≤ s.size ∧ c ≤ i ∧ b = .int .i64 c ∧ x = .int .i64 i ∧ Hid (c + nbR s i (s.size - i) = nbR s 0 s.size)) (fun _ x => s.size - (intOf x).toNat)
      case atStart => exact ⟨0, 0, Nat.zero_le _, Nat.le_refl _, rfl, rfl, by show _ = _; simp⟩
      case round =>
        obtain ⟨i, c, hi, hci, rfl, rfl, hr⟩ := hrel
        by_cases hlt : i < s.size
        · have HST := Lib.hid (nb_step hlt hr.out)
          obtain ⟨x, hx⟩ : ∃ x : Nat, s[i].toNat = x := ⟨_, rfl⟩
          have hxb : bl s i = x := (bl_get hlt).trans hx
          by_cases hx98 : x = 98
          · have hd : ((x : Int) == 98) = true := by simp; omega
            have HN := Lib.hid (HST.out.1 (by omega))
            clear hr HST hxb hx98
            go_wp2_with fail
            go_round
            case rel => exact ⟨i + 1, c + 1, hlt, by omega, by go_num, by go_num, HN.out⟩
            case measure => simp [intOf]; omega
          · have hd : ((x : Int) == 98) = false := by simp; omega
            have HN := Lib.hid (HST.out.2 (by omega))
            clear hr HST hxb hx98
            go_wp2_with fail
            go_round
            case rel => exact ⟨i + 1, c, hlt, by omega, by go_num, by go_num, HN.out⟩
            case measure => simp [intOf]; omega
        · have hc : c = nbR s 0 s.size := by
            have := hr.out
            rw [show s.size - i = 0 by omega] at this
            simpa [nbR] using this
          clear hr
          rcases hsf.2 with h | ⟨h, h2⟩
          · have y1 : (((splitR f g s).length : Int) == 0) = true := by simp [h]
            clear h hc
            go_wp2_with fail
            go_ret
            exact ⟨rfl, (step2 (step2 (step2 (step2 (step2 (step2 (step2 (step2 (step2 (step2 (step2 (step2 (step2 (step2 (step2 (step2 (step2 (step2 (step2 (step2 (step2 (step2 (step2 hb1 hb2) hb3) hb4) hb5) hb6) hb7) hb8) hb9) hb10) hb11) hb12) hb13) hb14) hb15) hb16) hb17) hb18) hb19) hb20) hb21) hb22) hb23) hb24)⟩
          · have y1 : (((splitR f g s).length : Int) == 0) = false := beq_eq_false_iff_ne.2 (by omega)
            have y2 : (((splitR f g s).length : Int) == (c : Int) + 1) = true := beq_iff_eq.2 (by omega)
            have y3 : (isum 0 (splitR f g s) == (s.size : Int) - (c : Int)) = true := by rw [h2, hc]; simp
            clear h h2 hc
            go_wp2_with fail
            refine (lTotal_any _ _ _ (splitR f g s) _ (hr11.keep (step2 (step2 (step2 (step2 (step2 (step2 (step2 (step2 (step2 (step2 (step2 (step2 hb12 hb13) hb14) hb15) hb16) hb17) hb18) hb19) hb20) hb21) hb22) hb23) hb24))).mono ?_
            rintro e w' ⟨rfl, rfl⟩
            go_wp2_with fail
            go_ret
            exact ⟨rfl, (step2 (step2 (step2 (step2 (step2 (step2 (step2 (step2 (step2 (step2 (step2 (step2 (step2 (step2 (step2 (step2 (step2 (step2 (step2 (step2 (step2 (step2 (step2 hb1 hb2) hb3) hb4) hb5) hb6) hb7) hb8) hb9) hb10) hb11) hb12) hb13) hb14) hb15) hb16) hb17) hb18) hb19) hb20) hb21) hb22) hb23) hb24)⟩
    have d2 : decide (m ≤ 8) = true := decide_eq_true (by omega)
    have hcount := runs_counted (n := m) hf (inR_mk ⟨by omega, by omega⟩)
    have y0 : (((runWV d k m).length : Int) != countR d k m) = false := by rw [hcount]; simp
    clear hcount
    by_cases m6 : 6 < m
    · have d1 : decide (m ≤ 6) = false := decide_eq_false (by omega)
      go_wp2_with fail
      refine (iCountRuns_any d k m _).mono ?_
      rintro e w24 ⟨rfl, hb24⟩
      go_wp2_with fail
      refine (iKeepsRuns_any f g s _ hs1 (hm.keep (step2 (step2 (step2 (step2 (step2 (step2 (step2 (step2 (step2 (step2 (step2 (step2 (step2 (step2 (step2 (step2 (step2 (step2 (step2 (step2 (step2 (step2 (step2 hb1 hb2) hb3) hb4) hb5) hb6) hb7) hb8) hb9) hb10) hb11) hb12) hb13) hb14) hb15) hb16) hb17) hb18) hb19) hb20) hb21) hb22) hb23) hb24))).mono ?_
      rintro e w25 ⟨rfl, hb25⟩
      rw [hsf.1]
      have t8 : (decide ((0 : Int) < ((splitR f g s).length : Int)) != decide ((0 : Int) < ((splitR f g s).length : Int))) = false := by simp
      go_wp2_with fail
      go_loop [22, 23] (fun b x => ∃ i c : Nat, i ≤ s.size ∧ c ≤ i ∧ b = .int .i64 c ∧ x = .int .i64 i ∧ Hid (c + nbR s i (s.size - i) = nbR s 0 s.size)) (fun _ x => s.size - (intOf x).toNat)
      case atStart => exact ⟨0, 0, Nat.zero_le _, Nat.le_refl _, rfl, rfl, by show _ = _; simp⟩
      case round =>
        obtain ⟨i, c, hi, hci, rfl, rfl, hr⟩ := hrel
        by_cases hlt : i < s.size
        · have HST := Lib.hid (nb_step hlt hr.out)
          obtain ⟨x, hx⟩ : ∃ x : Nat, s[i].toNat = x := ⟨_, rfl⟩
          have hxb : bl s i = x := (bl_get hlt).trans hx
          by_cases hx98 : x = 98
          · have hd : ((x : Int) == 98) = true := by simp; omega
            have HN := Lib.hid (HST.out.1 (by omega))
            clear hr HST hxb hx98
            go_wp2_with fail
            go_round
            case rel => exact ⟨i + 1, c + 1, hlt, by omega, by go_num, by go_num, HN.out⟩
            case measure => simp [intOf]; omega
          · have hd : ((x : Int) == 98) = false := by simp; omega
            have HN := Lib.hid (HST.out.2 (by omega))
            clear hr HST hxb hx98
            go_wp2_with fail
            go_round
            case rel => exact ⟨i + 1, c, hlt, by omega, by go_num, by go_num, HN.out⟩
            case measure => simp [intOf]; omega
        · have hc : c = nbR s 0 s.size := by
            have := hr.out
            rw [show s.size - i = 0 by omega] at this
            simpa [nbR] using this
          clear hr
          rcases hsf.2 with h | ⟨h, h2⟩
          · have y1 : (((splitR f g s).length : Int) == 0) = true := by simp [h]
            clear h hc
            go_wp2_with fail
            go_ret
            exact ⟨rfl, (step2 (step2 (step2 (step2 (step2 (step2 (step2 (step2 (step2 (step2 (step2 (step2 (step2 (step2 (step2 (step2 (step2 (step2 (step2 (step2 (step2 (step2 (step2 (step2 hb1 hb2) hb3) hb4) hb5) hb6) hb7) hb8) hb9) hb10) hb11) hb12) hb13) hb14) hb15) hb16) hb17) hb18) hb19) hb20) hb21) hb22) hb23) hb24) hb25)⟩
          · have y1 : (((splitR f g s).length : Int) == 0) = false := beq_eq_false_iff_ne.2 (by omega)
            have y2 : (((splitR f g s).length : Int) == (c : Int) + 1) = true := beq_iff_eq.2 (by omega)
            have y3 : (isum 0 (splitR f g s) == (s.size : Int) - (c : Int)) = true := by rw [h2, hc]; simp
            clear h h2 hc
            go_wp2_with fail
            refine (lTotal_any _ _ _ (splitR f g s) _ (hr11.keep (step2 (step2 (step2 (step2 (step2 (step2 (step2 (step2 (step2 (step2 (step2 (step2 (step2 hb12 hb13) hb14) hb15) hb16) hb17) hb18) hb19) hb20) hb21) hb22) hb23) hb24) hb25))).mono ?_
            rintro e w' ⟨rfl, rfl⟩
            go_wp2_with fail
            go_ret
            exact ⟨rfl, (step2 (step2 (step2 (step2 (step2 (step2 (step2 (step2 (step2 (step2 (step2 (step2 (step2 (step2 (step2 (step2 (step2 (step2 (step2 (step2 (step2 (step2 (step2 (step2 hb1 hb2) hb3) hb4) hb5) hb6) hb7) hb8) hb9) hb10) hb11) hb12) hb13) hb14) hb15) hb16) hb17) hb18) hb19) hb20) hb21) hb22) hb23) hb24) hb25)⟩
    · have d1 : decide (m ≤ 6) = true := decide_eq_true (by omega)
      have hrr := reads_runs (n := m) hf (inR_mk ⟨by omega, by omega⟩)
      have K4 := (kb4.keep (step2 (step2 (step2 (step2 (step2 (step2 (step2 (step2 (step2 (step2 (step2 (step2 (step2 (step2 (step2 (step2 (step2 hb6 hb7) hb8) hb9) hb10) hb11) hb12) hb13) hb14) hb15) hb16) hb17) hb18) hb19) hb20) hb21) hb22) hb23))
      have k40 := K4.c0
      have k41 := K4.c1
      have k42 := K4.c2
      go_wp2_with fail
      clear k40 k41 k42
      refine (readWords_any _ _ _ _ _ (runX d k) m _ (hr4.keep (step2 (step2 (step2 (step2 (step2 (step2 (step2 (step2 (step2 (step2 (step2 (step2 (step2 (step2 (step2 (step2 (step2 (step2 hb5 hb6) hb7) hb8) hb9) hb10) hb11) hb12) hb13) hb14) hb15) hb16) hb17) hb18) hb19) hb20) hb21) hb22) hb23))).mono ?_
      rintro e w24 ⟨v22, rfl, ho22, hb24⟩
      rw [hrr] at ho22
      obtain ⟨a22, c22, rfl, hr22⟩ := ho22.form
      go_wp2_with fail
      refine ((ofD (sameTexts_same _ _ _ _ _ _ _ _ (hr2.keep (step2 (step2 (step2 (step2 (step2 (step2 (step2 (step2 (step2 (step2 (step2 (step2 (step2 (step2 (step2 (step2 (step2 (step2 (step2 (step2 (step2 hb3 hb4) hb5) hb6) hb7) hb8) hb9) hb10) hb11) hb12) hb13) hb14) hb15) hb16) hb17) hb18) hb19) hb20) hb21) hb22) hb23) hb24)) hr22))).mono ?_
      rintro e w25 ⟨rfl, hb25⟩
      go_wp2_with fail
      refine (iCountRuns_any d k m _).mono ?_
      rintro e w26 ⟨rfl, hb26⟩
      go_wp2_with fail
      refine (iKeepsRuns_any f g s _ hs1 (hm.keep (step2 (step2 (step2 (step2 (step2 (step2 (step2 (step2 (step2 (step2 (step2 (step2 (step2 (step2 (step2 (step2 (step2 (step2 (step2 (step2 (step2 (step2 (step2 (step2 (step2 hb1 hb2) hb3) hb4) hb5) hb6) hb7) hb8) hb9) hb10) hb11) hb12) hb13) hb14) hb15) hb16) hb17) hb18) hb19) hb20) hb21) hb22) hb23) hb24) hb25) hb26))).mono ?_
      rintro e w27 ⟨rfl, hb27⟩
      rw [hsf.1]
      have t8 : (decide ((0 : Int) < ((splitR f g s).length : Int)) != decide ((0 : Int) < ((splitR f g s).length : Int))) = false := by simp
      go_wp2_with fail
      go_loop [22, 23] (fun b x => ∃ i c : Nat, i ≤ s.size ∧ c ≤ i ∧ b = .int .i64 c ∧ x = .int .i64 i ∧ Hid (c + nbR s i (s.size - i) = nbR s 0 s.size)) (fun _ x => s.size - (intOf x).toNat)
      case atStart => exact ⟨0, 0, Nat.zero_le _, Nat.le_refl _, rfl, rfl, by show _ = _; simp⟩
      case round =>
        obtain ⟨i, c, hi, hci, rfl, rfl, hr⟩ := hrel
        by_cases hlt : i < s.size
        · have HST := Lib.hid (nb_step hlt hr.out)
          obtain ⟨x, hx⟩ : ∃ x : Nat, s[i].toNat = x := ⟨_, rfl⟩
          have hxb : bl s i = x := (bl_get hlt).trans hx
          by_cases hx98 : x = 98
          · have hd : ((x : Int) == 98) = true := by simp; omega
            have HN := Lib.hid (HST.out.1 (by omega))
            clear hr HST hxb hx98
            go_wp2_with fail
            go_round
            case rel => exact ⟨i + 1, c + 1, hlt, by omega, by go_num, by go_num, HN.out⟩
            case measure => simp [intOf]; omega
          · have hd : ((x : Int) == 98) = false := by simp; omega
            have HN := Lib.hid (HST.out.2 (by omega))
            clear hr HST hxb hx98
            go_wp2_with fail
            go_round
            case rel => exact ⟨i + 1, c, hlt, by omega, by go_num, by go_num, HN.out⟩
            case measure => simp [intOf]; omega
        · have hc : c = nbR s 0 s.size := by
            have := hr.out
            rw [show s.size - i = 0 by omega] at this
            simpa [nbR] using this
          clear hr
          rcases hsf.2 with h | ⟨h, h2⟩
          · have y1 : (((splitR f g s).length : Int) == 0) = true := by simp [h]
            clear h hc
            go_wp2_with fail
            go_ret
            exact ⟨rfl, (step2 (step2 (step2 (step2 (step2 (step2 (step2 (step2 (step2 (step2 (step2 (step2 (step2 (step2 (step2 (step2 (step2 (step2 (step2 (step2 (step2 (step2 (step2 (step2 (step2 (step2 hb1 hb2) hb3) hb4) hb5) hb6) hb7) hb8) hb9) hb10) hb11) hb12) hb13) hb14) hb15) hb16) hb17) hb18) hb19) hb20) hb21) hb22) hb23) hb24) hb25) hb26) hb27)⟩
          · have y1 : (((splitR f g s).length : Int) == 0) = false := beq_eq_false_iff_ne.2 (by omega)
            have y2 : (((splitR f g s).length : Int) == (c : Int) + 1) = true := beq_iff_eq.2 (by omega)
            have y3 : (isum 0 (splitR f g s) == (s.size : Int) - (c : Int)) = true := by rw [h2, hc]; simp
            clear h h2 hc
            go_wp2_with fail
            refine (lTotal_any _ _ _ (splitR f g s) _ (hr11.keep (step2 (step2 (step2 (step2 (step2 (step2 (step2 (step2 (step2 (step2 (step2 (step2 (step2 (step2 (step2 hb12 hb13) hb14) hb15) hb16) hb17) hb18) hb19) hb20) hb21) hb22) hb23) hb24) hb25) hb26) hb27))).mono ?_
            rintro e w' ⟨rfl, rfl⟩
            go_wp2_with fail
            go_ret
            exact ⟨rfl, (step2 (step2 (step2 (step2 (step2 (step2 (step2 (step2 (step2 (step2 (step2 (step2 (step2 (step2 (step2 (step2 (step2 (step2 (step2 (step2 (step2 (step2 (step2 (step2 (step2 (step2 hb1 hb2) hb3) hb4) hb5) hb6) hb7) hb8) hb9) hb10) hb11) hb12) hb13) hb14) hb15) hb16) hb17) hb18) hb19) hb20) hb21) hb22) hb23) hb24) hb25) hb26) hb27)⟩

namespace fnRunLengths
open Go.ChangeShapes Go.WideShapes Go.ChangeAt
open Go.ChangeMaps (open_string shut_string)
set_option maxRecDepth 100000 in
theorem lifted (os : Os) (started : os.Started) (H : Type) (enc : TypeId × Value → H) :
    ReturnsInHanded {} Tryd.checked os 3 .any (fun w args => (Rows.fnRunLengthsSpec.pre enc Tryd.prog Tryd.f3 [] false w args ∧ laidMetH Tryd.prog Rows.fnRunLengthsRow.laid w) ∧ sizedMet enc Tryd.prog Tryd.f3 (OpenSpec.ofChange Rows.fnRunLengthsSpec) false w args) (Rows.fnRunLengthsSpec.post enc Tryd.prog Tryd.f3 false true false false) := by
  refine returnsInHanded_door (C := Tryd.checked) (X := fun w _ => laidMetH Tryd.prog Rows.fnRunLengthsRow.laid w) (fun _ _ _ hh h => h.of_heap hh) ownKnobNone started (by kernel_rfl) Tryd.func3
    (ChangeSpec.witness_shaped (enc := enc) (C := Tryd.checked) (os := os) (X := fun w _ => laidMetH Tryd.prog Rows.fnRunLengthsRow.laid w) false (World.laidAll Tryd.prog os Rows.fnRunLengthsRow.laid) #[.slice none 0 0] 8 (World.laidAll_os _ _ _) (World.shaped_of_ZipB (by kernel_rfl) (by kernel_rfl)) (by kernel_rfl) (by kernel_rfl) (by kernel_rfl)
      (by rw [MakeChecks.laidMetH_plain _ _ _ (by kernel_rfl)]; exact laidMet_laidAll _ (by kernel_rfl) (by kernel_rfl))) ?_
  intro W base args ds gs before hval0 hW hL hsh
  have hval : ∀ (j : Nat) t v, Tryd.f3.params[j]? = some t → args[j]? = some v → Value.okWide Tryd.prog W .any base t v := hval0
  have hW' := hW
  obtain ⟨p, q, hA0, hV, rfl, hfz, hnd⟩ := hW
  have hA : DataW.TrodAll enc Tryd.prog W 0 (fun _ => true) true Tryd.f3.params.toList args.toList ds p := hA0
  rw [Tryd.params3] at hA hval
  obtain ⟨v0, vs0, d0, ds0, p0, q0, hargs, rfl, rfl, h0, r0⟩ := trodAll_cons hA
  obtain ⟨rfl, rfl, rfl⟩ := trodAll_nil r0
  obtain rfl : args = #[v0] := by cases args; simp_all
  obtain ⟨rfl, rfl⟩ := trodVars_none hV
  obtain ⟨a0, len0, cap0, rfl⟩ := okWide_slice Tryd.underlying22 (hval 0 22 v0 rfl rfl)
  have k0 := h0
  have lt0 : ∀ x ∈ p0, x.block < W.heap.size := by obtain ⟨m, hm⟩ := k0; exact DataW.trod_lt m _ _ _ hm
  obtain ⟨z0, w0⟩ := open_bytesIn h0
  clear hA0 hval0
  refine (fnRunLengths_walk a0 len0 cap0 z0 W w0 (maxL_of hsh)).mono fun e W' ⟨he, bel⟩ => ?_
  subst he
  exact ⟨_, rfl, _, _, _, [], _, [], hW', trodAll_mk1 (shut_bool Tryd.underlying4 _), (trodAll_cons_mk (Below.trod laidOutYes (by kernel_rfl) (of_decide_eq_true (by kernel_rfl)) k0 bel lt0) trodAll_mk0), rfl, bel.frame _, fun h => by cases h⟩

theorem over : Rows.fnRunLengthsRow.holds Tryd.pinned (OpenSpec.ofChange Rows.fnRunLengthsSpec) :=
  OpenClaim.holds_of_wide 3 Tryd.f3 rfl rfl rfl rfl rfl rfl rfl ⟨rfl, rfl, rfl, rfl, rfl⟩ rfl rfl rfl rfl rfl (by kernel_rfl) Tryd.func3 (by kernel_rfl)
    (of_decide_eq_true (by kernel_rfl)) (by unfold Func.isWrapper; first | (rw [if_pos (by decide +kernel)]; kernel_rfl) | (rw [if_neg (by decide +kernel)]; exact ⟨rfl, rfl⟩))
    (fun os started H enc _ => lifted os started H enc)

theorem proved : Rows.FnRunLengthsCardSaid :=
  Claim7.holds_tied_plain_at .later [] [.data, .pinned] true (true, "f780ad56bf4cf261850ace9ce134b4f62ca3c596ed3fbe1cacd2cb02c02e117d") false over (fun _ h => by cases h) (by kernel_rfl) (fun _ h => by cases h) fnRunLengths_row_tie rfl ⟨rfl, rfl⟩ (by kernel_rfl) rfl
    (fun f fn hf hfn => by
      obtain rfl : f = 3 := Option.some.inj ((show Tryd.prog.funcNamed "loop.example/g03103/laws.FnRunLengths" = some 3 by kernel_rfl).symm.trans hf) |>.symm
      obtain rfl : fn = Tryd.f3 := (Option.some.inj (Tryd.func3.symm.trans hfn)).symm
      exact ⟨by kernel_rfl, fun j t ht => by
        rw [Tryd.params3] at ht
        have hm : t ∈ [22] := by simpa using Array.mem_of_getElem? ht
        have hall : ([22].all fun u => !Tryd.prog.wantsStandIn u) = true := by kernel_rfl
        exact (show Tryd.prog.wantsStandIn t = false by simpa using List.all_eq_true.1 hall t hm)⟩)
    (by kernel_rfl)
end fnRunLengths

#print axioms fnRunLengths.proved
end Go.Proofs.YtobmljclokmbcaaDoor
