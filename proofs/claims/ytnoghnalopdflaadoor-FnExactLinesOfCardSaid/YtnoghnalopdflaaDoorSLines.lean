/- SLines: a part of the proofs of this seat. -/
import Derived.Test.YtnoghnalopdflaaDoorProg
import Derived.Test.YtnoghnalopdflaaDoorLinT
import Derived.Test.YtnoghnalopdflaaDoorSGroupOf
import Derived.Test.YtnoghnalopdflaaDoorSSignOf
import Derived.Test.YtnoghnalopdflaaDoorSIsSmall
import Derived.Test.YtnoghnalopdflaaDoorSGrp
namespace Go.Proofs.YtnoghnalopdflaaDoor
open Go.RowKit
set_option linter.all false
set_option maxRecDepth 20000 in
set_option maxHeartbeats 3200000 in
theorem sLines_any (p : Option Addr) (n c : Nat) (m : List (List Int)) (w : World) (h : Intss w p n m) :
    Calls Tryd.prog 26 #[.slice p n c] w fun e w' => ∃ v, e = .returned v ∧ OStrs w' w.heap.size v (linesV m).length (linesV m) ∧ Below w.heap.size w w' := by
  have H := Lib.hid h
  clear h
  cases hs : isSmallM m
  · have hg : Hid (linesV m = []) := by show _ = _; simp [linesV, hs]
    have HS := Lib.hid hs
    clear hs
    go_enter Tryd.func26, Tryd.ntmps26
    go_wp2_with (go_at_call 70; refine (sIsSmall_any _ _ _ m _ H.out).mono ?_; rw [HS.out]; rintro e w' ⟨rfl, rfl⟩)
    go_ret
    rw [hg.out]
    exact ⟨_, rfl, OStrs.empty _ _ (Nat.le_refl _), belowA _ _⟩
  have hg : Hid (linesV m = [groupTxt (groupV m), sgT (signOf m)]) := by show _ = _; simp [linesV, hs]
  have H3 := Lib.hid (signOf_three hs)
  have HS := Lib.hid hs
  have HLE := Lib.hid (groupV_le m)
  have HLN := groupV_len m
  clear hs
  go_enter Tryd.func26, Tryd.ntmps26
  go_wp2_with fail
  refine (sIsSmall_any _ _ _ m _ H.out).mono ?_
  rw [HS.out]
  rintro e w' ⟨rfl, rfl⟩
  go_wp2_with fail
  refine (sGroupOf_any _ _ _ m _ H.out).mono ?_
  rintro e w1 ⟨v1, rfl, ho1, hb1⟩
  obtain ⟨a1, c1, rfl, hi1⟩ := ho1.form
  have HI1 := Lib.hid hi1
  have HB1 := Lib.hid hb1
  clear ho1 hi1 hb1
  go_wp2_with fail
  refine (sGroupText_any _ _ _ (groupV m) _ HI1.out HLN HLE.out).mono ?_
  rintro e w2 ⟨rfl, hb2⟩
  have HB2 := Lib.hid (step2 HB1.out hb2)
  clear hb2
  have HK := Lib.hid (heap_alloc_new w2 (.cells #[.string txtMinus, .string txtZero, .string txtPlus] 9))
  have HB3 := Lib.hid (step2 HB2.out (belowA w2 (.cells #[.string txtMinus, .string txtZero, .string txtPlus] 9)))
  have HBA := Lib.hid (belowA w2 (.cells #[.string txtMinus, .string txtZero, .string txtPlus] 9))
  have e1 : txtMinus = ⟨#[109, 105, 110, 117, 115]⟩ := rfl
  have e2 : txtZero = ⟨#[122, 101, 114, 111]⟩ := rfl
  have e3 : txtPlus = ⟨#[112, 108, 117, 115]⟩ := rfl
  rw [e1, e2, e3] at HK HB3 HBA
  clear e1 e2 e3
  go_wp2_with fail
  obtain ⟨g, hgs⟩ : ∃ g, w2.heap.size = g := ⟨_, rfl⟩
  rw [hgs] at HK
  simp only [hgs]
  generalize w2.alloc (.cells #[.string ⟨#[109, 105, 110, 117, 115]⟩, .string ⟨#[122, 101, 114, 111]⟩, .string ⟨#[112, 108, 117, 115]⟩] 9) = w3 at HK HB3 HBA ⊢
  clear hgs
  rcases H3.out with hz | hz | hz
  · have HZ := Lib.hid hz
    have HG : Hid (linesV m = [groupTxt (groupV m), txtMinus]) := by show _ = _; rw [hg.out, hz]; rfl
    clear hz
    refine (sSignOf_any _ _ _ m _ (H.out.keep HB3.out)).mono ?_
    rw [HZ.out]
    rintro e w4 ⟨rfl, hb4⟩
    have hblk := (hb4.block g (Array.getElem?_eq_some_iff.1 HK.out).1).trans HK.out
    have hcell := cell_of_row w4 g 0 _ 9 (0, 0) hblk
    have HB4 := Lib.hid (step2 HB3.out hb4)
    have HO := Lib.hid (OStrs.lit w4 w.heap.size [groupTxt (groupV m), txtMinus] HB4.out.size (by simp))
    have HB5 := Lib.hid (step2 HB4.out (belowA w4 (.cells #[.string (groupTxt (groupV m)), .string txtMinus] 9)))
    have e9 : txtMinus = ⟨#[109, 105, 110, 117, 115]⟩ := rfl
    rw [e9] at HO HB5
    clear hb4 hblk e9
    go_wp2_with fail
    go_ret
    rw [HG.out]
    exact ⟨_, rfl, HO.out, HB5.out⟩
  · have HZ := Lib.hid hz
    have HG : Hid (linesV m = [groupTxt (groupV m), txtZero]) := by show _ = _; rw [hg.out, hz]; rfl
    clear hz
    refine (sSignOf_any _ _ _ m _ (H.out.keep HB3.out)).mono ?_
    rw [HZ.out]
    rintro e w4 ⟨rfl, hb4⟩
    have hblk := (hb4.block g (Array.getElem?_eq_some_iff.1 HK.out).1).trans HK.out
    have hcell := cell_of_row w4 g 1 _ 9 (0, 0) hblk
    have HB4 := Lib.hid (step2 HB3.out hb4)
    have HO := Lib.hid (OStrs.lit w4 w.heap.size [groupTxt (groupV m), txtZero] HB4.out.size (by simp))
    have HB5 := Lib.hid (step2 HB4.out (belowA w4 (.cells #[.string (groupTxt (groupV m)), .string txtZero] 9)))
    have e9 : txtZero = ⟨#[122, 101, 114, 111]⟩ := rfl
    rw [e9] at HO HB5
    clear hb4 hblk e9
    go_wp2_with fail
    go_ret
    rw [HG.out]
    exact ⟨_, rfl, HO.out, HB5.out⟩
  · have HZ := Lib.hid hz
    have HG : Hid (linesV m = [groupTxt (groupV m), txtPlus]) := by show _ = _; rw [hg.out, hz]; rfl
    clear hz
    refine (sSignOf_any _ _ _ m _ (H.out.keep HB3.out)).mono ?_
    rw [HZ.out]
    rintro e w4 ⟨rfl, hb4⟩
    have hblk := (hb4.block g (Array.getElem?_eq_some_iff.1 HK.out).1).trans HK.out
    have hcell := cell_of_row w4 g 2 _ 9 (0, 0) hblk
    have HB4 := Lib.hid (step2 HB3.out hb4)
    have HO := Lib.hid (OStrs.lit w4 w.heap.size [groupTxt (groupV m), txtPlus] HB4.out.size (by simp))
    have HB5 := Lib.hid (step2 HB4.out (belowA w4 (.cells #[.string (groupTxt (groupV m)), .string txtPlus] 9)))
    have e9 : txtPlus = ⟨#[112, 108, 117, 115]⟩ := rfl
    rw [e9] at HO HB5
    clear hb4 hblk e9
    go_wp2_with fail
    go_ret
    rw [HG.out]
    exact ⟨_, rfl, HO.out, HB5.out⟩
end Go.Proofs.YtnoghnalopdflaaDoor
