/- SFloor: a part of the proofs of this seat. -/
import Derived.Test.YtnoghnalopdflaaDoorProg
import Derived.Test.YtnoghnalopdflaaDoorThA
import Derived.Test.YtnoghnalopdflaaDoorSBelow
import Derived.Test.YtnoghnalopdflaaDoorSIsSmall
import Derived.Test.YtnoghnalopdflaaDoorBase
namespace Go.Proofs.YtnoghnalopdflaaDoor
open Go.RowKit
set_option linter.all false
set_option maxRecDepth 20000 in
set_option maxHeartbeats 3200000 in
theorem sFloor_any (p : Option Addr) (n c : Nat) (m : List (List Int)) (d : Int) (w : World) (h : Intss w p n m) :
    Calls Tryd.prog 72 #[.slice p n c, .int .i64 d] w fun e w' => e = .returned (.int .i64 (floorG m d)) ∧ Below w.heap.size w w' := by
  have H := Lib.hid h
  clear h
  cases hs : isSmallM m
  · have hg : Hid (floorG m d = -1) := by show _ = _; simp [floorG, hs]
    go_enter Tryd.func72, Tryd.ntmps72
    go_wp2_with (first | (go_at_call 70; refine (sIsSmall_any _ _ _ m _ H.out).mono ?_; rintro e w' ⟨rfl, rfl⟩))
    go_ret
    exact ⟨ret_int hg.out.symm, Below.refl _ _⟩
  have HS := Lib.hid hs
  clear hs
  by_cases hd : 1 ≤ d ∧ d ≤ 100
  rotate_left
  · have hg : Hid (floorG m d = -1) := by show _ = _; unfold floorG; rw [inR_no (by omega)]; simp
    have B1 := Lib.hid (inR_no (x := d) (lo := 1) (hi := 100) (by omega))
    go_enter Tryd.func72, Tryd.ntmps72
    go_wp2_with (first | (go_at_call 70; refine (sIsSmall_any _ _ _ m _ H.out).mono ?_; rw [HS.out]; rintro e w' ⟨rfl, rfl⟩) | (go_at_call 55; refine (l1In_any _ _ _ _).mono ?_; rw [B1.out]; rintro e w' ⟨rfl, rfl⟩))
    go_ret
    exact ⟨ret_int hg.out.symm, Below.refl _ _⟩
  obtain ⟨h1, h2⟩ := hd
  have hg : Hid (bis (fun q => belowM m q d) 4000 0 (36 * d + 1) = floorG m d) := by show _ = _; unfold floorG; rw [HS.out, inR_mk ⟨h1, h2⟩]; simp
  obtain ⟨f, hf⟩ : ∃ f : Int → Bool, (fun q => belowM m q d) = f := ⟨_, rfl⟩
  have HF : Hid (∀ q, belowM m q d = f q) := by show ∀ q, _; intro q; rw [← hf]
  rw [hf] at hg
  clear hf
  have B1 := Lib.hid (inR_mk (x := d) (lo := 1) (hi := 100) ⟨h1, h2⟩)
  go_enter Tryd.func72, Tryd.ntmps72
  go_wp2_with (first | (go_at_call 70; refine (sIsSmall_any _ _ _ m _ H.out).mono ?_; rw [HS.out]; rintro e w' ⟨rfl, rfl⟩) | (go_at_call 55; refine (l1In_any _ _ _ _).mono ?_; rw [B1.out]; rintro e w' ⟨rfl, rfl⟩))
  go_loopw [5, 6] (fun x y wr => ∃ (lo hi : Int) (F : Nat), x = .int .i64 lo ∧ y = .int .i64 hi ∧ 0 ≤ lo ∧ lo < hi ∧ hi ≤ 3601 ∧ hi - lo ≤ F ∧ Hid (bis f F lo hi = floorG m d) ∧ Below w.heap.size w wr) (fun x y _ => (intOf y - intOf x).toNat)
  case atStart => exact ⟨0, 36 * d + 1, 4000, rfl, rfl, by omega, by omega, by omega, by omega, hg.out, Below.refl _ _⟩
  case round =>
    obtain ⟨lo, hi, F, rfl, rfl, g0, g1, g2, g3, hr, hbl⟩ := hrel
    have Hbl := Lib.hid hbl
    clear hbl hg
    by_cases hlt : 1 < hi - lo
    · obtain ⟨F', g4, HST⟩ := bis_step g3 hlt hr.out
      have HST := Lib.hid HST
      clear hr
      obtain ⟨q, hq⟩ : ∃ q, (lo + hi) / 2 = q := ⟨_, rfl⟩
      have hq1 : lo < q := by omega
      have hq2 : q < hi := by omega
      rw [hq] at HST
      have hdv : decide (1 < hi - lo) = true := decide_eq_true hlt
      clear hlt
      cases hfq : f q
      · have HN := Lib.hid (HST.out.2 hfq)
        have HFQ : Hid (belowM m q d = false) := (HF.out q).trans hfq
        clear HST hfq
        go_wp2_with fail
        refine (sBelow_any _ _ _ m q d _ (H.out.keep (Hbl.out.mono (Nat.le_refl _))) HS.out (by omega) (by omega) h1 h2).mono ?_
        rw [HFQ.out]
        rintro e w2 ⟨rfl, hb2⟩
        have HB2 := Lib.hid (step2 Hbl.out hb2)
        clear hb2
        go_wp2_with fail
        go_roundw
        case rel => exact ⟨q, hi, F', rfl, rfl, by omega, by omega, by omega, by omega, HN.out, HB2.out⟩
        case measure => simp [intOf]; omega
      · have HN := Lib.hid (HST.out.1 hfq)
        have HFQ : Hid (belowM m q d = true) := (HF.out q).trans hfq
        clear HST hfq
        go_wp2_with fail
        refine (sBelow_any _ _ _ m q d _ (H.out.keep (Hbl.out.mono (Nat.le_refl _))) HS.out (by omega) (by omega) h1 h2).mono ?_
        rw [HFQ.out]
        rintro e w2 ⟨rfl, hb2⟩
        have HB2 := Lib.hid (step2 Hbl.out hb2)
        clear hb2
        go_wp2_with fail
        go_roundw
        case rel => exact ⟨lo, q, F', rfl, rfl, by omega, by omega, by omega, by omega, HN.out, HB2.out⟩
        case measure => simp [intOf]; omega
    · have HE := Lib.hid (bis_end hlt hr.out)
      have hdv : decide (1 < hi - lo) = false := decide_eq_false hlt
      clear hr hlt
      go_wp2_with fail
      go_ret
      exact ⟨ret_int HE.out, Hbl.out⟩
end Go.Proofs.YtnoghnalopdflaaDoor
