/- IBelow: a part of the proofs of this seat. -/
import Derived.Test.YtnoghnalopdflaaDoorProg
import Derived.Test.YtnoghnalopdflaaDoorThA
import Derived.Test.YtnoghnalopdflaaDoorIFirstN
import Derived.Test.YtnoghnalopdflaaDoorILess
import Derived.Test.YtnoghnalopdflaaDoorIDet
namespace Go.Proofs.YtnoghnalopdflaaDoor
open Go.RowKit
set_option linter.all false
set_option maxRecDepth 20000 in
set_option maxHeartbeats 6400000 in
theorem iBelow_any (p : Option Addr) (n c : Nat) (m : List (List Int)) (q d : Int) (w : World) (h : Intss w p n m) (hsm : isSmallM m = true) (hq : 0 ≤ q) (hq2 : q ≤ 4000) (hd : 1 ≤ d) (hd2 : d ≤ 100) :
    Calls Tryd.prog 115 #[.slice p n c, .int .i64 q, .int .i64 d] w fun e w' => e = .returned (.bool (belowM m q d)) ∧ Below w.heap.size w w' := by
  have hm := isSmallM_mat hsm
  have HL : Hid (m.length = n) := h.1
  have HR := Lib.hid (isMat_rowsLen hm.1 HL.out)
  have hn4 : n ≤ 4 := by have := HL.out; omega
  have H := Lib.hid h
  have HTR := Lib.hid (lessT_rowsLen (q := q) (d := d) HR.out)
  have HD : Hid (belF (lessT q d m) 0 (n - 0) = belowM m q d) := by show _ = _; unfold belowM; rw [HL.out]; rfl
  clear h hsm hm
  go_enter Tryd.func115, Tryd.ntmps115
  go_wp2_with fail
  refine (iLess_any _ _ _ m q d _ H.out HR.out (by omega) (by omega) (by omega) (by omega) (by omega)).mono ?_
  rintro e w1 ⟨v1, rfl, ho1, hb1⟩
  obtain ⟨ao1, cap1, rfl, hi1⟩ := ho1.form
  have hcap := Intss.capLe ho1 rfl
  have HI := Lib.hid hi1
  have HB := Lib.hid hb1
  clear ho1 hi1 hb1
  go_wp2_with fail
  go_loopw [8] (fun x wr => ∃ k : Nat, k ≤ n ∧ x = .int .i64 ((k : Int) + 1) ∧ Hid (belF (lessT q d m) k (n - k) = belowM m q d) ∧ Below w.heap.size w wr ∧ Below w1.heap.size w1 wr) (fun x _ => n + 1 - (intOf x).toNat)
  case atStart => exact ⟨0, Nat.zero_le _, rfl, HD.out, HB.out, Below.refl _ _⟩
  case round =>
    obtain ⟨k, hk, rfl, hr, hbl, hb1⟩ := hrel
    have Hbl := Lib.hid hbl
    have Hb1 := Lib.hid hb1
    clear hbl hb1 HD
    by_cases hlt : k < n
    · have HST := Lib.hid (bel_step hlt rfl hr.out)
      have hcast : ((k : Int) + 1) = ((k + 1 : Nat) : Int) := by omega
      clear hr
      obtain ⟨z, hz⟩ : ∃ z, det (k + 1) (partT (lessT q d m) (k + 1)) = z := ⟨_, rfl⟩
      have HZ := Lib.hid hz
      rw [hz] at HST
      clear hz
      have HC := fun W (hW : Below w1.heap.size w1 W) => iFirstN_any ao1 n cap1 (lessT q d m) (k + 1) n W (HI.out.keep hW) HTR.out (by omega) (by omega) hcap (by omega)
      rw [← hcast] at HC
      have HC := Lib.hid HC
      clear hcast
      by_cases hz0 : 0 < z
      · have hd0 : decide (z ≤ 0) = false := decide_eq_false (by omega)
        have HN := Lib.hid (HST.out.1 hz0)
        clear HST
        go_wp2_with fail
        refine (HC.out _ Hb1.out).mono ?_
        rintro e w2 ⟨a2, c2, rfl, hi2, hb2⟩
        have HI2 := Lib.hid hi2
        have HB2 := Lib.hid hb2
        clear hi2 hb2
        go_wp2_with fail
        refine (iDet_any (k + 1) _ _ _ (partT (lessT q d m) (k + 1)) _ (by omega) (by omega) (by exact_mod_cast HI2.out) (partT_rowsLen _ _)).mono ?_
        rw [HZ.out]
        rintro e w3 ⟨rfl, hb3⟩
        have HB3 := Lib.hid (step2 HB2.out hb3)
        clear hb3
        go_wp2_with fail
        go_roundw
        case rel => exact ⟨k + 1, hlt, by go_num, HN.out, Hbl.out.trans (HB3.out.mono Hbl.out.size), step2 Hb1.out HB3.out⟩
        case measure => simp [intOf]; omega
      · have hd0 : decide (z ≤ 0) = true := decide_eq_true (by omega)
        have HN := Lib.hid (HST.out.2 hz0)
        clear HST
        go_wp2_with fail
        refine (HC.out _ Hb1.out).mono ?_
        rintro e w2 ⟨a2, c2, rfl, hi2, hb2⟩
        have HI2 := Lib.hid hi2
        have HB2 := Lib.hid hb2
        clear hi2 hb2
        go_wp2_with fail
        refine (iDet_any (k + 1) _ _ _ (partT (lessT q d m) (k + 1)) _ (by omega) (by omega) (by exact_mod_cast HI2.out) (partT_rowsLen _ _)).mono ?_
        rw [HZ.out]
        rintro e w3 ⟨rfl, hb3⟩
        have HB3 := Lib.hid (step2 HB2.out hb3)
        clear hb3
        go_wp2_with fail
        go_ret
        exact ⟨ret_bool HN.out.symm, Hbl.out.trans (HB3.out.mono Hbl.out.size)⟩
    · have HN : Hid (belowM m q d = true) := by
        show _ = _
        rw [← hr.out, show n - k = 0 by omega]; rfl
      clear hr
      go_wp2_with fail
      go_ret
      exact ⟨ret_bool HN.out.symm, Hbl.out⟩
end Go.Proofs.YtnoghnalopdflaaDoor
