/- ISignOf: a part of the proofs of this seat. -/
import Derived.Test.YtnoghnalopdflaaDoorProg
import Derived.Test.YtnoghnalopdflaaDoorSSignOf
import Derived.Test.YtnoghnalopdflaaDoorIIsSmall
import Derived.Test.YtnoghnalopdflaaDoorILess
import Derived.Test.YtnoghnalopdflaaDoorIDet
namespace Go.Proofs.YtnoghnalopdflaaDoor
open Go.RowKit
set_option linter.all false
set_option maxHeartbeats 1600000 in
theorem iSignOf_any (ao : Option Addr) (n cap : Nat) (xss : List (List Int)) (w : World) (h : Intss w ao n xss) :
    Calls Tryd.prog 81 #[.slice ao n cap] w fun e w' => e = .returned (.int .i64 (signOf xss)) ∧ Below w.heap.size w w' := by
  have HL : Hid (xss.length = n) := h.1
  have H := Lib.hid h
  clear h
  cases hs : isSmallM xss
  · have hg : Hid (signOf xss = -2) := by show signOf xss = _; simp [signOf, hs]
    go_enter Tryd.func81, Tryd.ntmps81
    go_wp2_with (first | (go_at_call 73; refine (iIsSmall_any _ _ _ xss _ H.out).mono ?_; rintro e w' ⟨rfl, rfl⟩))
    go_ret
    exact ⟨ret_int hg.out.symm, Below.refl _ _⟩
  · have hg : Hid (signOf xss = sgn (det n (lessT 1 1 xss))) := by show signOf xss = _; simp [signOf, hs, HL.out]
    have hsm := isSmallM_mat hs
    have HR := Lib.hid (isMat_rowsLen hsm.1 HL.out)
    have hn4 : n ≤ 4 := by have := HL.out; omega
    have HT := Lib.hid (lessT_rowsLen (q := 1) (d := 1) HR.out)
    have HTL : Hid ((lessT 1 1 xss).length = n) := by show (lessT 1 1 xss).length = n; rw [lessT_len, HL.out]
    clear hsm
    rcases Int.lt_trichotomy (det n (lessT 1 1 xss)) 0 with hz | hz | hz
    · have hg1 : Hid (signOf xss = -1) := by show signOf xss = _; rw [hg.out]; unfold sgn; rw [if_neg (by omega), if_pos hz]
      go_enter Tryd.func81, Tryd.ntmps81
      go_wp2_with (first
        | (go_at_call 73; refine (iIsSmall_any _ _ _ xss _ H.out).mono ?_; rintro e w' ⟨rfl, rfl⟩)
        | (go_at_call 122; refine (iLess_any _ _ _ xss 1 1 _ H.out HR.out (by omega) (by omega) (by omega) (by omega) (by omega)).mono ?_; rintro e w1 ⟨v1, rfl, ho1, hb1⟩; obtain ⟨ao1, cap1, rfl, hi1⟩ := ho1.form; have Hi1 := Lib.hid hi1; have Hb1 := Lib.hid hb1; clear ho1 hb1 hi1)
        | (go_at_call 124; refine (iDet_any n _ _ _ (lessT 1 1 xss) _ rfl (by omega) Hi1.out HT.out).mono ?_; rintro e w2 ⟨rfl, hb2⟩; have Hb2 := Lib.hid (Hb1.out.trans (hb2.mono Hb1.out.size)); clear hb2))
      go_ret
      exact ⟨ret_int hg1.out.symm, Hb2.out⟩
    · have hg1 : Hid (signOf xss = 0) := by show signOf xss = _; rw [hg.out]; unfold sgn; rw [if_neg (by omega), if_neg (by omega)]
      go_enter Tryd.func81, Tryd.ntmps81
      go_wp2_with (first
        | (go_at_call 73; refine (iIsSmall_any _ _ _ xss _ H.out).mono ?_; rintro e w' ⟨rfl, rfl⟩)
        | (go_at_call 122; refine (iLess_any _ _ _ xss 1 1 _ H.out HR.out (by omega) (by omega) (by omega) (by omega) (by omega)).mono ?_; rintro e w1 ⟨v1, rfl, ho1, hb1⟩; obtain ⟨ao1, cap1, rfl, hi1⟩ := ho1.form; have Hi1 := Lib.hid hi1; have Hb1 := Lib.hid hb1; clear ho1 hb1 hi1)
        | (go_at_call 124; refine (iDet_any n _ _ _ (lessT 1 1 xss) _ rfl (by omega) Hi1.out HT.out).mono ?_; rintro e w2 ⟨rfl, hb2⟩; have Hb2 := Lib.hid (Hb1.out.trans (hb2.mono Hb1.out.size)); clear hb2))
      go_ret
      exact ⟨ret_int hg1.out.symm, Hb2.out⟩
    · have hg1 : Hid (signOf xss = 1) := by show signOf xss = _; rw [hg.out]; unfold sgn; rw [if_pos (by omega)]
      go_enter Tryd.func81, Tryd.ntmps81
      go_wp2_with (first
        | (go_at_call 73; refine (iIsSmall_any _ _ _ xss _ H.out).mono ?_; rintro e w' ⟨rfl, rfl⟩)
        | (go_at_call 122; refine (iLess_any _ _ _ xss 1 1 _ H.out HR.out (by omega) (by omega) (by omega) (by omega) (by omega)).mono ?_; rintro e w1 ⟨v1, rfl, ho1, hb1⟩; obtain ⟨ao1, cap1, rfl, hi1⟩ := ho1.form; have Hi1 := Lib.hid hi1; have Hb1 := Lib.hid hb1; clear ho1 hb1 hi1)
        | (go_at_call 124; refine (iDet_any n _ _ _ (lessT 1 1 xss) _ rfl (by omega) Hi1.out HT.out).mono ?_; rintro e w2 ⟨rfl, hb2⟩; have Hb2 := Lib.hid (Hb1.out.trans (hb2.mono Hb1.out.size)); clear hb2))
      go_ret
      exact ⟨ret_int hg1.out.symm, Hb2.out⟩
end Go.Proofs.YtnoghnalopdflaaDoor
