/- SIsVector: a part of the proofs of this seat. -/
import Derived.Test.YtalibdjckkdioaaProg
import Derived.Test.YtalibdjckkdioaaIsVec
import Derived.Test.YtalibdjckkdioaaSIsGraph
import Derived.Test.YtalibdjckkdioaaL26Row
namespace Go.Proofs.Ytalibdjckkdioaa
open Go.RowKit
set_option linter.all false
set_option maxHeartbeats 1600000 in
theorem sIsVector_any (p : Option Addr) (n c : Nat) (m : List (List Int)) (a : Int) (p' : Option Addr) (n' c' : Nat) (v : List Int) (w : World) (h : Intss w p n m) (h' : Ints w p' n' v) :
    Calls Try.prog 21 #[.slice p n c, .int .i64 a, .slice p' n' c'] w fun e w' => e = .returned (.bool (isVec m a v)) ∧ Drew w w' := by
  have hm := h.2.1
  have hm' := h'.2.1
  have HL := Lib.hid h.1
  have HL' := Lib.hid h'.1
  have H := Lib.hid h
  have H' := Lib.hid h'
  clear h h'
  cases hgr : isGraph m
  · have hg : Hid (isVec m a v = false) := by show isVec m a v = _; simp [isVec, hgr]
    go_enter Try.func21, Try.ntmps21
    go_wp2_with (first | (go_at_call 55; refine (sIsGraph_any _ _ _ m _ H.out).mono ?_; rintro e w' ⟨rfl, rfl⟩))
    go_ret
    exact ⟨ret_bool hg.out.symm, Drew.refl w⟩
  cases hin : inR a 1 9
  · have hg : Hid (isVec m a v = false) := by show isVec m a v = _; simp [isVec, hin]
    go_enter Try.func21, Try.ntmps21
    go_wp2_with (first | (go_at_call 55; refine (sIsGraph_any _ _ _ m _ H.out).mono ?_; rintro e w' ⟨rfl, rfl⟩) | (go_at_call 51; refine (l1In_any _ _ _ _).mono ?_; rintro e w' ⟨rfl, rfl⟩))
    go_ret
    exact ⟨ret_bool hg.out.symm, Drew.refl w⟩
  cases hfit : (all9 v && ((n' : Int) == (n : Int)))
  · have hg : Hid (isVec m a v = false) := by
      show isVec m a v = _
      have e1 : ((n' : Int) == (n : Int)) = decide (v.length = m.length) := by rw [Bool.eq_iff_iff]; simp [HL.out, HL'.out]; omega
      rw [e1] at hfit
      unfold isVec
      cases h9 : all9 v
      · simp
      · rw [h9, Bool.true_and] at hfit
        rw [hfit]
        simp
    have HF := Lib.hid hfit
    clear hfit
    go_enter Try.func21, Try.ntmps21
    go_wp2_with (first | (go_at_call 55; refine (sIsGraph_any _ _ _ m _ H.out).mono ?_; rintro e w' ⟨rfl, rfl⟩) | (go_at_call 51; refine (l1In_any _ _ _ _).mono ?_; rintro e w' ⟨rfl, rfl⟩) | (go_at_call 56; refine (l26Fits_any _ _ _ v _ _ H'.out).mono ?_; rw [HF.out]; rintro e w' ⟨rfl, rfl⟩))
    go_ret
    exact ⟨ret_bool hg.out.symm, Drew.refl w⟩
  have HF := Lib.hid hfit
  have hnn : n' = n := by have := hfit; simp only [Bool.and_eq_true, beq_iff_eq] at this; omega
  have h9 : Hid (all9 v = true) := by have := hfit; simp only [Bool.and_eq_true] at this; exact this.1
  clear hfit
  subst hnn
  have hvl : v.length = m.length := by rw [HL.out, HL'.out]
  cases hz : (vsum v == 0)
  · have hg : Hid (isVec m a v = vrows a v m v) := by
      show isVec m a v = _
      unfold isVec
      rw [hgr, hin, hz, h9.out]
      simp [hvl]
    have HG := Lib.hid hgr
    clear hvl
    go_enter Try.func21, Try.ntmps21
    go_wp2_with (first | (go_at_call 55; refine (sIsGraph_any _ _ _ m _ H.out).mono ?_; rintro e w' ⟨rfl, rfl⟩) | (go_at_call 51; refine (l1In_any _ _ _ _).mono ?_; rintro e w' ⟨rfl, rfl⟩) | (go_at_call 56; refine (l26Fits_any _ _ _ v _ _ H'.out).mono ?_; rw [HF.out]; rintro e w' ⟨rfl, rfl⟩) | (go_at_call 57; refine (sVectorSum_any _ _ _ v _ H'.out).mono ?_; rintro e w' ⟨rfl, rfl⟩))
    clear hgr hin hz
    go_loopw [7] (fun i wr => ∃ k : Nat, k ≤ n' ∧ i = .int .i64 k ∧ Drew w wr ∧ Hid (vrows a v (m.drop k) (v.drop k) = vrows a v m v)) (fun i _ => n' - (intOf i).toNat)
    case atStart => exact ⟨0, Nat.zero_le _, rfl, Drew.refl w, rfl⟩
    case round =>
      obtain ⟨k, hk, rfl, ⟨q, rfl⟩, hr⟩ := hrel
      by_cases hlt : k < n'
      · obtain ⟨b, o, ai, ci, r, rfl, _, hrow, hget⟩ := H.out.at_ hlt
        obtain ⟨b', o', y, rfl, hcell', hget'⟩ := H'.out.at_ hlt
        have HR : Hid (r.length = n') := by
          have := HG.out
          simp only [isGraph, Bool.and_eq_true] at this
          have := (isMat_row this.1 hget.out).1
          show r.length = n'
          rw [this, HL.out]
        have Hst := Lib.hid (vrows_step hget.out hget'.out hr.out)
        clear hrow hr
        by_cases ht : wdot 0 r v < wrap64 (a * y)
        · have hr1 : Hid _ := Hst.out.1 ht
          have hd : decide (wdot 0 r v < wrap64 (a * y)) = true := by simpa using ht
          clear Hst ht
          go_wp2_with fail
          go_quiet ((go_at_call 58; exact quiet_Da (l26Row_any _ _ _ m _ _ _ v _ k r _ H.out H'.out rfl hget.out HR.out (Nat.le_refl _))))
          go_wp2
          go_ret
          exact ⟨ret_bool (hr1.out.symm.trans hg.out.symm), (by first | exact Drew.refl _ | exact Drew.mk _ _ | exact (Drew.mk _ _).drewN _)⟩
        · have hr1 : Hid _ := Hst.out.2 ht
          have hd : decide (wdot 0 r v < wrap64 (a * y)) = false := by simpa using ht
          clear Hst ht
          go_wp2_with fail
          go_quiet ((go_at_call 58; exact quiet_Da (l26Row_any _ _ _ m _ _ _ v _ k r _ H.out H'.out rfl hget.out HR.out (Nat.le_refl _))))
          go_wp2
          go_roundw
          case rel => exact ⟨k + 1, hlt, by go_num, (by first | exact Drew.refl _ | exact Drew.mk _ _ | exact (Drew.mk _ _).drewN _), hr1⟩
          case measure => simp [intOf]; omega
      · have hr1 : Hid _ := vrows_end (by have := HL.out; omega) hr.out
        clear hr
        go_wp2
        go_ret
        exact ⟨ret_bool (by rw [hg.out, hr1.out]), (by first | exact Drew.refl _ | exact Drew.mk _ _ | exact (Drew.mk _ _).drewN _)⟩
  · have hg : Hid (isVec m a v = false) := by show isVec m a v = _; unfold isVec; rw [hz]; simp
    clear hvl
    go_enter Try.func21, Try.ntmps21
    go_wp2_with (first | (go_at_call 55; refine (sIsGraph_any _ _ _ m _ H.out).mono ?_; rintro e w' ⟨rfl, rfl⟩) | (go_at_call 51; refine (l1In_any _ _ _ _).mono ?_; rintro e w' ⟨rfl, rfl⟩) | (go_at_call 56; refine (l26Fits_any _ _ _ v _ _ H'.out).mono ?_; rw [HF.out]; rintro e w' ⟨rfl, rfl⟩) | (go_at_call 57; refine (sVectorSum_any _ _ _ v _ H'.out).mono ?_; rintro e w' ⟨rfl, rfl⟩))
    go_ret
    exact ⟨ret_bool hg.out.symm, Drew.refl w⟩
end Go.Proofs.Ytalibdjckkdioaa
