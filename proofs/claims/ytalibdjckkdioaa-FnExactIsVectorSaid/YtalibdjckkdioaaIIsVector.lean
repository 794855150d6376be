/- IIsVector: a part of the proofs of this seat. -/
import Derived.Test.YtalibdjckkdioaaProg
import Derived.Test.YtalibdjckkdioaaIsVec
import Derived.Test.YtalibdjckkdioaaIIsGraph
import Derived.Test.YtalibdjckkdioaaWeighed
import Derived.Test.YtalibdjckkdioaaIsDigit
import Derived.Test.YtalibdjckkdioaaIVectorSum
namespace Go.Proofs.Ytalibdjckkdioaa
open Go.RowKit
set_option linter.all false
set_option maxHeartbeats 1600000 in
theorem iIsVector_any (p : Option Addr) (n c : Nat) (m : List (List Int)) (a : Int) (p' : Option Addr) (n' c' : Nat) (v : List Int) (w : World) (h : Intss w p n m) (h' : Ints w p' n' v) :
    Calls Try.prog 23 #[.slice p n c, .int .i64 a, .slice p' n' c'] w fun e w' => e = .returned (.bool (isVec m a v)) ∧ Drew w w' := by
  have hm := h.2.1
  have hm' := h'.2.1
  have HL := Lib.hid h.1
  have HL' := Lib.hid h'.1
  have H := Lib.hid h
  have H' := Lib.hid h'
  clear h h'
  cases hgr : isGraph m
  · have hg : Hid (isVec m a v = false) := by show isVec m a v = _; simp [isVec, hgr]
    go_enter Try.func23, Try.ntmps23
    go_wp2_with (first | (go_at_call 59; refine (iIsGraph_any _ _ _ m _ H.out).mono ?_; rintro e w' ⟨rfl, rfl⟩))
    go_ret
    exact ⟨ret_bool hg.out.symm, Drew.refl w⟩
  cases hin : inR a 1 9
  · have hg : Hid (isVec m a v = false) := by show isVec m a v = _; simp [isVec, hin]
    go_enter Try.func23, Try.ntmps23
    go_wp2_with (first | (go_at_call 59; refine (iIsGraph_any _ _ _ m _ H.out).mono ?_; rintro e w' ⟨rfl, rfl⟩) | (go_at_call 60; refine (isDigit_any _ _).mono ?_; rintro e w' ⟨rfl, rfl⟩))
    go_ret
    exact ⟨ret_bool hg.out.symm, Drew.refl w⟩
  by_cases hnn : n' = n
  · subst hnn
    have hvl : v.length = m.length := by rw [HL.out, HL'.out]
    have hne : ((n' : Int) != (n' : Int)) = false := by simp
    have hn9 : v.length ≤ 9 := by
      have := hgr
      simp only [isGraph, Bool.and_eq_true] at this
      have := (isMat_len this.1).2
      omega
    have hvs := vsum_small hn9
    by_cases hz : vsum v < 1
    · have hg : Hid (isVec m a v = false) := by
        show isVec m a v = _
        unfold isVec
        rcases hvs.1 hz with h9 | h9
        · rw [h9]; simp
        · rw [h9]; simp
      have hd : decide (vsum v < 1) = true := by simpa using hz
      clear hvl hn9 hvs hz
      go_enter Try.func23, Try.ntmps23
      go_wp2_with (first | (go_at_call 59; refine (iIsGraph_any _ _ _ m _ H.out).mono ?_; rintro e w' ⟨rfl, rfl⟩) | (go_at_call 60; refine (isDigit_any _ _).mono ?_; rintro e w' ⟨rfl, rfl⟩) | (go_at_call 61; refine (iVectorSum_any _ _ _ v _ H'.out).mono ?_; rintro e w' ⟨rfl, rfl⟩))
      go_ret
      exact ⟨ret_bool hg.out.symm, Drew.refl w⟩
    · have hg : Hid (isVec m a v = vrows a v m v) := by
        show isVec m a v = _
        have hq : ¬ (all9 v = false ∨ vsum v = 0) := fun e => hz (hvs.2 e)
        have h9 : all9 v = true := by
          cases h9 : all9 v with
          | true => rfl
          | false => exact absurd (.inl h9) hq
        have h0 : vsum v ≠ 0 := fun e => hq (.inr e)
        have h0' : (vsum v == 0) = false := by simpa using h0
        unfold isVec
        rw [hgr, hin, h9, h0']
        simp [hvl]
      have hd : decide (vsum v < 1) = false := by simpa using hz
      have HG := Lib.hid hgr
      clear hvl hn9 hvs hz
      go_enter Try.func23, Try.ntmps23
      go_wp2_with (first | (go_at_call 59; refine (iIsGraph_any _ _ _ m _ H.out).mono ?_; rintro e w' ⟨rfl, rfl⟩) | (go_at_call 60; refine (isDigit_any _ _).mono ?_; rintro e w' ⟨rfl, rfl⟩) | (go_at_call 61; refine (iVectorSum_any _ _ _ v _ H'.out).mono ?_; rintro e w' ⟨rfl, rfl⟩))
      clear hgr hin hd
      go_loopw [31] (fun i wr => ∃ k : Nat, k ≤ n' ∧ i = .int .i64 k ∧ Drew w wr ∧ Hid (vrows a v (m.drop k) (v.drop k) = vrows a v m v)) (fun i _ => n' - (intOf i).toNat)
      case atStart => exact ⟨0, Nat.zero_le _, rfl, Drew.refl w, rfl⟩
      case round =>
        obtain ⟨k, hk, rfl, ⟨q, rfl⟩, hr⟩ := hrel
        by_cases hlt : k < n'
        · obtain ⟨b, o, ai, ci, r, rfl, hcell, hrow, hget⟩ := H.out.at_ hlt
          obtain ⟨b', o', y, rfl, hcell', hget'⟩ := H'.out.at_ hlt
          have HR : Hid (r.length = n') := by
            have := HG.out
            simp only [isGraph, Bool.and_eq_true] at this
            have := (isMat_row this.1 hget.out).1
            show r.length = n'
            rw [this, HL.out]
          have Hrow := Lib.hid hrow
          have Hst := Lib.hid (vrows_step hget.out hget'.out hr.out)
          clear hrow hr
          by_cases ht : wdot 0 r v < wrap64 (a * y)
          · have hr1 : Hid _ := Hst.out.1 ht
            have hd : decide (wdot 0 r v < wrap64 (a * y)) = true := by simpa using ht
            clear Hst ht
            go_wp2_with fail
            go_quiet ((go_at_call 62; exact quiet_La (weighed_any _ _ _ r _ _ _ v _ Hrow.out H'.out (Nat.le_of_eq HR.out))))
            go_wp2
            go_ret
            exact ⟨ret_bool (hr1.out.symm.trans hg.out.symm), (by first | exact Drew.refl _ | exact Drew.mk _ _ | exact (Drew.mk _ _).drewN _)⟩
          · have hr1 : Hid _ := Hst.out.2 ht
            have hd : decide (wdot 0 r v < wrap64 (a * y)) = false := by simpa using ht
            clear Hst ht
            go_wp2_with fail
            go_quiet ((go_at_call 62; exact quiet_La (weighed_any _ _ _ r _ _ _ v _ Hrow.out H'.out (Nat.le_of_eq HR.out))))
            go_wp2
            go_roundw
            case rel => exact ⟨k + 1, hlt, by go_num, (by first | exact Drew.refl _ | exact Drew.mk _ _ | exact (Drew.mk _ _).drewN _), hr1⟩
            case measure => simp [intOf]; omega
        · have hr1 : Hid _ := vrows_end (by have := HL.out; omega) hr.out
          clear hr
          go_wp2
          go_ret
          exact ⟨ret_bool (by rw [hg.out, hr1.out]), (by first | exact Drew.refl _ | exact Drew.mk _ _ | exact (Drew.mk _ _).drewN _)⟩
  · have hg : Hid (isVec m a v = false) := by
      show isVec m a v = _
      have : ¬ v.length = m.length := by rw [HL.out, HL'.out]; exact hnn
      simp [isVec, this]
    have hne : ((n' : Int) != (n : Int)) = true := by simp; omega
    clear hnn
    go_enter Try.func23, Try.ntmps23
    go_wp2_with (first | (go_at_call 59; refine (iIsGraph_any _ _ _ m _ H.out).mono ?_; rintro e w' ⟨rfl, rfl⟩) | (go_at_call 60; refine (isDigit_any _ _).mono ?_; rintro e w' ⟨rfl, rfl⟩))
    go_ret
    exact ⟨ret_bool hg.out.symm, Drew.refl w⟩
end Go.Proofs.Ytalibdjckkdioaa
