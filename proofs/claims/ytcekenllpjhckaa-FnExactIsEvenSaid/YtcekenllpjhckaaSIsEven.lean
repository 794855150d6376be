/- SIsEven: a part of the proofs of this seat. -/
import Derived.Test.YtcekenllpjhckaaProg
import Derived.Test.YtcekenllpjhckaaSIsMatrix
import Derived.Test.YtcekenllpjhckaaL28Sum
namespace Go.Proofs.Ytcekenllpjhckaa
open Go.RowKit
set_option linter.all false
/-- All rows have the sum s. -/
def sameSum (s : Int) (rs : List (List Int)) : Bool := rs.all (fun r => decide (isum 0 r = s))
theorem sameSum_step {s : Int} {xss : List (List Int)} {k : Nat} {r : List Int} {b : Bool} (hk : xss[k]? = some r) (h : sameSum s (xss.drop k) = b) :
    (isum 0 r = s → sameSum s (xss.drop (k + 1)) = b) ∧ (isum 0 r ≠ s → b = false) := by
  rw [drop_of_get hk] at h
  generalize List.drop (k + 1) xss = q at *
  constructor
  · intro e; simpa [sameSum, e] using h
  · intro e; simpa [sameSum, e] using h.symm
def isEven (xss : List (List Int)) : Bool := isMat xss && sameSum (isum 0 (xss.getD 0 [])) (xss.drop 1)

set_option maxHeartbeats 800000 in
theorem sIsEven_any (ao : Option Addr) (n cap : Nat) (xss : List (List Int)) (w : World) (h : Intss w ao n xss) :
    Calls Try.prog 27 #[.slice ao n cap] w fun e w' => e = .returned (.bool (isEven xss)) ∧ Drew w w' := by
  have hm := h.2.1
  have HL := Lib.hid h.1
  have H := Lib.hid h
  clear h
  by_cases hn0 : n < 2
  · have hg : Hid (isEven xss = isMat xss) := by
      show isEven xss = _
      unfold isEven
      rw [drop_all xss 1 (by have := HL.out; omega)]
      simp [sameSum]
    go_enter Try.func27, Try.ntmps27
    go_wp2
    go_loop [3] (fun i => i = .int .i64 1) (fun _ => 0)
    case atStart => rfl
    case round =>
      obtain rfl := hrel
      have hn1 : n ≤ 1 := by omega
      go_wp2_with (first | (go_at_call 40; refine (sIsMatrix_any _ _ _ xss _ (by first | exact H.out | exact H.out.drewN _)).mono ?_; rintro e w' ⟨rfl, rfl⟩))
      go_ret
      exact ⟨ret_bool hg.out.symm, (by first | exact Drew.refl _ | exact Drew.mk _ _ | exact (Drew.mk _ _).drewN _)⟩
  · obtain ⟨b, o, ai, ci, r0, rfl, hcell, hrow, hget⟩ := H.out.at_ (k := 0) (by omega)
    rw [Nat.add_zero] at hcell
    have Hrow := Lib.hid hrow
    clear hrow
    have hg : Hid (isEven xss = (isMat xss && sameSum (isum 0 r0) (xss.drop 1))) := by
      show isEven xss = _
      unfold isEven
      have : xss.getD 0 [] = r0 := by rw [List.getD, hget.out]; rfl
      rw [this]
    go_enter Try.func27, Try.ntmps27
    go_wp2
    go_loopw [3] (fun i wr => ∃ k : Nat, 1 ≤ k ∧ k ≤ n ∧ i = .int .i64 k ∧ Drew w wr ∧ Hid (sameSum (isum 0 r0) (xss.drop k) = sameSum (isum 0 r0) (xss.drop 1))) (fun i _ => n - (intOf i).toNat)
    case atStart => exact ⟨1, by omega, by omega, rfl, Drew.refl w, rfl⟩
    case round =>
      obtain ⟨k, hk1, hk, rfl, ⟨m, rfl⟩, hr⟩ := hrel
      by_cases hlt : k < n
      · obtain ⟨b', o', ai', ci', r, e', hcell', hrow', hget'⟩ := H.out.at_ hlt
        injection e' with e'
        injection e' with e1 e2
        subst e1
        subst e2
        have Hrow' := Lib.hid hrow'
        clear hrow' H
        have Hst := Lib.hid (sameSum_step hget'.out hr.out)
        clear hr
        by_cases hs : isum 0 r = isum 0 r0
        · have ht : (isum 0 r != isum 0 r0) = false := by simp [hs]
          have hr1 : Hid _ := Hst.out.1 hs
          clear Hst hs
          go_wp2_with fail
          go_quiet ((go_at_call 36; first | exact quiet_La (l28Sum_any _ _ _ r _ Hrow'.out) | exact quiet_La (l28Sum_any _ _ _ r0 _ Hrow.out)))
          go_wp2
          go_roundw
          case rel => exact ⟨k + 1, by omega, hlt, by go_num, (by first | exact Drew.refl _ | exact Drew.mk _ _ | exact (Drew.mk _ _).drewN _), hr1⟩
          case measure => simp [intOf]; omega
        · have ht : (isum 0 r != isum 0 r0) = true := by simp [hs]
          have hr1 : Hid _ := Hst.out.2 hs
          clear Hst hs
          go_wp2_with fail
          go_quiet ((go_at_call 36; first | exact quiet_La (l28Sum_any _ _ _ r _ Hrow'.out) | exact quiet_La (l28Sum_any _ _ _ r0 _ Hrow.out)))
          go_wp2
          go_ret
          exact ⟨ret_bool (by rw [hg.out, hr1.out, Bool.and_false]), (by first | exact Drew.refl _ | exact Drew.mk _ _ | exact (Drew.mk _ _).drewN _)⟩
      · rw [drop_all xss k (by have := HL.out; omega)] at hr
        have hr1 : Hid _ := hr.out.symm
        clear hr hcell
        go_wp2_with (first | (go_at_call 40; refine (sIsMatrix_any _ _ _ xss _ (by first | exact H.out | exact H.out.drewN _)).mono ?_; rintro e w' ⟨rfl, rfl⟩))
        go_ret
        exact ⟨ret_bool (by rw [hg.out, hr1.out]; simp [sameSum]), (by first | exact Drew.refl _ | exact Drew.mk _ _ | exact (Drew.mk _ _).drewN _)⟩
end Go.Proofs.Ytcekenllpjhckaa
