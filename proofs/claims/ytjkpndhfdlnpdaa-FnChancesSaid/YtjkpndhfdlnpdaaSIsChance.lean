/- A row of a chance table whose first row has the sum s. -/
import Derived.Test.YtjkpndhfdlnpdaaProg
import Derived.Test.YtjkpndhfdlnpdaaBase
import Derived.Test.YtjkpndhfdlnpdaaL28Sum
namespace Go.Proofs.Ytjkpndhfdlnpdaa
open Go.RowKit
set_option linter.all false
def rowC (n : Nat) (s : Int) (r : List Int) : Bool := decide (r.length = n) && (allIn 0 60 r && (decide (isum 0 r = s) && inR (isum 0 r) 1 60))
def tabC (n : Nat) (s : Int) (xss : List (List Int)) : Bool := xss.all (rowC n s)
def isChance (xss : List (List Int)) : Bool := tabC xss.length (isum 0 (xss.getD 0 [])) xss && inR xss.length 1 4
theorem tabC_step {n : Nat} {s : Int} {xss : List (List Int)} {k : Nat} {r : List Int} {b : Bool} (hk : xss[k]? = some r) (h : tabC n s (xss.drop k) = b) :
    (rowC n s r = false → b = false) ∧ (rowC n s r = true → tabC n s (xss.drop (k + 1)) = b) := by
  rw [drop_of_get hk] at h
  generalize List.drop (k + 1) xss = q at *
  refine ⟨fun e => ?_, fun e => ?_⟩
  · simpa [tabC, e] using h.symm
  · simpa [tabC, e] using h
theorem rowC_len {n : Nat} {s : Int} {r : List Int} (h : r.length ≠ n) : rowC n s r = false := by simp [rowC, h]
theorem rowC_in {n : Nat} {s : Int} {r : List Int} (h : allIn 0 60 r = false) : rowC n s r = false := by simp [rowC, h]
theorem rowC_sum {n : Nat} {s : Int} {r : List Int} (h : isum 0 r ≠ s ∨ inR (isum 0 r) 1 60 = false) : rowC n s r = false := by rcases h with h | h <;> simp [rowC, h]
theorem rowC_yes {n : Nat} {s : Int} {r : List Int} (h1 : r.length = n) (h2 : allIn 0 60 r = true) (h3 : isum 0 r = s) (h4 : inR (isum 0 r) 1 60 = true) : rowC n s r = true := by
  simp only [rowC, h1, h2, h3]
  rw [h3] at h4
  simp [h4]

set_option maxHeartbeats 1600000 in
theorem sIsChance_any (ao : Option Addr) (n cap : Nat) (xss : List (List Int)) (w : World) (h : Intss w ao n xss) :
    Calls Try.prog 60 #[.slice ao n cap] w fun e w' => e = .returned (.bool (isChance xss)) ∧ Drew w w' := by
  have hm := h.2.1
  have HL := Lib.hid h.1
  have H := Lib.hid h
  by_cases hn0 : n = 0
  · subst hn0
    have hg : Hid (isChance xss = false) := by show isChance xss = _; unfold isChance; rw [h.1]; simp [inR]
    have hf : inR 0 1 4 = false := by simp [inR]
    clear h
    go_enter Try.func60, Try.ntmps60
    go_wp2
    go_loop [3] (fun i => i = .int .i64 0) (fun _ => 0)
    case atStart => rfl
    case round =>
      obtain rfl := hrel
      go_wp2_with (first | (go_at_call 65; refine (l1In_any _ _ _ _).mono ?_; rintro e w' ⟨rfl, rfl⟩))
      go_ret
      exact ⟨ret_bool hg.out.symm, Drew.refl w⟩
  · obtain ⟨b, o, a0, c0, r0, rfl, hcell, hrow, hget⟩ := h.at_ (k := 0) (by omega)
    rw [Nat.add_zero] at hcell
    have Hrow := Lib.hid hrow
    have hg : Hid (isChance xss = (tabC n (isum 0 r0) xss && inR n 1 4)) := by
      show isChance xss = _
      unfold isChance
      have : xss.getD 0 [] = r0 := by rw [List.getD, hget.out]; rfl
      rw [this, h.1]
    clear hrow h hn0
    go_enter Try.func60, Try.ntmps60
    go_wp2
    go_loopw [3] (fun i wr => ∃ k : Nat, k ≤ n ∧ i = .int .i64 k ∧ Drew w wr ∧ Hid (tabC n (isum 0 r0) (xss.drop k) = tabC n (isum 0 r0) xss)) (fun i _ => n - (intOf i).toNat)
    case atStart => exact ⟨0, Nat.zero_le _, rfl, Drew.refl w, rfl⟩
    case round =>
      obtain ⟨k, hk, rfl, ⟨m, rfl⟩, hr⟩ := hrel
      by_cases hlt : k < n
      · obtain ⟨b', o', ai, ci, r, e', hcell', hrow', hget'⟩ := H.out.at_ hlt
        injection e' with e'
        injection e' with e1 e2
        subst e1
        subst e2
        have Hrow' := Lib.hid hrow'
        have Hst := Lib.hid (tabC_step hget'.out hr.out)
        clear hrow' H hr
        by_cases hrl : r.length = n
        · have hne : ((r.length : Int) != (n : Int)) = false := by simp [hrl]
          have hrl1 : r.length ≤ n := by omega
          have hrl2 : n ≤ r.length := by omega
          have HRL := Lib.hid hrl
          clear hrl
          go_wp2
          go_loop [4] (fun i => ∃ j : Nat, j ≤ n ∧ i = .int .i64 j ∧ Hid (allIn 0 60 (r.drop j) = allIn 0 60 r)) (fun i => n - (intOf i).toNat)
          case atStart => exact ⟨0, Nat.zero_le _, rfl, rfl⟩
          case round =>
            obtain ⟨j, hj, rfl, hrj⟩ := hrel
            by_cases hjn : j < n
            · obtain ⟨b', o', x, rfl, hcell3, hget3⟩ := Hrow'.out.at_ (k := j) (by omega)
              have hjr : j < r.length := by omega
              have Hsj := Lib.hid (allIn_step hget3.out hrj.out)
              clear hrj Hrow Hrow'
              cases hi : inR x 0 60
              · have hr1 : Hid _ := Hst.out.1 (rowC_in (Hsj.out.2 hi))
                clear Hst Hsj
                go_wp2_with (first | (go_at_call 65; refine (l1In_any _ _ _ _).mono ?_; rintro e w' ⟨rfl, rfl⟩))
                go_ret
                exact ⟨ret_bool (by rw [hg.out, hr1.out]; rfl), (by first | exact Drew.refl _ | exact Drew.mk _ _ | exact (Drew.mk _ _).drewN _)⟩
              · have hr1 : Hid _ := Hsj.out.1 hi
                clear Hst Hsj
                go_wp2_with (first | (go_at_call 65; refine (l1In_any _ _ _ _).mono ?_; rintro e w' ⟨rfl, rfl⟩))
                go_round
                case rel => exact ⟨j + 1, hjn, by go_num, hr1⟩
                case measure => simp [intOf]; omega
            · have hin : Hid (allIn 0 60 r = true) := by have := hrj.out; rw [drop_all r j (by omega)] at this; exact this.symm
              clear hrj
              by_cases hs : isum 0 r = isum 0 r0
              · have ht : (isum 0 r != isum 0 r0) = false := by simp [hs]
                cases hi : inR (isum 0 r) 1 60
                · have hr1 : Hid _ := Hst.out.1 (rowC_sum (.inr hi))
                  clear Hst hs
                  go_wp2_with fail
                  go_quiet ((first | (go_at_call 65; first | exact quiet_La (l1In_any _ _ _ _)) | (go_at_call 66; first | exact quiet_La (l28Sum_any _ _ _ r _ Hrow'.out) | exact quiet_La (l28Sum_any _ _ _ r0 _ Hrow.out))))
                  go_wp2
                  go_ret
                  exact ⟨ret_bool (by rw [hg.out, hr1.out]; rfl), (by first | exact Drew.refl _ | exact Drew.mk _ _ | exact (Drew.mk _ _).drewN _)⟩
                · have hr1 : Hid _ := Hst.out.2 (rowC_yes HRL.out hin.out hs hi)
                  clear Hst hs
                  go_wp2_with fail
                  go_quiet ((first | (go_at_call 65; first | exact quiet_La (l1In_any _ _ _ _)) | (go_at_call 66; first | exact quiet_La (l28Sum_any _ _ _ r _ Hrow'.out) | exact quiet_La (l28Sum_any _ _ _ r0 _ Hrow.out))))
                  go_wp2
                  go_roundw
                  case rel => exact ⟨k + 1, hlt, by go_num, (by first | exact Drew.refl _ | exact Drew.mk _ _ | exact (Drew.mk _ _).drewN _), hr1⟩
                  case measure => simp [intOf]; omega
              · have ht : (isum 0 r != isum 0 r0) = true := by simp [hs]
                have hr1 : Hid _ := Hst.out.1 (rowC_sum (.inl hs))
                clear Hst hs
                go_wp2_with fail
                go_quiet ((go_at_call 66; first | exact quiet_La (l28Sum_any _ _ _ r _ Hrow'.out) | exact quiet_La (l28Sum_any _ _ _ r0 _ Hrow.out)))
                go_wp2
                go_ret
                exact ⟨ret_bool (by rw [hg.out, hr1.out]; rfl), (by first | exact Drew.refl _ | exact Drew.mk _ _ | exact (Drew.mk _ _).drewN _)⟩
        · have hne : ((r.length : Int) != (n : Int)) = true := by simp; omega
          have hr1 : Hid _ := Hst.out.1 (rowC_len hrl)
          clear Hst hrl
          go_wp2
          go_ret
          exact ⟨ret_bool (by rw [hg.out, hr1.out]; rfl), (by first | exact Drew.refl _ | exact Drew.mk _ _ | exact (Drew.mk _ _).drewN _)⟩
      · rw [drop_all xss k (by have := HL.out; omega)] at hr
        have hr1 : Hid _ := hr.out.symm
        clear hr H
        go_wp2_with (first | (go_at_call 65; refine (l1In_any _ _ _ _).mono ?_; rintro e w' ⟨rfl, rfl⟩))
        go_ret
        exact ⟨ret_bool (by rw [hg.out, hr1.out]; rfl), (by first | exact Drew.refl _ | exact Drew.mk _ _ | exact (Drew.mk _ _).drewN _)⟩
end Go.Proofs.Ytjkpndhfdlnpdaa
