/- The same, as the program asks it. -/
import Derived.Test.YtjkpndhfdlnpdaaProg
import Derived.Test.YtjkpndhfdlnpdaaSIsChance
namespace Go.Proofs.Ytjkpndhfdlnpdaa
open Go.RowKit
set_option linter.all false
def rowD (n : Nat) (s : Int) (r : List Int) : Bool := decide (r.length = n) && (allIn 0 60 r && (!decide (isum 0 r < 1) && decide (isum 0 r = s)))
def tabD (n : Nat) (s : Int) (xss : List (List Int)) : Bool := xss.all (rowD n s)
theorem tabD_step {n : Nat} {s : Int} {xss : List (List Int)} {k : Nat} {r : List Int} {b : Bool} (hk : xss[k]? = some r) (h : tabD n s (xss.drop k) = b) :
    (rowD n s r = false → b = false) ∧ (rowD n s r = true → tabD n s (xss.drop (k + 1)) = b) := by
  rw [drop_of_get hk] at h
  generalize List.drop (k + 1) xss = q at *
  refine ⟨fun e => ?_, fun e => ?_⟩
  · simpa [tabD, e] using h.symm
  · simpa [tabD, e] using h
theorem rowD_len {n : Nat} {s : Int} {r : List Int} (h : r.length ≠ n) : rowD n s r = false := by simp [rowD, h]
theorem rowD_in {n : Nat} {s : Int} {r : List Int} (h : allIn 0 60 r = false) : rowD n s r = false := by simp [rowD, h]
theorem rowD_sum {n : Nat} {s : Int} {r : List Int} (h : isum 0 r < 1 ∨ isum 0 r ≠ s) : rowD n s r = false := by
  rcases h with h | h
  · simp [rowD, h]
  · simp [rowD, h]
theorem rowD_yes {n : Nat} {s : Int} {r : List Int} (h1 : r.length = n) (h2 : allIn 0 60 r = true) (h3 : ¬ isum 0 r < 1) (h4 : isum 0 r = s) : rowD n s r = true := by
  simp only [rowD, h1, h2, h4]
  rw [h4] at h3
  simp [h3]
/-- Both tests say one thing. -/
theorem chance_same {n : Nat} {s : Int} {xss : List (List Int)} (hn : 0 < xss.length) (h0 : isum 0 (xss.getD 0 []) = s) : tabC n s xss = (tabD n s xss && decide (s ≤ 60)) := by
  by_cases hs : s ≤ 60
  · simp only [hs, decide_true, Bool.and_true]
    unfold tabC tabD
    congr 1
    funext r
    unfold rowC rowD
    by_cases he : isum 0 r = s
    · have h2 : inR s 1 60 = (!decide (s < 1)) := by
        by_cases h1 : s < 1
        · rw [inR_no (.inl h1)]; simp [h1]
        · rw [inR_mk ⟨by omega, hs⟩]; simp [h1]
      rw [he, h2]
      simp
    · simp [he]
  · have hf : tabC n s xss = false := by
      match xss, hn, h0 with
      | r :: rs, _, h0 =>
        simp at h0
        have : rowC n s r = false := rowC_sum (.inr (by rw [h0]; exact inR_no (.inr (by omega))))
        simp [tabC, this]
    rw [hf]
    simp [hs]

set_option maxHeartbeats 1600000 in
theorem iIsChance_any (ao : Option Addr) (n cap : Nat) (xss : List (List Int)) (w : World) (h : Intss w ao n xss) :
    Calls Try.prog 59 #[.slice ao n cap] w fun e w' => e = .returned (.bool (isChance xss)) ∧ w = w' := by
  have hm := h.2.1
  have HL := Lib.hid h.1
  have H := Lib.hid h
  have hg0 : Hid (isChance xss = (tabC n (isum 0 (xss.getD 0 [])) xss && inR n 1 4)) := by show isChance xss = _; unfold isChance; rw [h.1]
  by_cases h1 : n < 1
  · have hg : Hid (isChance xss = false) := by show isChance xss = _; rw [hg0.out, inR_no (.inl (by omega))]; simp
    have hd : decide ((n : Int) < 1) = true := by simp; omega
    clear h H hg0
    go_enter Try.func59, Try.ntmps59
    go_wp2
    go_ret
    exact ⟨ret_bool hg.out.symm, rfl⟩
  · by_cases h4 : 4 < n
    · have hg : Hid (isChance xss = false) := by show isChance xss = _; rw [hg0.out, inR_no (.inr (by omega))]; simp
      have hd : decide ((n : Int) < 1) = false := by simp; omega
      clear h H hg0
      go_enter Try.func59, Try.ntmps59
      go_wp2
      go_ret
      exact ⟨ret_bool hg.out.symm, rfl⟩
    · obtain ⟨b, o, a0, c0, r0, rfl, hcell, hrow, hget⟩ := h.at_ (k := 0) (by omega)
      rw [Nat.add_zero] at hcell
      have Hrow := Lib.hid hrow
      have hg : Hid (isChance xss = (tabD n (isum 0 r0) xss && decide (isum 0 r0 ≤ 60))) := by
        show isChance xss = _
        have e0 : xss.getD 0 [] = r0 := by rw [List.getD, hget.out]; rfl
        rw [hg0.out, inR_mk ⟨by omega, by omega⟩, Bool.and_true, e0]
        exact chance_same (by have := HL.out; omega) (by rw [e0])
      have hd : decide ((n : Int) < 1) = false := by simp; omega
      clear hrow h hg0
      go_enter Try.func59, Try.ntmps59
      go_wp2
      go_loop [18] (fun i => ∃ k : Nat, k ≤ n ∧ i = .int .i64 k ∧ Hid (tabD n (isum 0 r0) (xss.drop k) = tabD n (isum 0 r0) xss)) (fun i => n - (intOf i).toNat)
      case atStart => exact ⟨0, Nat.zero_le _, rfl, rfl⟩
      case round =>
        obtain ⟨k, hk, rfl, hr⟩ := hrel
        by_cases hlt : k < n
        · obtain ⟨b', o', ai, ci, r, e', hcell', hrow', hget'⟩ := H.out.at_ hlt
          injection e' with e'
          injection e' with e1 e2
          subst e1
          subst e2
          have Hrow' := Lib.hid hrow'
          have Hst := Lib.hid (tabD_step hget'.out hr.out)
          clear hrow' H hr
          by_cases hrl : r.length = n
          · have hne : ((r.length : Int) != (n : Int)) = false := by simp [hrl]
            have hrl1 : r.length ≤ n := by omega
            have hrl2 : n ≤ r.length := by omega
            have HRL := Lib.hid hrl
            clear hrl
            go_wp2
            go_loop [29] (fun i => ∃ j : Nat, j ≤ r.length ∧ i = .int .i64 j ∧ Hid (allIn 0 60 (r.drop j) = allIn 0 60 r)) (fun i => n - (intOf i).toNat)
            case atStart => exact ⟨0, Nat.zero_le _, rfl, rfl⟩
            case round =>
              obtain ⟨j, hj, rfl, hrj⟩ := hrel
              by_cases hjr : j < r.length
              · obtain ⟨b', o', x, rfl, hcell3, hget3⟩ := Hrow'.out.at_ (k := j) hjr
                have Hsj := Lib.hid (allIn_step hget3.out hrj.out)
                clear hrj Hrow Hrow'
                by_cases h0 : x < 0
                · have hr1 : Hid _ := Hst.out.1 (rowD_in (Hsj.out.2 (inR_no (.inl h0))))
                  clear Hst Hsj
                  have hx : decide (x < 0) = true := by simpa using h0
                  go_wp2
                  go_ret
                  exact ⟨ret_bool (by rw [hg.out, hr1.out]; rfl), rfl⟩
                · have hx : decide (x < 0) = false := by simpa using h0
                  by_cases h2 : 60 < x
                  · have hr1 : Hid _ := Hst.out.1 (rowD_in (Hsj.out.2 (inR_no (.inr h2))))
                    clear Hst Hsj
                    go_wp2
                    go_ret
                    exact ⟨ret_bool (by rw [hg.out, hr1.out]; rfl), rfl⟩
                  · have hr1 : Hid _ := Hsj.out.1 (inR_mk ⟨by omega, by omega⟩)
                    clear Hst Hsj
                    go_wp2
                    go_round
                    case rel => exact ⟨j + 1, hjr, by go_num, hr1⟩
                    case measure => simp [intOf]; omega
              · have hin : Hid (allIn 0 60 r = true) := by have := hrj.out; rw [drop_all r j (by omega)] at this; exact this.symm
                clear hrj
                by_cases hs1 : isum 0 r < 1
                · have hr1 : Hid _ := Hst.out.1 (rowD_sum (.inl hs1))
                  have hd1 : decide (isum 0 r < 1) = true := by simpa using hs1
                  clear Hst
                  go_wp2_with (first | (go_at_call 67; refine (total_any _ _ _ r _ Hrow'.out).mono ?_; rintro e w' ⟨rfl, rfl⟩))
                  go_ret
                  exact ⟨ret_bool (by rw [hg.out, hr1.out]; rfl), rfl⟩
                · have hd1 : decide (isum 0 r < 1) = false := by simpa using hs1
                  by_cases hs : isum 0 r = isum 0 r0
                  · have ht : (isum 0 r != isum 0 r0) = false := by simp [hs]
                    have hr1 : Hid _ := Hst.out.2 (rowD_yes HRL.out hin.out hs1 hs)
                    clear Hst hs
                    go_wp2_with fail
                    refine (total_any _ _ _ r _ Hrow'.out).mono ?_
                    rintro e w' ⟨rfl, rfl⟩
                    go_wp2_with fail
                    refine (total_any _ _ _ r0 _ Hrow.out).mono ?_
                    rintro e w' ⟨rfl, rfl⟩
                    go_wp2_with fail
                    go_round
                    case rel => exact ⟨k + 1, hlt, by go_num, hr1⟩
                    case measure => simp [intOf]; omega
                  · have ht : (isum 0 r != isum 0 r0) = true := by simp [hs]
                    have hr1 : Hid _ := Hst.out.1 (rowD_sum (.inr hs))
                    clear Hst hs
                    go_wp2_with fail
                    refine (total_any _ _ _ r _ Hrow'.out).mono ?_
                    rintro e w' ⟨rfl, rfl⟩
                    go_wp2_with fail
                    refine (total_any _ _ _ r0 _ Hrow.out).mono ?_
                    rintro e w' ⟨rfl, rfl⟩
                    go_wp2_with fail
                    go_ret
                    exact ⟨ret_bool (by rw [hg.out, hr1.out]; rfl), rfl⟩
          · have hne : ((r.length : Int) != (n : Int)) = true := by simp; omega
            have hr1 : Hid _ := Hst.out.1 (rowD_len hrl)
            clear Hst hrl
            go_wp2
            go_ret
            exact ⟨ret_bool (by rw [hg.out, hr1.out]; rfl), rfl⟩
        · rw [drop_all xss k (by have := HL.out; omega)] at hr
          have hr1 : Hid _ := hr.out.symm
          clear hr H
          have h0n : 0 < n := by omega
          go_wp2_with (first | (go_at_call 67; refine (total_any _ _ _ r0 _ Hrow.out).mono ?_; rintro e w' ⟨rfl, rfl⟩))
          go_ret
          exact ⟨ret_bool (by rw [hg.out, hr1.out]; rfl), rfl⟩
end Go.Proofs.Ytjkpndhfdlnpdaa
