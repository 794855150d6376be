/- IRankOf: a part of the proofs of this seat. -/
import Derived.Test.YtgcemkpinmjaeaaDoorProg
import Derived.Test.YtgcemkpinmjaeaaDoorThA
import Derived.Test.YtgcemkpinmjaeaaDoorIMinors
import Derived.Test.YtgcemkpinmjaeaaDoorIIsSmith
namespace Go.Proofs.YtgcemkpinmjaeaaDoor
open Go.RowKit
set_option linter.all false
set_option maxHeartbeats 1600000 in
theorem iRankOf_any (p : Option Addr) (n c : Nat) (t : List (List Int)) (w : World) (h : Intss w p n t) :
    Calls Tryd.prog 14 #[.slice p n c] w fun e w' => e = .returned (.int .i64 (rankOf t)) ∧ Below w.heap.size w w' := by
  have hm := h.2.1
  have HL : Hid (t.length = n) := h.1
  have H := Lib.hid h
  clear h
  cases hs : smith t
  · have hg : Hid (rankOf t = -1) := by show rankOf t = _; simp [rankOf, hs]
    go_enter Tryd.func14, Tryd.ntmps14
    go_wp2_with (first | (go_at_call 23; refine (iIsSmith_any _ _ _ t _ H.out).mono ?_; rintro e w' ⟨rfl, rfl⟩))
    go_ret
    exact ⟨ret_int hg.out.symm, Below.refl _ _⟩
  have hn4 : n ≤ 4 := by have := smith_len hs; have := HL.out; omega
  have HS := Lib.hid hs
  have HG : Hid (rankOf t = (rankF t n : Int)) := by show rankOf t = _; simp [rankOf, hs, HL.out]
  go_enter Tryd.func14, Tryd.ntmps14
  go_wp2_with (first | (go_at_call 23; refine (iIsSmith_any _ _ _ t _ H.out).mono ?_; rintro e w' ⟨rfl, rfl⟩))
  go_loopw [3] (fun x wr => ∃ i : Nat, i ≤ n ∧ x = .int .i64 i ∧ Below w.heap.size w wr ∧ Hid (rankF t i = rankF t n)) (fun x _ => (intOf x).toNat)
  case atStart => exact ⟨n, Nat.le_refl _, rfl, Below.refl _ _, rfl⟩
  case round =>
    obtain ⟨i, hi, rfl, hbl, hr⟩ := hrel
    have Hbl := Lib.hid hbl
    clear hbl
    cases hz : (minorsI t i == 0)
    · have hfin : Hid (rankF t n = i) := by
        have e := rankF_top (t := t) (r := i) (.inr (by simpa using hz))
        exact hr.out.symm.trans e
      go_wp2_with (first | (go_at_call 30; refine (iMinors_any _ _ _ t i _ (H.out.keep Hbl.out) HS.out hi).mono ?_; rintro e w1 ⟨rfl, hb1⟩; have Hb1 := Lib.hid (Hbl.out.trans (hb1.mono Hbl.out.size)); clear hb1))
      go_ret
      exact ⟨ret_int (by rw [HG.out, hfin.out]), Hb1.out⟩
    · have h0 : 0 < i := by
        rcases Nat.eq_zero_or_pos i with e | e
        · exfalso
          subst e
          have hz' : minorsI t 0 = 0 := by simpa using hz
          unfold minorsI at hz'
          rw [gcdAll_zero] at hz'
          have h1 : ([] : List Int) ∈ sets t.length 0 := by
            have h5 : t.length ≤ 4 := by have := HL.out; omega
            have h6 : ∀ m : Fin 5, ([] : List Int) ∈ sets m.val 0 := by decide
            exact h6 ⟨t.length, by omega⟩
          have := hz'.2 [] h1 [] h1
          simp [det] at this
        · exact e
      have hr1 : Hid (rankF t (i - 1) = rankF t n) := by
        obtain ⟨m, rfl⟩ : ∃ m, i = m + 1 := ⟨i - 1, by omega⟩
        have h1 := hr.out
        have e : rankF t (m + 1) = rankF t m := by
          show (if minorsI t (m + 1) = 0 then rankF t m else m + 1) = rankF t m
          rw [if_pos (by simpa using hz)]
        exact e.symm.trans h1
      go_wp2_with (first | (go_at_call 30; refine (iMinors_any _ _ _ t i _ (H.out.keep Hbl.out) HS.out hi).mono ?_; rintro e w1 ⟨rfl, hb1⟩; have Hb1 := Lib.hid (Hbl.out.trans (hb1.mono Hbl.out.size)); clear hb1))
      go_roundw
      case rel => exact ⟨i - 1, by omega, by go_num, Hb1.out, hr1⟩
      case measure => simp [intOf]; omega
end Go.Proofs.YtgcemkpinmjaeaaDoor
