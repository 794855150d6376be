/- SRankOf: a part of the proofs of this seat. -/
import Derived.Test.YtgcemkpinmjaeaaDoorProg
import Derived.Test.YtgcemkpinmjaeaaDoorThA
import Derived.Test.YtgcemkpinmjaeaaDoorSMinorsOf
namespace Go.Proofs.YtgcemkpinmjaeaaDoor
open Go.RowKit
set_option linter.all false
set_option maxHeartbeats 1600000 in
theorem sRankOf_any (p : Option Addr) (n c : Nat) (t : List (List Int)) (w : World) (h : Intss w p n t) :
    Calls Tryd.prog 15 #[.slice p n c] w fun e w' => e = .returned (.int .i64 (rankOf t)) ∧ Below w.heap.size w w' := by
  have hm := h.2.1
  have HL : Hid (t.length = n) := h.1
  have H := Lib.hid h
  clear h
  cases hs : smith t
  · have hg : Hid (rankOf t = -1) := by show rankOf t = _; simp [rankOf, hs]
    go_enter Tryd.func15, Tryd.ntmps15
    go_wp2_with (first | (go_at_call 25; refine (sFits_any _ _ _ t _ H.out).mono ?_; rintro e w' ⟨rfl, rfl⟩))
    go_ret
    exact ⟨ret_int hg.out.symm, Below.refl _ _⟩
  have hn4 : n ≤ 4 := by have := smith_len hs; have := HL.out; omega
  have HG : Hid (rankOf t = (rankF t t.length : Int)) := by show rankOf t = _; simp [rankOf, hs]
  have HV : Hid (∀ i : Nat, i < n → minorsOf t ((i : Int) + 1) = minorsI t (i + 1)) := by
    intro i hi
    have e : (i : Int) + 1 = ((i + 1 : Nat) : Int) := by omega
    rw [e]
    simp only [minorsOf, HL.out, hs, inR_mk (x := ((i + 1 : Nat) : Int)) (lo := 0) (hi := n) ⟨by omega, by omega⟩, Bool.and_self, if_true, Int.toNat_natCast]
  go_enter Tryd.func15, Tryd.ntmps15
  go_wp2_with (first | (go_at_call 25; refine (sFits_any _ _ _ t _ H.out).mono ?_; rintro e w' ⟨rfl, rfl⟩))
  go_loopw [3] (fun x wr => ∃ i : Nat, i ≤ n ∧ x = .int .i64 i ∧ Below w.heap.size w wr ∧ Hid (i = 0 ∨ minorsI t i ≠ 0)) (fun x _ => n - (intOf x).toNat)
  case atStart => exact ⟨0, Nat.zero_le _, rfl, Below.refl _ _, .inl rfl⟩
  case round =>
    obtain ⟨i, hi, rfl, hbl, hr⟩ := hrel
    have Hbl := Lib.hid hbl
    clear hbl
    by_cases hlt : i < n
    · by_cases hz : minorsI t (i + 1) = 0
      · have hv : (minorsOf t ((i : Int) + 1) != 0) = false := by rw [HV.out i hlt]; simp [hz]
        have hfin : Hid (rankF t t.length = i) := rank_up (by have := HL.out; omega) (by have := HL.out; omega) hr.out (.inr hz)
        clear hz hr
        go_wp2_with (first | (go_at_call 13; refine (sMinorsOf_any _ _ _ t _ _ (H.out.keep Hbl.out)).mono ?_; rintro e w1 ⟨rfl, hb1⟩; have Hb1 := Lib.hid (Hbl.out.trans (hb1.mono Hbl.out.size)); clear hb1))
        go_ret
        exact ⟨ret_int (by rw [HG.out, hfin.out]), Hb1.out⟩
      · have hv : (minorsOf t ((i : Int) + 1) != 0) = true := by rw [HV.out i hlt]; simp [hz]
        have hr1 : Hid (i + 1 = 0 ∨ minorsI t (i + 1) ≠ 0) := .inr hz
        clear hz hr
        go_wp2_with (first | (go_at_call 13; refine (sMinorsOf_any _ _ _ t _ _ (H.out.keep Hbl.out)).mono ?_; rintro e w1 ⟨rfl, hb1⟩; have Hb1 := Lib.hid (Hbl.out.trans (hb1.mono Hbl.out.size)); clear hb1))
        go_roundw
        case rel => exact ⟨i + 1, hlt, by go_num, Hb1.out, hr1⟩
        case measure => simp [intOf]; omega
    · have hfin : Hid (rankF t t.length = i) := rank_up (by have := HL.out; omega) (by have := HL.out; omega) hr.out (.inl (by have := HL.out; omega))
      clear hr
      go_wp2_with fail
      go_ret
      exact ⟨ret_int (by rw [HG.out, hfin.out]), Hbl.out⟩
end Go.Proofs.YtgcemkpinmjaeaaDoor
