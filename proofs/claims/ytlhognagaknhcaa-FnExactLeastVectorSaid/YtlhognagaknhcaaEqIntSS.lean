/- EqIntSS: a part of the proofs of this seat. -/
import Derived.Test.YtlhognagaknhcaaProg
import Derived.Test.YtlhognagaknhcaaMem2
import Derived.Test.YtlhognagaknhcaaEqIntS
namespace Go.Proofs.Ytlhognagaknhcaa
open Go.RowKit
set_option linter.all false
theorem eqL_step2 {α : Type} [DecidableEq α] {xs ys : List α} {k : Nat} {x y : α} (hx : xs[k]? = some x) (hy : ys[k]? = some y) {b : Bool} (h : eqL (xs.drop k) (ys.drop k) = b) :
    (x = y → eqL (xs.drop (k + 1)) (ys.drop (k + 1)) = b) ∧ (x ≠ y → b = false) := by
  obtain ⟨h1, rfl⟩ := List.getElem?_eq_some_iff.1 hx
  obtain ⟨h2, rfl⟩ := List.getElem?_eq_some_iff.1 hy
  exact eqL_step h1 h2 h

set_option maxHeartbeats 800000 in
theorem eqIntSS_any (ao : Option Addr) (n cap : Nat) (xs : List (List Int)) (ao' : Option Addr) (n' cap' : Nat) (ys : List (List Int)) (w : World) (h : Intss w ao n xs) (h' : Intss w ao' n' ys) :
    Calls Try.prog 19 #[.slice ao n cap, .slice ao' n' cap'] w fun e w' => e = .returned (.bool (eqL xs ys)) ∧ Drew w w' := by
  have hm := h.2.1
  have hm' := h'.2.1
  have HX := Lib.hid h.1
  have HY := Lib.hid h'.1
  by_cases hl : n = n'
  · subst hl
    have hl1 : ((n : Int) != (n : Int)) = false := by simp
    have H := Lib.hid h
    have H' := Lib.hid h'
    clear h h'
    go_enter Try.func19, Try.ntmps19
    go_wp2
    go_loopw [5] (fun i wr => ∃ k : Nat, k ≤ n ∧ i = .int .i64 k ∧ Drew w wr ∧ Hid (eqL (xs.drop k) (ys.drop k) = eqL xs ys)) (fun i _ => n - (intOf i).toNat)
    case atStart => exact ⟨0, Nat.zero_le _, rfl, Drew.refl w, rfl⟩
    case round =>
      obtain ⟨k, hk, rfl, ⟨m, rfl⟩, hr⟩ := hrel
      by_cases hlt : k < n
      · obtain ⟨b, o, ai, ci, r, rfl, hcell, hrow, hget⟩ := H.out.at_ hlt
        obtain ⟨b', o', ai', ci', r', rfl, hcell', hrow', hget'⟩ := H'.out.at_ hlt
        clear H H'
        have Hst := Lib.hid (eqL_step2 hget.out hget'.out hr.out)
        have Hr := Lib.hid hrow
        have Hr' := Lib.hid hrow'
        clear hrow hrow' hr
        by_cases he : r = r'
        · have he1 : eqL r r' = true := eqL_true he
          have hr1 : Hid _ := Hst.out.1 he
          clear he Hst
          go_wp2_with fail
          go_quiet ((go_at_call 18; exact quiet_Da (eqIntS_any _ _ _ r _ _ _ r' _ Hr.out Hr'.out)))
          go_wp2
          go_roundw
          case rel => exact ⟨k + 1, hlt, by go_num, (by first | exact Drew.refl _ | exact Drew.mk _ _ | exact (Drew.mk _ _).drewN _), hr1⟩
          case measure => simp [intOf]; omega
        · have he1 : eqL r r' = false := eqL_false he
          have hr1 : Hid _ := Hst.out.2 he
          clear he Hst
          go_wp2_with fail
          go_quiet ((go_at_call 18; exact quiet_Da (eqIntS_any _ _ _ r _ _ _ r' _ Hr.out Hr'.out)))
          go_wp2
          go_ret
          exact ⟨ret_bool hr1.out.symm, (by first | exact Drew.refl _ | exact Drew.mk _ _ | exact (Drew.mk _ _).drewN _)⟩
      · go_wp2
        go_ret
        rw [eqL_nil (by have := HX.out; omega) (by have := HY.out; omega)] at hr
        exact ⟨ret_bool hr.out, (by first | exact Drew.refl _ | exact Drew.mk _ _ | exact (Drew.mk _ _).drewN _)⟩
  · have hl1 : ((n : Int) != (n' : Int)) = true := by simp; omega
    have HL : Hid _ := eqL_len (xs := xs) (ys := ys) (by have := HX.out; have := HY.out; omega)
    clear hl h h'
    go_enter Try.func19, Try.ntmps19
    go_wp2
    go_ret
    exact ⟨ret_bool HL.out.symm, Drew.refl w⟩
end Go.Proofs.Ytlhognagaknhcaa
