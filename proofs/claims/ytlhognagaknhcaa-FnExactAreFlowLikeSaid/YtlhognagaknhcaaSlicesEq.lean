/- SlicesEq: a part of the proofs of this seat. -/
import Derived.Test.YtlhognagaknhcaaProg
import Derived.Test.YtlhognagaknhcaaBase
namespace Go.Proofs.Ytlhognagaknhcaa
open Go.RowKit
set_option linter.all false
set_option maxHeartbeats 400000 in
theorem slicesEqual_any (ao : Option Addr) (n cap : Nat) (xs : List Int) (ao' : Option Addr) (n' cap' : Nat) (ys : List Int) (w : World) (h : Ints w ao n xs) (h' : Ints w ao' n' ys) :
    Calls Try.prog 55 #[.slice ao n cap, .slice ao' n' cap'] w fun e w' => e = .returned (.bool (eqL xs ys)) ∧ Drew w w' := by
  obtain ⟨hn, hm, hc⟩ := h
  obtain ⟨hn', hm', hc'⟩ := h'
  subst hn
  subst hn'
  by_cases hl : xs.length = ys.length
  · have HL := Lib.hid hl
    have hl1 : ((xs.length : Int) != (ys.length : Int)) = false := by simp [hl]
    clear hl
    go_enter Try.func55, Try.ntmps55
    go_wp2
    go_loopw [13] (fun i wr => ∃ k : Nat, k ≤ xs.length ∧ i = .int .i64 k ∧ Drew w wr ∧ Hid (eqL (xs.drop k) (ys.drop k) = eqL xs ys)) (fun i _ => xs.length - (intOf i).toNat)
    case atStart => exact ⟨0, Nat.zero_le _, rfl, Drew.refl w, rfl⟩
    case round =>
      obtain ⟨k, hk, rfl, ⟨m, rfl⟩, hr⟩ := hrel
      by_cases hlt : k < xs.length
      · have hlt' : k < ys.length := by have := HL.out; omega
        obtain ⟨b, o, rfl, hcell⟩ := hc k hlt
        obtain ⟨b', o', rfl, hcell'⟩ := hc' k hlt'
        clear hc hc'
        have hst := eqL_step hlt hlt' hr.out
        have Hst := Lib.hid hst
        clear hst
        by_cases he : xs[k] = ys[k]
        · have he1 : (xs[k] != ys[k]) = false := by simp [he]
          have hr1 : Hid _ := Hst.out.1 he
          clear he Hst hr
          go_wp2_with fail
          go_quiet (fail)
          go_wp2
          go_roundw
          case rel => exact ⟨k + 1, hlt, by go_num, (by first | exact Drew.refl _ | exact Drew.mk _ _ | exact (Drew.mk _ _).drewN _), hr1⟩
          case measure => simp [intOf]; omega
        · have he1 : (xs[k] != ys[k]) = true := by simp [he]
          have hr1 : Hid _ := Hst.out.2 he
          clear he Hst hr
          go_wp2_with fail
          go_quiet (fail)
          go_wp2
          go_ret
          exact ⟨ret_bool hr1.out.symm, (by first | exact Drew.refl _ | exact Drew.mk _ _ | exact (Drew.mk _ _).drewN _)⟩
      · go_wp2
        go_ret
        rw [eqL_nil (by omega) (by have := HL.out; omega)] at hr
        exact ⟨ret_bool hr.out, (by first | exact Drew.refl _ | exact Drew.mk _ _ | exact (Drew.mk _ _).drewN _)⟩
  · have hl1 : ((xs.length : Int) != (ys.length : Int)) = true := by simp; omega
    have HL : Hid _ := eqL_len hl
    clear hl
    go_enter Try.func55, Try.ntmps55
    go_wp2
    go_ret
    exact ⟨ret_bool HL.out.symm, Drew.refl w⟩
end Go.Proofs.Ytlhognagaknhcaa
