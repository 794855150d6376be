/- ILeast: a part of the proofs of this seat. -/
import Derived.Test.YtlhognagaknhcaaProg
import Derived.Test.YtlhognagaknhcaaLeast
import Derived.Test.YtlhognagaknhcaaIGreatest
namespace Go.Proofs.Ytlhognagaknhcaa
open Go.RowKit
set_option linter.all false
set_option maxHeartbeats 1600000 in
theorem iLeast_any (p : Option Addr) (n c : Nat) (m : List (List Int)) (a : Int) (w : World) (h : Intss w p n m) :
    Calls Try.prog 24 #[.slice p n c, .int .i64 a] w fun e w' => ∃ v, e = .returned (.tuple #[v, .bool (least m a)]) ∧ OInts w' w.heap.size v (leastV m a).length (leastV m a) ∧ Below w.heap.size w w' := by
  have H := Lib.hid h
  clear h
  go_enter Try.func24, Try.ntmps24
  go_wp2_with fail
  go_loopw [6] (fun x wr => ∃ k : Nat, 1 ≤ k ∧ k ≤ 10 ∧ x = .int .i64 k ∧ Hid (leastFrom m a (10 - k) k = leastO m a) ∧ Below w.heap.size w wr) (fun x _ => 10 - (intOf x).toNat)
  case atStart => exact ⟨1, by omega, by omega, rfl, rfl, Below.refl _ _⟩
  case round =>
    obtain ⟨k, hk1, hk2, rfl, hl, hb⟩ := hrel
    have HB := Lib.hid hb
    have HM := Lib.hid (H.out.keep hb)
    clear hb
    by_cases hlt : k ≤ 9
    · cases hg : great m a (k : Int)
      · go_wp2_with (go_at_call 17; refine (iGreatest_any _ _ _ m a k _ HM.out).mono ?_; rintro e w1 ⟨v1, rfl, ho1, hb1⟩; have Ho1 := Lib.hid ho1; have Hb1 := Lib.hid hb1; clear ho1 hb1)
        go_roundw
        case rel => exact ⟨k + 1, by omega, by omega, by go_num, least_next hlt hl hg, step2 HB.out Hb1.out⟩
        case measure => simp [intOf]; omega
      · have HL := Lib.hid (least_at hlt hl hg)
        go_wp2_with (go_at_call 17; refine (iGreatest_any _ _ _ m a k _ HM.out).mono ?_; rintro e w1 ⟨v1, rfl, ho1, hb1⟩; have Ho1 := Lib.hid ho1; have Hb1 := Lib.hid hb1; clear ho1 hb1)
        go_ret2
        rw [HL.out.1, HL.out.2]
        exact ⟨_, rfl, Ho1.out.mono HB.out.size, step2 HB.out Hb1.out⟩
    · have e : k = 10 := by omega
      have HL := Lib.hid (least_end e hl)
      go_wp2_with fail
      go_ret2
      rw [HL.out.1, HL.out.2]
      exact ⟨_, rfl, OInts.none_ _ _, HB.out⟩
end Go.Proofs.Ytlhognagaknhcaa
