/- MarkIntS: a part of the proofs of this seat. -/
import Derived.Test.YtlhognagaknhcaaProg
import Derived.Test.YtlhognagaknhcaaMarks
namespace Go.Proofs.Ytlhognagaknhcaa
open Go.RowKit
set_option linter.all false
set_option maxHeartbeats 800000 in
theorem markIntS_any (ao : Option Addr) (n cap : Nat) (xs : List Int) (k : Int) (lo : Nat) (w : World) (h : OInts w lo (.slice ao n cap) n xs) (h0 : 0 ≤ k) (h1 : k ≤ 1099511627776) :
    Calls Try.prog 21 #[.slice ao n cap, .int .i64 k] w fun e w' => e = .returned (.int .i64 (k + n)) ∧ OInts w' lo (.slice ao n cap) n (marks k n) ∧ w.grownBy w' (Value.slice ao n cap).ownBlock := by
  have hm := h.1
  have HX := Lib.hid h.len
  rcases h.two with ⟨rfl, rfl⟩ | ⟨g, rfl⟩
  · have e : xs = [] := List.eq_nil_of_length_eq_zero HX.out
    subst e
    have H := Lib.hid h
    clear h
    go_enter Try.func21, Try.ntmps21
    go_wp2
    go_loop [1, 5] (fun s i => i = .int .i64 0 ∧ s = .int .i64 k) (fun _ _ => 0)
    case atStart => exact ⟨rfl, rfl⟩
    case round =>
      obtain ⟨rfl, rfl⟩ := hrel
      go_wp2
      go_ret
      exact ⟨ret_int (by simp), H.out, World.grownBy.refl _ _⟩
  · have H := Lib.hid h
    clear h
    go_enter Try.func21, Try.ntmps21
    go_wp2
    go_loopw [1, 5] (fun s i wr => ∃ j : Nat, j ≤ n ∧ i = .int .i64 j ∧ s = .int .i64 (k + j) ∧ OInts wr lo (.slice (some ⟨g, 0, none⟩) n cap) n ((marks k n).take j ++ xs.drop j) ∧ w.grownBy wr (some g)) (fun _ i _ => n - (intOf i).toNat)
    case atStart => exact ⟨0, Nat.zero_le _, rfl, by simp, by simpa using H.out, World.grownBy.refl _ _⟩
    case round =>
      obtain ⟨j, hj, rfl, rfl, hown, hg⟩ := hrel
      clear H
      by_cases hlt : j < n
      · have hc := hown.cell j hlt
        have hf := hown.frozen j
        have hx : xs[j]? = some (xs.getD j 0) := by simp [List.getD, HX.out, hlt]
        have hs := hown.set j (k + j)
        rw [mix_set hx (marks_get hlt)] at hs
        have hg' := only_setCell hg (p := ⟨g, j, none⟩) rfl (.int .i64 (k + j))
        clear hown hg hx
        go_wp2
        go_roundw
        case rel => exact ⟨j + 1, hlt, by go_num, by go_num, hs, hg'⟩
        case measure => simp [intOf]; omega
      · have e : j = n := by omega
        subst e
        rw [mix_end (marks_len k j) HX.out] at hown
        have Ho := Lib.hid hown
        clear hown
        go_wp2
        go_ret
        exact ⟨rfl, Ho.out, hg⟩
end Go.Proofs.Ytlhognagaknhcaa
