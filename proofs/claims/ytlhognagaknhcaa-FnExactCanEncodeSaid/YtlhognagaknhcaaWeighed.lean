/- Weighed: a part of the proofs of this seat. -/
import Derived.Test.YtlhognagaknhcaaProg
import Derived.Test.YtlhognagaknhcaaBase
namespace Go.Proofs.Ytlhognagaknhcaa
open Go.RowKit
set_option linter.all false
set_option maxHeartbeats 800000 in
theorem weighed_any (p : Option Addr) (n c : Nat) (r : List Int) (p' : Option Addr) (n' c' : Nat) (v : List Int) (w : World) (h : Ints w p n r) (h' : Ints w p' n' v) (hl : n ≤ n') :
    Calls Try.prog 54 #[.slice p n c, .slice p' n' c'] w fun e w' => e = .returned (.int .i64 (wdot 0 r v)) ∧ w = w' := by
  have hm := h.2.1
  have hm' := h'.2.1
  have HL := Lib.hid h.1
  have H := Lib.hid h
  have H' := Lib.hid h'
  clear h h'
  go_enter Try.func54, Try.ntmps54
  go_wp2
  go_loop [5, 10] (fun s i => ∃ (k : Nat) (t : Int), k ≤ n ∧ i = .int .i64 k ∧ s = .int .i64 t ∧ Hid (wdot t (r.drop k) (v.drop k) = wdot 0 r v)) (fun _ i => n - (intOf i).toNat)
  case atStart => exact ⟨0, 0, Nat.zero_le _, rfl, rfl, rfl⟩
  case round =>
    obtain ⟨k, t, hk, rfl, rfl, hr⟩ := hrel
    by_cases hlt : k < n
    · obtain ⟨b, o, x, rfl, hcell, hget⟩ := H.out.at_ hlt
      obtain ⟨b', o', y, rfl, hcell', hget'⟩ := H'.out.at_ (k := k) (by omega)
      have hlt' : k < n' := by omega
      have hr1 : Hid _ := wdot_step hget.out hget'.out hr.out
      clear H H' hr
      go_wp2
      go_round
      case rel => exact ⟨k + 1, _, hlt, by go_num, rfl, hr1⟩
      case measure => simp [intOf]; omega
    · go_wp2
      go_ret
      exact ⟨ret_int (wdot_end (by have := HL.out; omega) hr.out), rfl⟩
end Go.Proofs.Ytlhognagaknhcaa
