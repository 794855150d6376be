/- L26Row: a part of the proofs of this seat. -/
import Derived.Test.YtlhognagaknhcaaProg
import Derived.Test.YtlhognagaknhcaaBase
namespace Go.Proofs.Ytlhognagaknhcaa
open Go.RowKit
set_option linter.all false
set_option maxHeartbeats 800000 in
theorem l26Row_any (p : Option Addr) (n c : Nat) (xss : List (List Int)) (p' : Option Addr) (n' c' : Nat) (v : List Int) (i : Int) (k : Nat) (r : List Int) (w : World) (h : Intss w p n xss) (h' : Ints w p' n' v)
    (hi : i = k) (hr : xss[k]? = some r) (hl : r.length = n) (hl' : n ≤ n') :
    Calls Try.prog 48 #[.slice p n c, .slice p' n' c', .int .i64 i] w fun e w' => e = .returned (.int .i64 (wdot 0 r v)) ∧ Drew w w' := by
  subst hi
  have hm := h.2.1
  have hm' := h'.2.1
  have hkn : k < n := by rw [← h.1]; exact (List.getElem?_eq_some_iff.1 hr).1
  obtain ⟨b, o, ai, ci, r', rfl, hcell, hrow, hget⟩ := h.at_ hkn
  have e : r' = r := by have := hget.out; rw [hr] at this; injection this with this; exact this.symm
  subst e
  have hrl : r'.length ≤ n := by omega
  have hrl' : n ≤ r'.length := by omega
  have H := Lib.hid hrow
  have H' := Lib.hid h'
  clear h h' hrow hget hr hl
  go_enter Try.func48, Try.ntmps48
  go_wp2
  go_loopw [7, 8] (fun s i wr => ∃ (j : Nat) (t : Int), j ≤ n ∧ i = .int .i64 j ∧ s = .int .i64 t ∧ Drew w wr ∧ Hid (wdot t (r'.drop j) (v.drop j) = wdot 0 r' v)) (fun _ i _ => n - (intOf i).toNat)
  case atStart => exact ⟨0, 0, Nat.zero_le _, rfl, rfl, Drew.refl w, rfl⟩
  case round =>
    obtain ⟨j, t, hj, rfl, rfl, ⟨m, rfl⟩, hr⟩ := hrel
    by_cases hlt : j < n
    · obtain ⟨b', o', x, rfl, hcell2, hget⟩ := H.out.at_ (k := j) (by omega)
      obtain ⟨b3, o3, y, rfl, hcell3, hget'⟩ := H'.out.at_ (k := j) (by omega)
      have hlt' : j < n' := by omega
      have hlt2 : j < r'.length := by omega
      have hr1 : Hid _ := wdot_step hget.out hget'.out hr.out
      clear H H' hr
      go_wp2_with fail
      go_quiet (fail)
      go_wp2
      go_roundw
      case rel => exact ⟨j + 1, _, hlt, by go_num, rfl, (by first | exact Drew.refl _ | exact Drew.mk _ _ | exact (Drew.mk _ _).drewN _), hr1⟩
      case measure => simp [intOf]; omega
    · go_wp2
      go_ret
      exact ⟨ret_int (wdot_end (by omega) hr.out), (by first | exact Drew.refl _ | exact Drew.mk _ _ | exact (Drew.mk _ _).drewN _)⟩
end Go.Proofs.Ytlhognagaknhcaa
