/- SGroupSize: a part of the proofs of this seat. -/
import Derived.Test.YtgcemkpinmjaeaaDoorProg
import Derived.Test.YtgcemkpinmjaeaaDoorBase
namespace Go.Proofs.YtgcemkpinmjaeaaDoor
open Go.RowKit
set_option linter.all false
/-- The product, or -1 where a number lies outside. -/
def gs : Int → List Int → Int
  | o, [] => o
  | o, x :: r => if inR x 0 1000 then gs (wrap64 (o * x)) r else -1
def gsize (xs : List Int) : Int := if 4 < xs.length then -1 else gs 1 xs

theorem gs_step {xs : List Int} {k : Nat} {o b : Int} (hk : k < xs.length) (h : gs o (xs.drop k) = b) :
    (inR xs[k] 0 1000 = true → gs (wrap64 (o * xs[k])) (xs.drop (k + 1)) = b) ∧ (inR xs[k] 0 1000 = false → -1 = b) := by
  rw [List.drop_eq_getElem_cons hk] at h
  constructor
  · intro e; simpa [gs, e] using h
  · intro e; simpa [gs, e] using h

set_option maxHeartbeats 400000 in
theorem sGroupSize_any (ao : Option Addr) (n cap : Nat) (xs : List Int) (w : World) (h : Ints w ao n xs) :
    Calls Tryd.prog 19 #[.slice ao n cap] w fun e w' => e = .returned (.int .i64 (gsize xs)) ∧ w = w' := by
  obtain ⟨hn, hm, hc⟩ := h
  subst hn
  by_cases h4 : 4 < xs.length
  · have hg : Hid (gsize xs = -1) := by show gsize xs = -1; simp [gsize, h4]
    have hd : decide (4 < xs.length) = true := by simpa using h4
    go_enter Tryd.func19, Tryd.ntmps19
    go_wp2
    go_loop [3, 4] (fun s i => s = .int .i64 1 ∧ i = .int .i64 0) (fun _ _ => 0)
    case atStart => exact ⟨rfl, rfl⟩
    case round =>
      obtain ⟨rfl, rfl⟩ := hrel
      obtain ⟨b, o, rfl, hcell⟩ := hc 0 (by omega)
      rw [Nat.add_zero] at hcell
      have hlt : 0 < xs.length := by omega
      clear hc
      cases hi : inR xs[0] 0 1000 <;>
      · go_wp2_with (first | (go_at_call 31; refine (l1In_any _ _ _ _).mono ?_; rintro e w' ⟨rfl, rfl⟩))
        go_ret
        exact ⟨ret_int hg.out.symm, rfl⟩
  · have hg : Hid (gsize xs = gs 1 xs) := by show gsize xs = gs 1 xs; simp [gsize, h4]
    have hd : decide (4 < xs.length) = false := by simpa using h4
    go_enter Tryd.func19, Tryd.ntmps19
    go_wp2
    go_loop [3, 4] (fun s i => ∃ (k : Nat) (o : Int), k ≤ xs.length ∧ i = .int .i64 k ∧ s = .int .i64 o ∧ Hid (gs o (xs.drop k) = gs 1 xs)) (fun _ i => xs.length - (intOf i).toNat)
    case atStart => exact ⟨0, 1, Nat.zero_le _, rfl, rfl, rfl⟩
    case round =>
      obtain ⟨k, o, hk, rfl, rfl, hr⟩ := hrel
      by_cases hlt : k < xs.length
      · obtain ⟨b, of, rfl, hcell⟩ := hc k hlt
        clear hc
        have Hst := Lib.hid (gs_step hlt hr.out)
        cases hi : inR xs[k] 0 1000
        · have hr1 : Hid _ := Hst.out.2 hi
          clear Hst hr
          go_wp2_with (first | (go_at_call 31; refine (l1In_any _ _ _ _).mono ?_; rintro e w' ⟨rfl, rfl⟩))
          go_ret
          exact ⟨ret_int (hr1.out.trans hg.out.symm), rfl⟩
        · have hr1 : Hid _ := Hst.out.1 hi
          clear Hst hr
          go_wp2_with (first | (go_at_call 31; refine (l1In_any _ _ _ _).mono ?_; rintro e w' ⟨rfl, rfl⟩))
          go_round
          case rel => exact ⟨k + 1, _, hlt, by go_num, rfl, hr1⟩
          case measure => simp [intOf]; omega
      · go_wp2
        go_ret
        rw [drop_all xs k (by omega)] at hr
        exact ⟨ret_int (hr.out.trans hg.out.symm), rfl⟩
end Go.Proofs.YtgcemkpinmjaeaaDoor
