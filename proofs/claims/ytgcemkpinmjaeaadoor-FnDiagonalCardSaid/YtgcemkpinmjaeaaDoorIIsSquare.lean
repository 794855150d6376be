/- IIsSquare: a part of the proofs of this seat. -/
import Derived.Test.YtgcemkpinmjaeaaDoorProg
import Derived.Test.YtgcemkpinmjaeaaDoorThA
namespace Go.Proofs.YtgcemkpinmjaeaaDoor
open Go.RowKit
set_option linter.all false
set_option maxHeartbeats 800000 in
theorem iIsSquare_any (ao : Option Addr) (n cap : Nat) (xss : List (List Int)) (L : Int) (w : World) (h : Intss w ao n xss) (hL0 : 0 ≤ L) (hL1 : L ≤ 1000000) :
    Calls Tryd.prog 42 #[.slice ao n cap, .int .i64 L] w fun e w' => e = .returned (.bool (square L xss)) ∧ w = w' := by
  have hm := h.2.1
  have HL := Lib.hid h.1
  have H := Lib.hid h
  have hg0 : Hid (square L xss = (decide (n ≤ 4) && tabIn n (-L) L xss)) := by show square L xss = _; unfold square; rw [h.1]
  clear h
  by_cases h4 : 4 < n
  · have hg : Hid (square L xss = false) := by show square L xss = _; rw [hg0.out]; simp; omega
    clear H hg0
    go_enter Tryd.func42, Tryd.ntmps42
    go_wp2
    go_ret
    exact ⟨ret_bool hg.out.symm, rfl⟩
  · have hg : Hid (square L xss = tabIn n (-L) L xss) := by
      show square L xss = _
      have e : n ≤ 4 := by omega
      rw [hg0.out]; simp [e]
    clear hg0
    go_enter Tryd.func42, Tryd.ntmps42
    go_wp2
    go_loop [14] (fun i => ∃ k : Nat, k ≤ n ∧ i = .int .i64 k ∧ Hid (tabIn n (-L) L (xss.drop k) = tabIn n (-L) L xss)) (fun i => n - (intOf i).toNat)
    case atStart => exact ⟨0, Nat.zero_le _, rfl, rfl⟩
    case round =>
      obtain ⟨k, hk, rfl, hr⟩ := hrel
      by_cases hlt : k < n
      · obtain ⟨b, o, ai, ci, r, rfl, hcell, hrow, hget⟩ := H.out.at_ hlt
        clear H
        have Hst := Lib.hid (tabIn_step hget.out hr.out)
        have Hrow := Lib.hid hrow
        clear hrow hr
        by_cases hrl : r.length = n
        · have hne : ((r.length : Int) != (n : Int)) = false := by simp [hrl]
          have hrl1 : r.length ≤ n := by omega
          have hrl2 : n ≤ r.length := by omega
          have HRL := Lib.hid hrl
          clear hrl
          go_wp2
          go_loop [25] (fun i => ∃ j : Nat, j ≤ r.length ∧ i = .int .i64 j ∧ Hid (allIn (-L) L (r.drop j) = allIn (-L) L r)) (fun i => n - (intOf i).toNat)
          case atStart => exact ⟨0, Nat.zero_le _, rfl, rfl⟩
          case round =>
            obtain ⟨j, hj, rfl, hrj⟩ := hrel
            by_cases hjr : j < r.length
            · obtain ⟨b', o', x, rfl, hcell', hget'⟩ := Hrow.out.at_ (k := j) hjr
              clear Hrow
              have Hsj := Lib.hid (allIn_step hget'.out hrj.out)
              clear hrj
              by_cases h0 : x < -L
              · have hr1 : Hid _ := Hst.out.2.1 (Hsj.out.2 (inR_no (.inl h0)))
                clear Hst Hsj
                have hx : decide (x < -L) = true := by simpa using h0
                go_wp2
                go_ret
                exact ⟨ret_bool (by rw [hg.out, hr1.out]), rfl⟩
              · have hx : decide (x < -L) = false := by simpa using h0
                by_cases h2 : L < x
                · have hr1 : Hid _ := Hst.out.2.1 (Hsj.out.2 (inR_no (.inr h2)))
                  clear Hst Hsj
                  go_wp2
                  go_ret
                  exact ⟨ret_bool (by rw [hg.out, hr1.out]), rfl⟩
                · have hr1 : Hid _ := Hsj.out.1 (inR_mk ⟨by omega, by omega⟩)
                  clear Hst Hsj
                  go_wp2
                  go_round
                  case rel => exact ⟨j + 1, hjr, by go_num, hr1⟩
                  case measure => simp [intOf]; omega
            · have hr1 : Hid _ := Hst.out.2.2 HRL.out (by have := hrj.out; rw [drop_all r j (by omega)] at this; exact this.symm)
              clear Hst hrj Hrow
              go_wp2
              go_round
              case rel => exact ⟨k + 1, hlt, by go_num, hr1⟩
              case measure => simp [intOf]; omega
        · have hne : ((r.length : Int) != (n : Int)) = true := by simp; omega
          have hr1 : Hid _ := Hst.out.1 hrl
          clear Hst hrl
          go_wp2
          go_ret
          exact ⟨ret_bool (by rw [hg.out, hr1.out]), rfl⟩
      · rw [drop_all xss k (by have := HL.out; omega)] at hr
        have hr1 : Hid _ := hr.out.symm
        clear hr H
        go_wp2
        go_ret
        exact ⟨ret_bool (by rw [hg.out, hr1.out]; rfl), rfl⟩
end Go.Proofs.YtgcemkpinmjaeaaDoor
