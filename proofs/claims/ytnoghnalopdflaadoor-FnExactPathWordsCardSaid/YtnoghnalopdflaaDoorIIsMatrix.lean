/- IIsMatrix: a part of the proofs of this seat. -/
import Derived.Test.YtnoghnalopdflaaDoorProg
import Derived.Test.YtnoghnalopdflaaDoorBase
namespace Go.Proofs.YtnoghnalopdflaaDoor
open Go.RowKit
set_option linter.all false
set_option maxHeartbeats 800000 in
theorem iIsMatrix_any (ao : Option Addr) (n cap : Nat) (xss : List (List Int)) (w : World) (h : Intss w ao n xss) :
    Calls Tryd.prog 110 #[.slice ao n cap] w fun e w' => e = .returned (.bool (isMat xss)) ∧ w = w' := by
  have hm := h.2.1
  have HL := Lib.hid h.1
  have H := Lib.hid h
  have hg0 : Hid (isMat xss = (tabIn n 0 1000000 xss && inR n 1 9)) := by show isMat xss = _; unfold isMat; rw [h.1]
  clear h
  by_cases h1 : n < 1
  · have hg : Hid (isMat xss = false) := by show isMat xss = _; rw [hg0.out, inR_no (.inl (by omega))]; simp
    have hd : decide ((n : Int) < 1) = true := by simp; omega
    clear H hg0
    go_enter Tryd.func110, Tryd.ntmps110
    go_wp2
    go_ret
    exact ⟨ret_bool hg.out.symm, rfl⟩
  · by_cases h9 : 9 < n
    · have hg : Hid (isMat xss = false) := by show isMat xss = _; rw [hg0.out, inR_no (.inr (by omega))]; simp
      have hd : decide ((n : Int) < 1) = false := by simp; omega
      clear H hg0
      go_enter Tryd.func110, Tryd.ntmps110
      go_wp2
      go_ret
      exact ⟨ret_bool hg.out.symm, rfl⟩
    · have hg : Hid (isMat xss = tabIn n 0 1000000 xss) := by show isMat xss = _; rw [hg0.out, inR_mk ⟨by omega, by omega⟩]; simp
      have hd : decide ((n : Int) < 1) = false := by simp; omega
      clear hg0
      go_enter Tryd.func110, Tryd.ntmps110
      go_wp2
      go_loop [17] (fun i => ∃ k : Nat, k ≤ n ∧ i = .int .i64 k ∧ Hid (tabIn n 0 1000000 (xss.drop k) = tabIn n 0 1000000 xss)) (fun i => n - (intOf i).toNat)
      case atStart => exact ⟨0, Nat.zero_le _, rfl, rfl⟩
      case round =>
        obtain ⟨k, hk, rfl, hr⟩ := hrel
        by_cases hlt : k < n
        · obtain ⟨b, o, ai, ci, r, rfl, hcell, hrow, hget⟩ := H.out.at_ hlt
          clear H
          have Hst := Lib.hid (tabIn_step hget.out hr.out)
          have Hrow := Lib.hid hrow
          clear hrow hr
          by_cases hrl : r.length = n
          · have hne : ((r.length : Int) != (n : Int)) = false := by simp [hrl]
            have hrl1 : r.length ≤ n := by omega
            have hrl2 : n ≤ r.length := by omega
            have HRL := Lib.hid hrl
            clear hrl
            go_wp2
            go_loop [28] (fun i => ∃ j : Nat, j ≤ r.length ∧ i = .int .i64 j ∧ Hid (allIn 0 1000000 (r.drop j) = allIn 0 1000000 r)) (fun i => n - (intOf i).toNat)
            case atStart => exact ⟨0, Nat.zero_le _, rfl, rfl⟩
            case round =>
              obtain ⟨j, hj, rfl, hrj⟩ := hrel
              by_cases hjr : j < r.length
              · obtain ⟨b', o', x, rfl, hcell', hget'⟩ := Hrow.out.at_ (k := j) hjr
                clear Hrow
                have Hsj := Lib.hid (allIn_step hget'.out hrj.out)
                clear hrj
                by_cases h0 : x < 0
                · have hr1 : Hid _ := Hst.out.2.1 (Hsj.out.2 (inR_no (.inl h0)))
                  clear Hst Hsj
                  have hx : decide (x < 0) = true := by simpa using h0
                  go_wp2
                  go_ret
                  exact ⟨ret_bool (by rw [hg.out, hr1.out]), rfl⟩
                · have hx : decide (x < 0) = false := by simpa using h0
                  by_cases h2 : 1000000 < x
                  · have hr1 : Hid _ := Hst.out.2.1 (Hsj.out.2 (inR_no (.inr h2)))
                    clear Hst Hsj
                    go_wp2
                    go_ret
                    exact ⟨ret_bool (by rw [hg.out, hr1.out]), rfl⟩
                  · have hr1 : Hid _ := Hsj.out.1 (inR_mk ⟨by omega, by omega⟩)
                    clear Hst Hsj
                    go_wp2
                    go_round
                    case rel => exact ⟨j + 1, hjr, by go_num, hr1⟩
                    case measure => simp [intOf]; omega
              · have hr1 : Hid _ := Hst.out.2.2 HRL.out (by have := hrj.out; rw [drop_all r j (by omega)] at this; exact this.symm)
                clear Hst hrj Hrow
                go_wp2
                go_round
                case rel => exact ⟨k + 1, hlt, by go_num, hr1⟩
                case measure => simp [intOf]; omega
          · have hne : ((r.length : Int) != (n : Int)) = true := by simp; omega
            have hr1 : Hid _ := Hst.out.1 hrl
            clear Hst hrl
            go_wp2
            go_ret
            exact ⟨ret_bool (by rw [hg.out, hr1.out]), rfl⟩
        · rw [drop_all xss k (by have := HL.out; omega)] at hr
          have hr1 : Hid _ := hr.out.symm
          clear hr H
          go_wp2
          go_ret
          exact ⟨ret_bool (by rw [hg.out, hr1.out]; rfl), rfl⟩
end Go.Proofs.YtnoghnalopdflaaDoor
