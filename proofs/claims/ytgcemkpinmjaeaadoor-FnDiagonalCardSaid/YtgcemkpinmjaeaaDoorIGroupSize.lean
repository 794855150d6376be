/- IGroupSize: a part of the proofs of this seat. -/
import Derived.Test.YtgcemkpinmjaeaaDoorProg
import Derived.Test.YtgcemkpinmjaeaaDoorSGroupSize
namespace Go.Proofs.YtgcemkpinmjaeaaDoor
open Go.RowKit
set_option linter.all false
set_option maxHeartbeats 400000 in
theorem iGroupSize_any (ao : Option Addr) (n cap : Nat) (xs : List Int) (w : World) (h : Ints w ao n xs) :
    Calls Tryd.prog 18 #[.slice ao n cap] w fun e w' => e = .returned (.int .i64 (gsize xs)) ∧ w = w' := by
  obtain ⟨hn, hm, hc⟩ := h
  subst hn
  by_cases h4 : 4 < xs.length
  · have hg : Hid (gsize xs = -1) := by show gsize xs = -1; simp [gsize, h4]
    go_enter Tryd.func18, Tryd.ntmps18
    go_wp2
    go_ret
    exact ⟨ret_int hg.out.symm, rfl⟩
  · have hg : Hid (gsize xs = gs 1 xs) := by show gsize xs = gs 1 xs; simp [gsize, h4]
    go_enter Tryd.func18, Tryd.ntmps18
    go_wp2
    go_loop [3, 11] (fun s i => ∃ (k : Nat) (o : Int), k ≤ xs.length ∧ i = .int .i64 k ∧ s = .int .i64 o ∧ Hid (gs o (xs.drop k) = gs 1 xs)) (fun _ i => xs.length - (intOf i).toNat)
    case atStart => exact ⟨0, 1, Nat.zero_le _, rfl, rfl, rfl⟩
    case round =>
      obtain ⟨k, o, hk, rfl, rfl, hr⟩ := hrel
      by_cases hlt : k < xs.length
      · obtain ⟨b, of, rfl, hcell⟩ := hc k hlt
        clear hc
        have Hst := Lib.hid (gs_step hlt hr.out)
        clear hr
        by_cases h0 : xs[k] < 0
        · have hr1 : Hid _ := Hst.out.2 (inR_no (.inl h0))
          clear Hst
          go_wp2
          go_ret
          exact ⟨ret_int (hr1.out.trans hg.out.symm), rfl⟩
        · by_cases h1 : 1000 < xs[k]
          · have hr1 : Hid _ := Hst.out.2 (inR_no (.inr h1))
            clear Hst
            have hd : decide (xs[k] < 0) = false := by simpa using h0
            go_wp2
            go_ret
            exact ⟨ret_int (hr1.out.trans hg.out.symm), rfl⟩
          · have hr1 : Hid _ := Hst.out.1 (inR_mk ⟨by omega, by omega⟩)
            clear Hst
            have hd : decide (xs[k] < 0) = false := by simpa using h0
            go_wp2
            go_round
            case rel => exact ⟨k + 1, _, hlt, by go_num, rfl, hr1⟩
            case measure => simp [intOf]; omega
      · go_wp2
        go_ret
        rw [drop_all xs k (by omega)] at hr
        exact ⟨ret_int (hr.out.trans hg.out.symm), rfl⟩
end Go.Proofs.YtgcemkpinmjaeaaDoor
