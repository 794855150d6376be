/- SFormat: a part of the proofs of this seat. -/
import Derived.Test.YtgcemkpinmjaeaaDoorProg
import Derived.Test.YtgcemkpinmjaeaaDoorTxtT
namespace Go.Proofs.YtgcemkpinmjaeaaDoor
open Go.RowKit
set_option linter.all false
set_option maxRecDepth 20000 in
set_option maxHeartbeats 3200000 in
theorem sFormat_any (u : Nat) (w : World) (hu : u ≤ 9223372036854775807) :
    Calls Tryd.prog 38 #[.int .i64 u] w fun e w' => e = .returned (.string (decB u)) ∧ Below w.heap.size w w' := by
  rcases Nat.eq_zero_or_pos u with h0 | h0
  · subst h0
    have hg : Hid (decB 0 = ⟨#[48]⟩) := by show _ = _; decide +kernel
    go_enter Tryd.func38, Tryd.ntmps38
    go_wp2_with fail
    go_ret
    rw [hg.out]
    exact ⟨rfl, Below.refl _ _⟩
  · have hne : ((u : Int) == 0) = false := by simp; omega
    have hlt : decide ((u : Int) < 0) = false := decide_eq_false (by omega)
    obtain ⟨U, hU⟩ : ∃ U : Nat, U = u := ⟨_, rfl⟩
    have HU := Lib.hid hU
    go_enter Tryd.func38, Tryd.ntmps38
    go_wp2_with fail
    clear hne hlt hU
    go_loopw [0, 4] (fun x o wr => ∃ (y : Nat) (s : ByteArray), y ≤ 9223372036854775807 ∧ x = .int .i64 y ∧ o = .string s ∧ Hid (dg y ++ s.data.toList = dg U) ∧ Below w.heap.size w wr) (fun x _ _ => (intOf x).toNat)
    case atStart => exact ⟨u, ⟨#[]⟩, hu, rfl, rfl, by show _ = _; rw [HU.out]; simp, Below.refl _ _⟩
    case round =>
      obtain ⟨y, s, hy, rfl, rfl, hr, hbl⟩ := hrel
      have hsz := dig_size (by have := HU.out; omega) hr.out
      have Hbl := Lib.hid hbl
      clear hbl
      by_cases hp : 0 < y
      · have hne : ((y : Int) != 0) = true := by simp; omega
        have HN := Lib.hid (dig_next hp hr.out)
        have HCS := catB_size (48 + UInt8.ofNat (y % 10)) s
        have hm10 : y % 10 < 10 := Nat.mod_lt _ (by omega)
        have hcv := fun z => conv_one wr z 5
        clear hr
        go_wp2_with fail
        go_roundw
        case rel => exact ⟨y / 10, catB (48 + UInt8.ofNat (y % 10)) s, by omega, by go_num, rfl, HN.out, step2 Hbl.out (belowA _ _)⟩
        case measure => (simp [intOf] <;> omega)
      · have hz : y = 0 := by omega
        subst hz
        have HE := Lib.hid (dig_done (u := U) (by have := HU.out; omega) hr.out)
        clear hr
        rw [show ((0 : Nat) : Int) = 0 from rfl]
        go_wp2_with fail
        go_ret
        exact ⟨ret_text (by rw [HE.out, HU.out]), Hbl.out⟩
theorem sFormat_succ (k : Nat) (w : World) (hk : k ≤ 1000000) :
    Calls Tryd.prog 38 #[.int .i64 ((k : Int) + 1)] w fun e w' => e = .returned (.string (decB (k + 1))) ∧ Below w.heap.size w w' := by
  have h := sFormat_any (k + 1) w (by omega)
  rw [show ((k + 1 : Nat) : Int) = (k : Int) + 1 from by omega] at h
  exact h
end Go.Proofs.YtgcemkpinmjaeaaDoor
