/- ITrace: a part of the proofs of this seat. -/
import Derived.Test.YtnoghnalopdflaaDoorProg
import Derived.Test.YtnoghnalopdflaaDoorOrbT
namespace Go.Proofs.YtnoghnalopdflaaDoor
open Go.RowKit
set_option linter.all false
set_option maxHeartbeats 1600000 in
theorem iTrace_any (ao : Option Addr) (n cap : Nat) (p : List (List Int)) (w : World) (h : Intss w ao n p) (hp : isMat p = true) :
    Calls Tryd.prog 168 #[.slice ao n cap] w fun e w' => e = .returned (.int .i64 (trc 0 0 p)) ∧ w = w' := by
  have hm := h.2.1
  have HL : Hid (p.length = n) := h.1
  have H := Lib.hid h
  have HP := Lib.hid hp
  clear h
  go_enter Tryd.func168, Tryd.ntmps168
  clear hp
  go_wp2_with fail
  go_loop [3, 8] (fun s x => ∃ (k : Nat) (t : Int), k ≤ n ∧ x = .int .i64 k ∧ s = .int .i64 t ∧ Hid (trc k t (p.drop k) = trc 0 0 p)) (fun _ x => n - (intOf x).toNat)
  case atStart => exact ⟨0, 0, Nat.zero_le _, rfl, rfl, rfl⟩
  case round =>
    obtain ⟨k, t, hk, rfl, rfl, hr⟩ := hrel
    by_cases hlt : k < n
    · obtain ⟨b, o, ai, ci, r, rfl, hcell, hrow, hget⟩ := H.out.at_ hlt
      have hrl : k < r.length := by have := (isMat_row HP.out hget.out).1; have := HL.out; omega
      obtain ⟨b', o', x, rfl, hcx, hgx⟩ := hrow.at_ hrl
      have HS := Lib.hid (trc_step hget.out hgx.out hr.out)
      clear hrow hget hgx hr
      go_wp2_with fail
      go_round
      case rel => exact ⟨k + 1, _, hlt, by go_num, rfl, HS.out⟩
      case measure => simp [intOf]; omega
    · have e : k = n := by omega
      have HE : Hid (t = trc 0 0 p) := by have := hr.out; rw [drop_all p k (by rw [HL.out]; omega)] at this; exact this
      clear hr
      go_wp2_with fail
      go_ret
      exact ⟨ret_int HE.out, rfl⟩
end Go.Proofs.YtnoghnalopdflaaDoor
