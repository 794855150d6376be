/- IUnit: a part of the proofs of this seat. -/
import Derived.Test.YtnoghnalopdflaaDoorProg
import Derived.Test.YtnoghnalopdflaaDoorBase
import Derived.Test.YtnoghnalopdflaaDoorIZeros
namespace Go.Proofs.YtnoghnalopdflaaDoor
open Go.RowKit
set_option linter.all false
set_option maxHeartbeats 1600000 in
theorem iUnit_any (n : Nat) (w : World) (hn : n ≤ 1048576) :
    Calls Tryd.prog 165 #[.int .i64 n] w fun e w' => ∃ v, e = .returned v ∧ OIntss w' w.heap.size v n (oneT n) ∧ Below w.heap.size w w' := by
  go_enter Tryd.func165, Tryd.ntmps165
  go_wp2_with fail
  refine (iZeros_any n _ hn).mono ?_
  rintro e w1 ⟨v, rfl, hown, hb⟩
  obtain ⟨ao, cap, rfl, _⟩ := hown.form
  go_wp2_with fail
  go_loopw [9] (fun i wr => ∃ k : Nat, k ≤ n ∧ i = .int .i64 k ∧ OIntss wr w.heap.size (.slice ao n cap) n ((oneT n).take k ++ List.replicate (n - k) (List.replicate n 0)) ∧ Below w.heap.size w wr) (fun i _ => n - (intOf i).toNat)
  case atStart => exact ⟨0, Nat.zero_le _, rfl, by rw [fill_start]; exact hown, hb⟩
  case round =>
    obtain ⟨k, hk, rfl, hown, hb⟩ := hrel
    by_cases hlt : k < n
    · rw [fill_open hlt] at hown
      obtain ⟨g, cap', e⟩ := hown.head (by omega)
      injection e with e1 e2 e3
      subst e1
      clear e2 e3 cap'
      have hAl : ((oneT n).take k).length = k := take_len (by rw [oneT_len]; omega)
      obtain ⟨gk, ck, hc, ho, hne, hlo⟩ := hown.rowAt (at_mid hAl) (by simp; omega)
      have hset := hown.setIn (at_mid hAl) hc ho k 1
      rw [set_mid hAl] at hset
      have hset' := (congrArg (OIntss _ w.heap.size _ n) (fill_shut (oneT_get hlt))) ▸ hset
      have hc0 := ho.cell k (by simp; omega)
      have hf0 := ho.frozen k
      have hb' := hb.setCell (p := ⟨gk, k, none⟩) hlo (.int .i64 1)
      simp only [List.length_replicate] at hc hc0
      clear hown ho hset hb hAl
      go_wp2_with fail
      go_roundw
      case rel => exact ⟨k + 1, hlt, by go_num, hset', hb'⟩
      case measure => simp [intOf]; omega
    · go_wp2_with fail
      go_ret
      have : k = n := by omega
      subst this
      rw [fill_end (oneT_len k)] at hown
      exact ⟨_, rfl, hown, hb⟩
end Go.Proofs.YtnoghnalopdflaaDoor
