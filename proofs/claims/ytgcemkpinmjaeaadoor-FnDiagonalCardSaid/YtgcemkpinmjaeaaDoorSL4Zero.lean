/- SL4Zero: a part of the proofs of this seat. -/
import Derived.Test.YtgcemkpinmjaeaaDoorProg
import Derived.Test.YtgcemkpinmjaeaaDoorBase
namespace Go.Proofs.YtgcemkpinmjaeaaDoor
open Go.RowKit
set_option linter.all false
set_option maxHeartbeats 1600000 in
theorem sL4Zero_any (n c : Nat) (w : World) (hn : n ≤ 1048576) (hc : c ≤ 1048576) :
    Calls Tryd.prog 40 #[.int .i64 n, .int .i64 c] w fun e w' => ∃ v, e = .returned v ∧ OIntss w' w.heap.size v n (List.replicate n (List.replicate c 0)) ∧ Below w.heap.size w w' := by
  have hmk := make_ints c (by omega)
  go_enter Tryd.func40, Tryd.ntmps40
  go_wp2
  go_loopw [5, 6] (fun v i wr => ∃ k : Nat, k ≤ n ∧ i = .int .i64 k ∧ OIntss wr w.heap.size v k (List.replicate k (List.replicate c 0)) ∧ Below w.heap.size w wr) (fun _ i _ => n - (intOf i).toNat)
  case atStart => exact ⟨0, Nat.zero_le _, rfl, OIntss.empty w _ (Nat.le_refl _), (Below.refl _ _).alloc (Nat.le_refl _) _⟩
  case round =>
    obtain ⟨k, hk, rfl, hown, hb⟩ := hrel
    by_cases hlt : k < n
    · have Hown := Lib.hid hown
      have Hb := Lib.hid hb
      clear hown hb
      go_wp2_with (first | (at_builtin; refine wpList_push_fresh _ _ wr rfl _ _ rfl w.heap.size _ k _ rfl Hown.out (by omega) Hb.out.size ((Below.refl _ _).alloc (Nat.le_refl _) _) c _ (OInts.made wr c (by omega)) _ ?ctb rfl ?_))
      case ctb => simp
      intro v' w' hown' hbel _
      rw [rep_push] at hown'
      have hb' := Hb.out.trans hbel
      go_wp2_with fail
      go_roundw
      case rel => exact ⟨k + 1, hlt, by go_num, hown', hb'⟩
      case measure => simp [intOf]; omega
    · go_wp2
      go_ret
      have : k = n := by omega
      subst this
      exact ⟨_, rfl, hown, hb⟩
end Go.Proofs.YtgcemkpinmjaeaaDoor
