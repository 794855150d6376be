/- SSets: a part of the proofs of this seat. -/
import Derived.Test.YtgcemkpinmjaeaaDoorProg
import Derived.Test.YtgcemkpinmjaeaaDoorThA
import Derived.Test.YtgcemkpinmjaeaaDoorBase
namespace Go.Proofs.YtgcemkpinmjaeaaDoor
open Go.RowKit
set_option linter.all false
set_option maxHeartbeats 3200000 in
theorem sSets_any (n k : Nat) (w : World) (hn : n ≤ 4) (hk : k ≤ 1048576) :
    Calls Tryd.prog 32 #[.int .i64 n, .int .i64 k] w fun e w' => ∃ v, e = .returned v ∧ OIntss w' w.heap.size v (sets n k).length (sets n k) ∧ Below w.heap.size w w' := by
  have h2n : 2 ^ n ≤ 16 := Nat.pow_le_pow_right (n := 2) (by omega) hn
  go_enter Tryd.func32, Tryd.ntmps32
  go_wp2_with fail
  go_loopw [5, 6] (fun v x wr => ∃ m : Nat, m ≤ 2 ^ n ∧ x = .int .i64 m ∧ OIntss wr w.heap.size v (setsTo n k m).length (setsTo n k m) ∧ Below w.heap.size w wr) (fun _ x _ => 2 ^ n - (intOf x).toNat)
  case atStart => exact ⟨0, Nat.zero_le _, rfl, OIntss.empty w _ (Nat.le_refl _), (Below.refl _ _).alloc (Nat.le_refl _) _⟩
  case round =>
    obtain ⟨m, hm, rfl, hown, hbl⟩ := hrel
    obtain ⟨wo, rfl⟩ : ∃ wo : World, wo = wr := ⟨_, rfl⟩
    have hp : wrap64 ((2 : Int) ^ n) = ((2 ^ n : Nat) : Int) := by
      have e : ((2 ^ n : Nat) : Int) = (2 : Int) ^ n := by simp
      rw [← e]; unfold wrap64; omega
    by_cases hlt : m < 2 ^ n
    · have hd : decide ((m : Int) < wrap64 (2 ^ n)) = true := by rw [hp]; simp only [decide_eq_true_eq]; omega
      have Hown := Lib.hid hown
      have Hbl := Lib.hid hbl
      clear hown hbl hp
      go_wp2_with fail
      go_loopw [7, 8] (fun v' x wx => ∃ i : Nat, i ≤ n ∧ x = .int .i64 i ∧ OInts wx wo.heap.size v' (setTo m i).length (setTo m i) ∧ Below wo.heap.size wo wx) (fun _ x _ => n - (intOf x).toNat)
      case atStart => exact ⟨0, Nat.zero_le _, rfl, OInts.empty wo _ (Nat.le_refl _), (Below.refl _ _).alloc (Nat.le_refl _) _⟩
      case round =>
        obtain ⟨i, hi, rfl, hrow, hbx⟩ := hrel
        by_cases hin : i < n
        · have hil := setTo_len m i
          have hbb := bits_bit (m := m) (i := i) (by omega) (by omega)
          have Hrow := Lib.hid hrow
          have Hbx := Lib.hid hbx
          cases hb : bitOf m i
          · rw [hb] at hbb
            have E : Hid (setTo m (i + 1) = setTo m i) := setTo_no hb
            clear hrow hbx hb
            go_wp2_with fail
            go_roundw
            case rel => exact ⟨i + 1, hin, by go_num, by rw [E.out]; exact Hrow.out, Hbx.out⟩
            case measure => simp [intOf]; omega
          · rw [hb] at hbb
            have E : Hid (setTo m (i + 1) = setTo m i ++ [(i : Int)]) := setTo_yes hb
            clear hrow hbx hb
            go_wp2_with (first | (at_builtin; refine wpList_push_one _ _ rfl _ _ rfl wo.heap.size _ _ _ rfl Hrow.out (by omega) Hbx.out.size _ rfl rfl ?_; intro v1 w1 ho1 hb1))
            go_roundw
            case rel => exact ⟨i + 1, hin, by go_num, by rw [E.out, List.length_append]; exact ho1, Hbx.out.trans hb1⟩
            case measure => simp [intOf]; omega
        · have e : i = n := by omega
          subst e
          have hsl := setsTo_len i k m
          have hrl := setTo_len m i
          have Hrow := Lib.hid hrow
          have Hbx := Lib.hid hbx
          by_cases hlk : (setTo m i).length = k
          · have hk1 : (((setTo m i).length : Int) == (k : Int)) = true := by simp [hlk]
            have E : Hid (setsTo i k (m + 1) = setsTo i k m ++ [setTo m i]) := setsTo_yes hlk
            clear hrow hbx hlk
            obtain ⟨ao, cap, e, _⟩ := Hrow.out.form
            subst e
            go_wp2_with (first | (at_builtin; refine wpList_push_fresh _ _ wo rfl _ _ rfl w.heap.size _ _ _ rfl Hown.out (by omega) Hbl.out.size Hbx.out _ _ Hrow.out _ (by rfl) rfl ?_; intro v3 w3 ho3 hb3 _))
            go_roundw
            case rel => exact ⟨m + 1, hlt, by go_num, by rw [E.out, List.length_append]; exact ho3, Hbl.out.trans hb3⟩
            case measure => simp [intOf]; omega
          · have hk1 : (((setTo m i).length : Int) == (k : Int)) = false := by simp; omega
            have E : Hid (setsTo i k (m + 1) = setsTo i k m) := setsTo_no hlk
            clear hrow hbx hlk
            obtain ⟨ao, cap, e, _⟩ := Hrow.out.form
            subst e
            go_wp2_with fail
            go_roundw
            case rel => exact ⟨m + 1, hlt, by go_num, by rw [E.out]; exact Hown.out.keep (Hbx.out.mono (Nat.le_refl _)), Hbl.out.trans (Hbx.out.mono Hbl.out.size)⟩
            case measure => simp [intOf]; omega
    · have hd : decide ((m : Int) < wrap64 (2 ^ n)) = false := by rw [hp]; simp only [decide_eq_false_iff_not]; omega
      clear hp
      go_wp2_with fail
      go_ret
      have : m = 2 ^ n := by omega
      subst this
      exact ⟨_, rfl, hown, hbl⟩
end Go.Proofs.YtgcemkpinmjaeaaDoor
