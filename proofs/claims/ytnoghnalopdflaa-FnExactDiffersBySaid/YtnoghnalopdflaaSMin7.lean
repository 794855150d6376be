/- SMin7: a part of the proofs of this seat. -/
import Derived.Test.YtnoghnalopdflaaProg
import Derived.Test.YtnoghnalopdflaaThA
import Derived.Test.YtnoghnalopdflaaSPart
import Derived.Test.YtnoghnalopdflaaSDet
import Derived.Test.YtnoghnalopdflaaBase
namespace Go.Proofs.Ytnoghnalopdflaa
open Go.RowKit
set_option linter.all false
set_option maxRecDepth 20000 in
set_option maxHeartbeats 6400000 in
theorem sMin7_any (p : Option Addr) (n c : Nat) (t : List (List Int)) (k : Nat) (w : World) (h : Intss w p n t) (hr : RowsLen t n) (hn : n ≤ 4) (hk : k ≤ 4) :
    Calls Try.prog 219 #[.slice p n c, .int .i64 k] w fun e w' => e = .returned (.int .i64 (minTo t n k (2 ^ n))) ∧ Below w.heap.size w w' := by
  have h2n : 2 ^ n ≤ 16 := Nat.pow_le_pow_right (n := 2) (by omega) hn
  have H := Lib.hid h
  have HR := Lib.hid hr
  clear h hr
  go_enter Try.func219, Try.ntmps219
  go_wp2_with fail
  go_loopw [5, 6] (fun u x wr => ∃ (m : Nat) (s : Int), m ≤ 2 ^ n ∧ x = .int .i64 m ∧ u = .int .i64 s ∧ Hid (minTo t n k m = s) ∧ Below w.heap.size w wr) (fun _ x _ => 2 ^ n - (intOf x).toNat)
  case atStart => exact ⟨0, 0, Nat.zero_le _, rfl, rfl, rfl, Below.refl _ _⟩
  case round =>
    obtain ⟨m, s, hm, rfl, rfl, hs, hbl⟩ := hrel
    obtain ⟨wo, rfl⟩ : ∃ wo : World, wo = wr := ⟨_, rfl⟩
    have hp : wrap64 ((2 : Int) ^ n) = ((2 ^ n : Nat) : Int) := by
      have e : ((2 ^ n : Nat) : Int) = (2 : Int) ^ n := by simp
      rw [← e]; unfold wrap64; omega
    have Hbl := Lib.hid hbl
    clear hbl
    by_cases hlt : m < 2 ^ n
    · have hd : decide ((m : Int) < wrap64 (2 ^ n)) = true := by rw [hp]; simp only [decide_eq_true_eq]; omega
      clear hp
      go_wp2_with fail
      go_loopw [7, 8] (fun v' x wx => ∃ i : Nat, i ≤ n ∧ x = .int .i64 i ∧ OInts wx wo.heap.size v' (setTo m i).length (setTo m i) ∧ Below wo.heap.size wo wx) (fun _ x _ => n - (intOf x).toNat)
      case atStart => exact ⟨0, Nat.zero_le _, rfl, OInts.empty wo _ (Nat.le_refl _), (Below.refl _ _).alloc (Nat.le_refl _) _⟩
      case round =>
        obtain ⟨i, hi, rfl, hrow, hbx⟩ := hrel
        by_cases hin : i < n
        · have hil := setTo_len m i
          have hbb := bits_bit (m := m) (i := i) (by omega) (by omega)
          have Hrow := Lib.hid hrow
          have Hbx := Lib.hid hbx
          cases hb : bitOf m i
          · rw [hb] at hbb
            have E : Hid (setTo m (i + 1) = setTo m i) := setTo_no hb
            clear hrow hbx hb
            go_wp2_with fail
            go_roundw
            case rel => exact ⟨i + 1, hin, by go_num, by rw [E.out]; exact Hrow.out, Hbx.out⟩
            case measure => simp [intOf]; omega
          · rw [hb] at hbb
            have E : Hid (setTo m (i + 1) = setTo m i ++ [(i : Int)]) := setTo_yes hb
            clear hrow hbx hb
            go_wp2_with (first | (at_builtin; refine wpList_push_one _ _ rfl _ _ rfl wo.heap.size _ _ _ rfl Hrow.out (by omega) Hbx.out.size _ rfl rfl ?_; intro v1 w1 ho1 hb1))
            go_roundw
            case rel => exact ⟨i + 1, hin, by go_num, by rw [E.out, List.length_append]; exact ho1, Hbx.out.trans hb1⟩
            case measure => simp [intOf]; omega
        · have e : i = n := by omega
          subst e
          have hrl := setTo_len m i
          obtain ⟨ao, cap, e, hi2⟩ := hrow.form
          subst e
          have HI := Lib.hid hi2
          have Hbx := Lib.hid hbx
          clear hrow hbx hi2
          by_cases hlk : (setTo m i).length = k
          · have hk1 : (((setTo m i).length : Int) == (k : Int)) = true := by simp [hlk]
            have E := Lib.hid (minTo_yes (t := t) hlk)
            have HLK := Lib.hid hlk
            obtain ⟨z, hz⟩ : ∃ z, det k (someT t (setTo m i) (setTo m i)) = z := ⟨_, rfl⟩
            have HZ := Lib.hid hz
            rw [hz, hs.out] at E
            clear hlk hz
            go_wp2_with (first
              | (go_at_call 206; refine (sPart_any _ _ _ t _ _ _ (setTo m i) i _ (H.out.keep ((Hbl.out.mono (Nat.le_refl _)).trans (Hbx.out.mono Hbl.out.size))) HI.out HR.out (set_idx m i) (set_idx m i) (by omega)).mono ?_; rintro e w4 ⟨v4, rfl, ho4, hb4⟩; obtain ⟨ao4, cap4, rfl, hi4⟩ := ho4.form; have Hi4 := Lib.hid hi4; have Hb4 := Lib.hid (Hbx.out.trans (hb4.mono Hbx.out.size)); clear ho4 hb4 hi4)
              | (go_at_call 174; refine (sDet_any k _ _ _ (someT t (setTo m i) (setTo m i)) _ HLK.out (by omega) Hi4.out (by have h := someT_rowsLen t (setTo m i) (setTo m i); rw [HLK.out] at h; exact h)).mono ?_; rw [HZ.out]; rintro e w5 ⟨rfl, hb5⟩; have Hb5 := Lib.hid (Hb4.out.trans (hb5.mono Hb4.out.size)); clear hb5))
            go_roundw
            case rel => exact ⟨m + 1, _, hlt, by go_num, rfl, E.out, Hbl.out.trans (Hb5.out.mono Hbl.out.size)⟩
            case measure => simp [intOf]; omega
          · have hk1 : (((setTo m i).length : Int) == (k : Int)) = false := by simp; omega
            have E := Lib.hid (minTo_no (t := t) hlk)
            rw [hs.out] at E
            clear hlk
            go_wp2_with fail
            go_roundw
            case rel => exact ⟨m + 1, _, hlt, by go_num, rfl, E.out, Hbl.out.trans (Hbx.out.mono Hbl.out.size)⟩
            case measure => simp [intOf]; omega
    · have hd : decide ((m : Int) < wrap64 (2 ^ n)) = false := by rw [hp]; simp only [decide_eq_false_iff_not]; omega
      have e : m = 2 ^ n := by omega
      have HS : Hid (s = minTo t n k (2 ^ n)) := by show _ = _; rw [← e]; exact hs.out.symm
      clear hp e hs
      go_wp2_with fail
      go_ret
      exact ⟨ret_int HS.out, Hbl.out⟩
end Go.Proofs.Ytnoghnalopdflaa
