/- Words that occur, least turns, roots (spec). -/
import Derived.Test.YtgcemkpinmjaeaaProg
import Derived.Test.YtgcemkpinmjaeaaOrbS1
namespace Go.Proofs.Ytgcemkpinmjaeaa
open Go.RowKit
set_option linter.all false
def occB (s p : ByteArray) : Nat → Nat → Bool
  | _, 0 => false
  | i, m + 1 => ((s.extract i (i + p.size)).toList == p.toList) || occB s p (i + 1) m
def occ (s p : ByteArray) : Bool := occB s p 0 (s.size + 1 - p.size)
theorem occ_step {s p : ByteArray} {i m : Nat} {b : Bool} (h : occB s p i (m + 1) = b) :
    (((s.extract i (i + p.size)).toList == p.toList) = true → b = true) ∧ (((s.extract i (i + p.size)).toList == p.toList) = false → occB s p (i + 1) m = b) := by
  rw [occB] at h
  exact ⟨fun e => by rw [e] at h; exact h.symm, fun e => by rw [e] at h; exact h⟩
set_option maxHeartbeats 800000 in
theorem sOccurs_any (s p : ByteArray) (w : World) (hs : s.size ≤ 100) (hp : p.size ≤ 100) : Calls Try.prog 150 #[.string s, .string p] w fun e w' => e = .returned (.bool (occ s p)) ∧ w = w' := by
  go_enter Try.func150, Try.ntmps150
  go_wp2_with fail
  go_loop [5] (fun x => ∃ i : Nat, i ≤ s.size + 1 ∧ x = .int .i64 i ∧ Hid (occB s p i (s.size + 1 - p.size - i) = occ s p)) (fun x => s.size + 1 - (intOf x).toNat)
  case atStart => exact ⟨0, Nat.zero_le _, rfl, rfl⟩
  case round =>
    obtain ⟨i, hi, rfl, hr⟩ := hrel
    by_cases hlt : i + p.size ≤ s.size
    · have d : decide ((i : Int) + (p.size : Int) ≤ (s.size : Int)) = true := decide_eq_true (by omega)
      have hr2 := hr.out
      rw [show s.size + 1 - p.size - i = (s.size + 1 - p.size - (i + 1)) + 1 by omega] at hr2
      have HST := Lib.hid (occ_step hr2)
      clear hr hr2
      cases ht : ((s.extract i (i + p.size)).toList == p.toList)
      · have HN := Lib.hid (HST.out.2 ht)
        clear HST
        go_wp2_with fail
        go_round
        case rel => exact ⟨i + 1, by omega, by go_num, HN.out⟩
        case measure => simp [intOf]; omega
      · have HN := Lib.hid (HST.out.1 ht)
        clear HST
        go_wp2_with fail
        go_ret
        exact ⟨ret_bool HN.out.symm, rfl⟩
    · have d : decide ((i : Int) + (p.size : Int) ≤ (s.size : Int)) = false := decide_eq_false (by omega)
      have HE : Hid (occ s p = false) := by
        show _ = _
        rw [← hr.out, show s.size + 1 - p.size - i = 0 by omega]
        rfl
      clear hr
      go_wp2_with fail
      go_ret
      exact ⟨ret_bool HE.out.symm, rfl⟩
def leastF (s : ByteArray) : Nat → ByteArray
  | 0 => turnB s 0
  | k + 1 => if Op.bytesLess (turnB s (k + 1)).toList (leastF s k).toList then turnB s (k + 1) else leastF s k
def leastB (s : ByteArray) : ByteArray := leastF s (s.size - 1)
theorem turnB_size {s : ByteArray} {i : Nat} (h : i ≤ s.size) : (turnB s i).size = s.size := by
  unfold turnB
  rw [ByteArray.size_append, ByteArray.size_extract, ByteArray.size_extract]
  omega
theorem leastF_size {s : ByteArray} : ∀ {k : Nat}, k ≤ s.size → (leastF s k).size = s.size
  | 0, _ => turnB_size (Nat.zero_le _)
  | k + 1, h => by
    unfold leastF
    split
    · exact turnB_size h
    · exact leastF_size (by omega)
set_option maxHeartbeats 800000 in
theorem sLeast_any (s : ByteArray) (w : World) (hw : isWd 3 s = true) (h0 : 0 < s.size) : Calls Try.prog 79 #[.string s] w fun e w' => e = .returned (.string (leastB s)) ∧ Drew w w' := by
  have h16 := (isWd_get hw).1
  have HW := Lib.hid hw
  clear hw
  go_enter Try.func79, Try.ntmps79
  go_wp2_with (go_at_call 149; refine (sTurn_any _ 0 _ HW.out h0).mono ?_; rintro e w1 ⟨rfl, hd⟩)
  go_loopw [3, 4] (fun v x wr => ∃ j : Nat, j + 1 ≤ s.size ∧ v = .string (leastF s j) ∧ x = .int .i64 ((j + 1 : Nat) : Int) ∧ Drew w wr) (fun _ x _ => s.size - (intOf x).toNat)
  case atStart => exact ⟨0, by omega, rfl, rfl, hd⟩
  case round =>
    clear hd
    obtain ⟨j, hj, rfl, rfl, ⟨m, rfl⟩⟩ := hrel
    have hbz := leastF_size (s := s) (k := j) (by omega)
    by_cases hlt : j + 1 < s.size
    · have hle : j + 1 ≤ s.size := hj
      have hlt2 : j + 1 < (leastF s j).size := by omega
      have hq : ¬ 9223372036854775807 < s.size := by omega
      have HL : Hid (leastF s (j + 1) = if Op.bytesLess (s.extract (j + 1) s.size ++ s.extract 0 (j + 1)).toList (leastF s j).toList then s.extract (j + 1) s.size ++ s.extract 0 (j + 1) else leastF s j) := by show _ = _; rfl
      clear hbz
      cases ht : Op.bytesLess (s.extract (j + 1) s.size ++ s.extract 0 (j + 1)).toList (leastF s j).toList
      · have HN : Hid (leastF s (j + 1) = leastF s j) := by show _ = _; rw [HL.out, ht]; rfl
        clear HL
        go_wp2_with fail
        go_quiet (fail)
        go_wp2_with fail
        go_roundw
        case rel => exact ⟨j + 1, hlt, by rw [HN.out], by go_num, (by first | exact Drew.refl _ | exact Drew.mk _ _ | exact (Drew.mk _ _).drewN _)⟩
        case measure => simp [intOf]; omega
      · have HN : Hid (leastF s (j + 1) = s.extract (j + 1) s.size ++ s.extract 0 (j + 1)) := by show _ = _; rw [HL.out, ht]; rfl
        clear HL
        go_wp2_with fail
        go_quiet (fail)
        go_wp2_with fail
        go_quiet (fail)
        go_wp2_with fail
        go_roundw
        case rel => exact ⟨j + 1, hlt, by rw [HN.out], by go_num, (by first | exact Drew.refl _ | exact Drew.mk _ _ | exact (Drew.mk _ _).drewN _)⟩
        case measure => simp [intOf]; omega
    · have hlt2 : ¬ j + 1 < (leastF s j).size := by omega
      have e : leastB s = leastF s j := by unfold leastB; congr 1; omega
      have HE := Lib.hid e
      clear hbz e
      go_wp2_with fail
      go_ret
      rw [HE.out]
      exact ⟨rfl, (by first | exact Drew.refl _ | exact Drew.mk _ _ | exact (Drew.mk _ _).drewN _)⟩
end Go.Proofs.Ytgcemkpinmjaeaa
