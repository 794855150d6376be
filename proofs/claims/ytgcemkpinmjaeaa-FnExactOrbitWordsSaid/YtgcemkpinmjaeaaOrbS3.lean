/- OrbS3: a part of the proofs of this seat. -/
import Derived.BigQuiet
import Derived.Test.YtgcemkpinmjaeaaProg
import Derived.Test.YtgcemkpinmjaeaaOrbS1
namespace Go.Proofs.Ytgcemkpinmjaeaa
open Go.RowKit
set_option linter.all false
def rtB (s : ByteArray) (n : Nat) : Bool := decide (s.size % n = 0) && ((repB (s.extract 0 n) (s.size / n)).toList == s.toList)
def Root (s : ByteArray) (n : Nat) : Prop := 1 ≤ n ∧ n ≤ s.size ∧ rtB s n = true ∧ ∀ j, 1 ≤ j → j < n → rtB s j = false
theorem Root.uniq {s : ByteArray} {n m : Nat} (h : Root s n) (h' : Root s m) : n = m := by
  rcases Nat.lt_trichotomy n m with l | l | l
  · have := h'.2.2.2 n h.1 l; rw [h.2.2.1] at this; cases this
  · exact l
  · have := h.2.2.2 m h'.1 l; rw [h'.2.2.1] at this; cases this
theorem extract_all (s : ByteArray) : s.extract 0 s.size = s := by
  apply ByteArray.ext
  simp
theorem rtB_full {s : ByteArray} (h : 0 < s.size) : rtB s s.size = true := by
  have e : repB (s.extract 0 s.size) (s.size / s.size) = s := by
    rw [Nat.div_self h, extract_all]
    show (⟨#[]⟩ : ByteArray) ++ s = s
    apply ByteArray.ext
    simp
  unfold rtB
  rw [e]
  simp
set_option maxRecDepth 20000 in
set_option maxHeartbeats 400000 in
theorem sRoot_any (s : ByteArray) (w : World) (hw : isWd 3 s = true) (h0 : 0 < s.size) : Calls Try.prog 78 #[.string s] w fun e w' => ∃ n : Nat, Root s n ∧ e = .returned (.tuple #[.string (s.extract 0 n), .int .i64 ((s.size / n : Nat) : Int)]) ∧ Drew w w' := by
  have h16 := (isWd_get hw).1
  have HW := Lib.hid hw
  have he := notEmpty h0
  have hs : s.size ≤ 1048576 := by omega
  clear hw
  go_enter Try.func78, Try.ntmps78
  go_wp2_with (go_at_call 98; refine (sIsWord_any _ _ _ hs).mono ?_; rw [HW.out]; rintro e w' ⟨rfl, rfl⟩)
  go_loopw [4] (fun x wr => ∃ n : Nat, 1 ≤ n ∧ n ≤ s.size ∧ x = .int .i64 (n : Int) ∧ (∀ j, 1 ≤ j → j < n → rtB s j = false) ∧ Drew w wr) (fun x _ => s.size - (intOf x).toNat)
  case atStart => exact ⟨1, Nat.le_refl _, by omega, rfl, fun j h1 h2 => by omega, Drew.refl _⟩
  case round =>
    obtain ⟨n, h1, hn, rfl, hall, ⟨m, rfl⟩⟩ := hrel
    have HALL := Lib.hid hall
    clear hall
    by_cases hm : s.size % n = 0
    · have hmi : (((s.size : Int).tmod (n : Int)) != 0) = false := by have : (s.size : Int).tmod (n : Int) = ((s.size % n : Nat) : Int) := rfl; rw [this, hm]; rfl
      have hnz : ((n : Int) == 0) = false := by simp; omega
      have hn0 : ¬ n = 0 := by omega
      have hn1 : ¬ (n : Int) = 0 := by omega
      obtain ⟨q, hq⟩ : ∃ q : Nat, s.size / n = q := ⟨_, rfl⟩
      have hdv : (s.size : Int).tdiv (n : Int) = (q : Int) := by rw [← hq]; rfl
      have hsl : n ≤ s.size := hn
      have hex : (s.extract 0 n).size ≤ 100 := by rw [ByteArray.size_extract]; omega
      have hdb : q ≤ 100 := by rw [← hq]; exact Nat.le_trans (Nat.div_le_self _ _) (by omega)
      have hqw : IntKind.i64.wrap (q : Int) = q := by rw [IntKind.wrap_i64]; omega
      have HQ := Lib.hid hq
      have HM := Lib.hid hm
      clear hq hm
      cases ht : ((repB (s.extract 0 n) q).toList == s.toList)
      · have hr : rtB s n = false := by simp [rtB, HQ.out, ht]
        have hlt : n < s.size := by
          rcases Nat.lt_or_ge n s.size with h | h
          · exact h
          · obtain rfl : n = s.size := by omega
            rw [rtB_full h0] at hr; cases hr
        have HR := Lib.hid hr
        clear hr
        go_wp2_with fail
        go_quiet ((go_at_call 81; exact quiet_La (l2Times_any _ q _ hex hdb)))
        go_wp2_with fail
        go_roundw
        case rel =>
          refine ⟨n + 1, by omega, hlt, by go_num, fun j h2 h3 => ?_, (by first | exact Drew.refl _ | exact Drew.mk _ _ | exact (Drew.mk _ _).drewN _)⟩
          by_cases e : j = n
          · rw [e]; exact HR.out
          · exact HALL.out j h2 (by omega)
        case measure => simp [intOf]; omega
      · have HR : Hid (rtB s n = true) := by show _ = _; simp [rtB, HQ.out, ht, HM.out]
        go_wp2_with fail
        go_quiet ((go_at_call 81; exact quiet_La (l2Times_any _ q _ hex hdb)))
        go_wp2_with fail
        go_quiet (fail)
        go_wp2_with fail
        go_ret2
        exact ⟨n, ⟨h1, hn, HR.out, HALL.out⟩, by rw [HQ.out]; rfl, ((Drew.mk w m).drewN _).drewN _⟩
    · have hr : rtB s n = false := by simp [rtB, hm]
      have hlt : n < s.size := by
        rcases Nat.lt_or_ge n s.size with h | h
        · exact h
        · obtain rfl : n = s.size := by omega
          rw [rtB_full h0] at hr; cases hr
      have HR := Lib.hid hr
      have hn0 : ¬ n = 0 := by omega
      have hn1 : ¬ (n : Int) = 0 := by omega
      obtain ⟨r, hr'⟩ : ∃ r : Nat, s.size % n = r := ⟨_, rfl⟩
      have hrm : (s.size : Int).tmod (n : Int) = (r : Int) := by rw [← hr']; rfl
      have hr0 : ((r : Int) != 0) = true := by simp; omega
      have hnz : ((n : Int) == 0) = false := by simp; omega
      clear hr'
      clear hr hm
      go_wp2_with fail
      go_quiet (fail)
      go_wp2_with fail
      go_roundw
      case rel =>
        refine ⟨n + 1, by omega, hlt, by go_num, fun j h2 h3 => ?_, (by first | exact Drew.refl _ | exact Drew.mk _ _ | exact (Drew.mk _ _).drewN _)⟩
        by_cases e : j = n
        · rw [e]; exact HR.out
        · exact HALL.out j h2 (by omega)
      case measure => simp [intOf]; omega
end Go.Proofs.Ytgcemkpinmjaeaa
