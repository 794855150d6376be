/- OrbI2: a part of the proofs of this seat. -/
import Derived.BigQuiet
import Derived.Test.YtgcemkpinmjaeaaProg
import Derived.Test.YtgcemkpinmjaeaaOrbI1
namespace Go.Proofs.Ytgcemkpinmjaeaa
open Go.RowKit
set_option linter.all false
theorem bl_asymm : ∀ (x y : List UInt8), Op.bytesLess x y = true → Op.bytesLess y x = false
  | [], [] => by simp [Op.bytesLess]
  | _ :: _, [] => by simp [Op.bytesLess]
  | [], _ :: _ => by simp [Op.bytesLess]
  | a :: x, b :: y => by
    intro h
    simp only [Op.bytesLess, Bool.or_eq_true, Bool.and_eq_true, decide_eq_true_eq, beq_iff_eq] at h
    have ih := bl_asymm x y
    simp only [Op.bytesLess, Bool.or_eq_false_iff, Bool.and_eq_false_iff, decide_eq_false_iff_not, beq_eq_false_iff_ne]
    rcases h with h | ⟨rfl, h⟩
    · have h1 : a.toNat < b.toNat := h
      exact ⟨fun h2 => by have h3 : b.toNat < a.toNat := h2; omega, .inl (fun e => by rw [e] at h1; omega)⟩
    · exact ⟨fun h2 => by have h3 : a.toNat < a.toNat := h2; omega, .inr (ih h)⟩
theorem bl_tri : ∀ (x y : List UInt8), Op.bytesLess x y = false → Op.bytesLess y x = false → x = y
  | [], [] => by simp
  | _ :: _, [] => by simp [Op.bytesLess]
  | [], _ :: _ => by simp [Op.bytesLess]
  | a :: x, b :: y => by
    intro h h'
    simp only [Op.bytesLess, Bool.or_eq_false_iff, Bool.and_eq_false_iff, decide_eq_false_iff_not, beq_eq_false_iff_ne] at h h'
    have h1 : ¬ a.toNat < b.toNat := h.1
    have h2 : ¬ b.toNat < a.toNat := h'.1
    have e : a = b := UInt8.toNat_inj.1 (by omega)
    subst e
    have h3 : Op.bytesLess x y = false := by rcases h.2 with q | q; exact absurd rfl q; exact q
    have h4 : Op.bytesLess y x = false := by rcases h'.2 with q | q; exact absurd rfl q; exact q
    rw [bl_tri x y h3 h4]
theorem minS_eq (x y : ByteArray) : Lib.minS x y = if Op.bytesLess y.toList x.toList then y else x := by
  unfold Lib.minS
  rw [Lib.toList_data, Lib.toList_data]
  have ha := bl_asymm y.data.toList x.data.toList
  have ht := bl_tri x.data.toList y.data.toList
  have e1 := Proofs.bytesLess_eq x.data.toList y.data.toList
  by_cases h : Op.bytesLess y.data.toList x.data.toList = true
  · have h1 := ha h
    rw [e1] at h1
    rw [if_pos h, if_neg]
    rintro (h2 | h2)
    · exact absurd h2 (of_decide_eq_false h1)
    · have := ha h
      rw [← h2] at h this; rw [h] at this; cases this
  · have h0 : Op.bytesLess y.data.toList x.data.toList = false := by simpa using h
    rw [if_neg h, if_pos]
    cases hb : Op.bytesLess x.data.toList y.data.toList
    · exact .inr (ht hb h0)
    · rw [e1] at hb; exact .inl (of_decide_eq_true hb)
def leastI (s : ByteArray) : Nat → ByteArray
  | 0 => turnB s 0
  | k + 1 => Lib.minS (leastI s k) (turnB s k)
theorem leastI_eq (s : ByteArray) : ∀ k, leastI s (k + 1) = leastF s k
  | 0 => by
    rw [leastI, leastI, leastF, minS_eq]
    split <;> rfl
  | k + 1 => by rw [leastI, leastI_eq s k, minS_eq, leastF]
set_option maxRecDepth 20000 in
set_option maxHeartbeats 800000 in
theorem iLeast_any (s : ByteArray) (w : World) (hw : isWd 3 s = true) (h0 : 0 < s.size) : Calls Try.prog 87 #[.string s] w fun e w' => e = .returned (.string (leastB s)) ∧ Drew w w' := by
  have h16 := (isWd_get hw).1
  have HW := Lib.hid hw
  have hz := turnB_size (s := s) (i := 0) (Nat.zero_le _)
  clear hw
  go_enter Try.func87, Try.ntmps87
  go_wp2_with (go_at_call 155; refine (iTurn_any _ 0 _ HW.out h0).mono ?_; rintro e w1 ⟨rfl, hd⟩)
  go_loopw [3, 9] (fun v x wr => ∃ k : Nat, k ≤ s.size ∧ v = .string (leastI s k) ∧ x = .int .i64 (k : Int) ∧ Drew w wr) (fun _ x _ => s.size - (intOf x).toNat)
  case atStart => exact ⟨0, by omega, rfl, rfl, hd⟩
  case round =>
    clear hd
    obtain ⟨k, hk, rfl, rfl, ⟨m, rfl⟩⟩ := hrel
    by_cases hlt : k < s.size
    · have hmx : ∀ (w : World) (ts : Array TypeId) (t : TypeId) (x y : ByteArray), (Builtin.min_ ts t #[.string x, .string y]).run Try.prog w = .ok (.string (Lib.minS x y)) w := Lib.run_min_strs
      go_wp2_with (first
        | (go_at_call 155; refine (iTurn_any _ k _ HW.out hlt).mono ?_; rintro e w1 ⟨rfl, ⟨m2, rfl⟩⟩))
      go_roundw
      case rel => exact ⟨k + 1, hlt, rfl, by go_num, Drew.mk _ _⟩
      case measure => simp [intOf]; omega
    · have e : leastB s = leastI s k := by
        have : k = (s.size - 1) + 1 := by omega
        rw [this, leastI_eq]; rfl
      have HE := Lib.hid e
      clear e
      go_wp2_with fail
      go_ret
      rw [HE.out]
      exact ⟨rfl, (by first | exact Drew.refl _ | exact Drew.mk _ _ | exact (Drew.mk _ _).drewN _)⟩
end Go.Proofs.Ytgcemkpinmjaeaa
