/- Euclid's numbers, as both programs reckon them. -/
import Derived.Test.YtjkpndhfdlnpdaaProg
import Derived.Test.YtjkpndhfdlnpdaaBase
namespace Go.Proofs.Ytjkpndhfdlnpdaa
open Go.RowKit
set_option linter.all false
theorem gcd_step (a b : Int) : Int.gcd b (a.tmod b) = Int.gcd a b := by
  show Nat.gcd b.natAbs (a.tmod b).natAbs = Nat.gcd a.natAbs b.natAbs
  rw [Int.natAbs_tmod, Nat.gcd_comm a.natAbs b.natAbs, Nat.gcd_rec b.natAbs a.natAbs]
  exact Nat.gcd_comm _ _
theorem tmod_lt {a b : Int} (h : b ≠ 0) : (a.tmod b).natAbs < b.natAbs := by
  rw [Int.natAbs_tmod]
  exact Nat.mod_lt _ (by omega)
def Small62 (x : Int) : Prop := -4611686018427387904 ≤ x ∧ x ≤ 4611686018427387904
theorem tmod_small {a b : Int} (h : b ≠ 0) (hb : Small62 b) : Small62 (a.tmod b) := by
  have := tmod_lt (a := a) h
  obtain ⟨h1, h2⟩ := hb
  constructor <;> omega
def gcdI (a b : Int) : Int := (Int.gcd a b : Int)
theorem gcdI_small {a b : Int} (ha : Small62 a) (hb : Small62 b) : 0 ≤ gcdI a b ∧ Small62 (gcdI a b) := by
  have h0 : 0 ≤ gcdI a b := Int.natCast_nonneg _
  refine ⟨h0, ?_⟩
  unfold gcdI at *
  by_cases h : b = 0
  · subst h
    rw [Int.gcd_zero_right]
    obtain ⟨h1, h2⟩ := ha
    constructor <;> omega
  · have h1 : Int.gcd a b ≤ b.natAbs := Nat.le_of_dvd (by omega) (Nat.gcd_dvd_right _ _)
    obtain ⟨h2, h3⟩ := hb
    constructor <;> omega

set_option maxHeartbeats 800000 in
theorem l1Max_any (x y : Int) (w : World) :
    Calls Try.prog 126 #[.int .i64 x, .int .i64 y] w fun e w' => e = .returned (.int .i64 (if y < x then x else y)) ∧ w = w' := by
  by_cases h : y < x
  · rw [if_pos h]
    go_enter Try.func126, Try.ntmps126
    go_wp2_with fail
    go_ret
    exact ⟨rfl, rfl⟩
  · rw [if_neg h]
    go_enter Try.func126, Try.ntmps126
    go_wp2_with fail
    go_ret
    exact ⟨rfl, rfl⟩

set_option maxHeartbeats 800000 in
theorem sGcd_any (a b : Int) (w : World) (ha : Small62 a) (hb : Small62 b) :
    Calls Try.prog 103 #[.int .i64 a, .int .i64 b] w fun e w' => e = .returned (.int .i64 (gcdI a b)) ∧ w = w' := by
  obtain ⟨ha1, ha2⟩ := ha
  obtain ⟨hb1, hb2⟩ := hb
  go_enter Try.func103, Try.ntmps103
  go_wp2_with fail
  go_loop [0, 1] (fun u v => ∃ x y : Int, u = .int .i64 x ∧ v = .int .i64 y ∧ Hid (Small62 x) ∧ Hid (Small62 y) ∧ Hid (Int.gcd x y = Int.gcd a b)) (fun _ v => (intOf v).natAbs)
  case atStart => exact ⟨a, b, rfl, rfl, ⟨ha1, ha2⟩, ⟨hb1, hb2⟩, rfl⟩
  case round =>
    obtain ⟨x, y, rfl, rfl, hx, hy, hg⟩ := hrel
    by_cases h0 : y = 0
    · subst h0
      obtain ⟨hx1, hx2⟩ := hx.out
      have hg' := hg.out
      rw [Int.gcd_zero_right] at hg'
      have hv : Hid ((if -x < x then x else -x) = gcdI a b) := by
        show (if -x < x then x else -x) = gcdI a b
        unfold gcdI
        rw [← hg']
        split <;> omega
      clear hg hg' hx hy
      by_cases hs : -x < x
      · have hv1 : Hid (x = gcdI a b) := by have := hv.out; rw [if_pos hs] at this; exact this
        go_wp2_with (first | (go_at_call 126; refine (l1Max_any _ _ _).mono ?_; rintro e w' ⟨rfl, rfl⟩))
        go_ret
        exact ⟨ret_int hv1.out, rfl⟩
      · have hv1 : Hid (-x = gcdI a b) := by have := hv.out; rw [if_neg hs] at this; exact this
        go_wp2_with (first | (go_at_call 126; refine (l1Max_any _ _ _).mono ?_; rintro e w' ⟨rfl, rfl⟩))
        go_ret
        exact ⟨ret_int hv1.out, rfl⟩
    · have hs : Hid (Small62 (x.tmod y)) := tmod_small h0 hy.out
      have hg1 : Hid (Int.gcd y (x.tmod y) = Int.gcd a b) := (gcd_step x y).trans hg.out
      have hlt : Hid ((x.tmod y).natAbs < y.natAbs) := tmod_lt h0
      have hne : (y != 0) = true := by simp [h0]
      obtain ⟨hx1, hx2⟩ := hx.out
      obtain ⟨hy1, hy2⟩ := hy.out
      clear hg hx
      go_wp2_with fail
      go_round
      case rel => exact ⟨y, x.tmod y, rfl, rfl, hy, hs, hg1⟩
      case measure => have := hlt.out; rw [Int.natAbs_tmod] at this; simp [intOf]; exact this

set_option maxHeartbeats 800000 in
theorem iGcd_any (a b : Int) (w : World) (ha : Small62 a) (hb : Small62 b) :
    Calls Try.prog 123 #[.int .i64 a, .int .i64 b] w fun e w' => e = .returned (.int .i64 (gcdI a b)) ∧ Drew w w' := by
  obtain ⟨ha1, ha2⟩ := ha
  obtain ⟨hb1, hb2⟩ := hb
  go_enter Try.func123, Try.ntmps123
  go_wp2_with fail
  go_loopw [0, 1] (fun u v wr => ∃ x y : Int, u = .int .i64 x ∧ v = .int .i64 y ∧ Drew w wr ∧ Hid (Small62 x) ∧ Hid (Small62 y) ∧ Hid (Int.gcd x y = Int.gcd a b)) (fun _ v _ => (intOf v).natAbs)
  case atStart => exact ⟨a, b, rfl, rfl, Drew.refl w, ⟨ha1, ha2⟩, ⟨hb1, hb2⟩, rfl⟩
  case round =>
    obtain ⟨x, y, rfl, rfl, ⟨m, rfl⟩, hx, hy, hg⟩ := hrel
    by_cases h0 : y = 0
    · subst h0
      obtain ⟨hx1, hx2⟩ := hx.out
      have hg' := hg.out
      rw [Int.gcd_zero_right] at hg'
      have hv : Hid (max x (-x) = gcdI a b) := by
        show max x (-x) = gcdI a b
        unfold gcdI
        rw [← hg']
        omega
      clear hg hg' hx hy
      by_cases hs : -x < x
      · have hv1 : Hid (x = gcdI a b) := by have := hv.out; show x = _; omega
        go_wp2_with fail
        go_ret
        exact ⟨ret_int hv1.out, (by first | exact Drew.refl _ | exact Drew.mk _ _ | exact (Drew.mk _ _).drewN _)⟩
      · have hv1 : Hid (-x = gcdI a b) := by have := hv.out; show -x = _; omega
        go_wp2_with fail
        all_goals go_ret
        all_goals exact ⟨ret_int (by have := hv1.out; omega), (by first | exact Drew.refl _ | exact Drew.mk _ _ | exact (Drew.mk _ _).drewN _)⟩
    · have hs : Hid (Small62 (x.tmod y)) := tmod_small h0 hy.out
      have hg1 : Hid (Int.gcd y (x.tmod y) = Int.gcd a b) := (gcd_step x y).trans hg.out
      have hlt : Hid ((x.tmod y).natAbs < y.natAbs) := tmod_lt h0
      have hne : (y != 0) = true := by simp [h0]
      obtain ⟨hx1, hx2⟩ := hx.out
      obtain ⟨hy1, hy2⟩ := hy.out
      clear hg hx
      go_wp2_with fail
      go_quiet (fail)
      go_wp2_with fail
      go_roundw
      case rel => exact ⟨y, x.tmod y, rfl, rfl, (by first | exact Drew.refl _ | exact Drew.mk _ _ | exact (Drew.mk _ _).drewN _), hy, hs, hg1⟩
      case measure => have := hlt.out; rw [Int.natAbs_tmod] at this; simp [intOf]; exact this
end Go.Proofs.Ytjkpndhfdlnpdaa
