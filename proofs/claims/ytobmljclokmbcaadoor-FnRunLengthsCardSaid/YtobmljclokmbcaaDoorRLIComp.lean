/- IComp: a part of the proofs of this seat. -/
import Derived.StillTailTactics
import Derived.Test.YtobmljclokmbcaaDoorProg
import Derived.Test.YtobmljclokmbcaaDoorRLG1
namespace Go.Proofs.YtobmljclokmbcaaDoor
open Go.RowKit
set_option linter.all false
def cmpI (x y : Int) : Int := if x < y then -1 else if y < x then 1 else 0
def orI (a b c : Int) : Int := if a ≠ 0 then a else if b ≠ 0 then b else c
def cmpA (x y : Ar) : Int := orI (cmpI x.1 y.1) (cmpI x.2.2 y.2.2) (cmpI x.2.1 y.2.1)
theorem isNaN_any (x : Int) (w : World) : Calls Tryd.prog 132 #[.int .i64 x] w fun e w' => e = .returned (.bool false) ∧ w = w' := by
  have h : (x != x) = false := by simp
  go_enter Tryd.func132, Tryd.ntmps132
  go_wp2_with fail
  go_ret
  exact ⟨rfl, rfl⟩
theorem cmp_any (x y : Int) (w : World) : Calls Tryd.prog 125 #[.int .i64 x, .int .i64 y] w fun e w' => e = .returned (.int .i64 (cmpI x y)) ∧ w = w' := by
  by_cases h1 : x < y
  · have d1 : decide (x < y) = true := decide_eq_true h1
    have HE : Hid (cmpI x y = -1) := by show _ = _; simp [cmpI, h1]
    clear h1
    go_enter Tryd.func125, Tryd.ntmps125
    go_wp2_with (go_at_call 132; refine (isNaN_any _ _).mono ?_; rintro e w' ⟨rfl, rfl⟩)
    go_ret
    exact ⟨ret_int HE.out.symm, rfl⟩
  · have d1 : decide (x < y) = false := decide_eq_false h1
    by_cases h2 : y < x
    · have d2 : decide (y < x) = true := decide_eq_true h2
      have HE : Hid (cmpI x y = 1) := by show _ = _; simp [cmpI, h1, h2]
      clear h1 h2
      go_enter Tryd.func125, Tryd.ntmps125
      go_wp2_with (go_at_call 132; refine (isNaN_any _ _).mono ?_; rintro e w' ⟨rfl, rfl⟩)
      go_ret
      exact ⟨ret_int HE.out.symm, rfl⟩
    · have d2 : decide (y < x) = false := decide_eq_false h2
      have HE : Hid (cmpI x y = 0) := by show _ = _; simp [cmpI, h1, h2]
      clear h1 h2
      go_enter Tryd.func125, Tryd.ntmps125
      go_wp2_with (go_at_call 132; refine (isNaN_any _ _).mono ?_; rintro e w' ⟨rfl, rfl⟩)
      go_ret
      exact ⟨ret_int HE.out.symm, rfl⟩
theorem or_any (ao : Option Addr) (cap : Nat) (a b c : Int) (w : World) (h : Ints w ao 3 [a, b, c]) : Calls Tryd.prog 124 #[.slice ao 3 cap] w fun e w' => e = .returned (.int .i64 (orI a b c)) ∧ w = w' := by
  have H := Lib.hid h
  clear h
  go_enter Tryd.func124, Tryd.ntmps124
  go_wp2_with fail
  go_loop [8] (fun i => ∃ k : Nat, k ≤ 3 ∧ i = .int .i64 k ∧ Hid (∀ j, j < k → ([a, b, c] : List Int).getD j 0 = 0)) (fun i => 3 - (intOf i).toNat)
  case atStart => exact ⟨0, by omega, rfl, by show ∀ j, _; intro j hj; omega⟩
  case round =>
    obtain ⟨k, hk, rfl, hz⟩ := hrel
    by_cases hlt : k < 3
    · obtain ⟨bb, o, x, rfl, hc, hx⟩ := H.out.at_ hlt
      by_cases hx0 : x = 0
      · have e0 : (x != 0) = false := by simp [hx0]
        have HZ : Hid (∀ j, j < k + 1 → ([a, b, c] : List Int).getD j 0 = 0) := by
          show ∀ j, _
          intro j hj
          by_cases e : j = k
          · subst e; simp only [List.getD, hx.out]; exact hx0
          · exact hz.out j (by omega)
        clear hx0 hx hz
        go_wp2_with fail
        go_round
        case rel => exact ⟨k + 1, hlt, by go_num, HZ.out⟩
        case measure => simp [intOf]; omega
      · have e0 : (x != 0) = true := by simp [hx0]
        have HE : Hid (orI a b c = x) := by
          show _ = _
          have h := hx.out
          have hz := hz.out
          have h3 : k = 0 ∨ k = 1 ∨ k = 2 := by omega
          rcases h3 with rfl | rfl | rfl
          · simp at h; subst h; simp [orI, hx0]
          · simp at h; subst h
            have := hz 0 (by omega)
            simp at this; simp [orI, this, hx0]
          · simp at h; subst h
            have h0 := hz 0 (by omega)
            have h1 := hz 1 (by omega)
            simp at h0 h1; simp [orI, h0, h1]
        clear hx0 hx hz
        go_wp2_with fail
        go_ret
        exact ⟨ret_int HE.out.symm, rfl⟩
    · have HE : Hid (orI a b c = 0) := by
        show _ = _
        have hz := hz.out
        have h0 := hz 0 (by omega)
        have h1 := hz 1 (by omega)
        have h2 := hz 2 (by omega)
        simp at h0 h1 h2; simp [orI, h0, h1, h2]
      clear hz
      go_wp2_with fail
      go_ret
      exact ⟨ret_int HE.out.symm, rfl⟩
theorem cmpA_lt {x y : Ar} : decide (0 ≤ cmpA x y) = !ltA x y := by
  obtain ⟨a, b, c⟩ := x
  obtain ⟨d, e, f⟩ := y
  simp only [cmpA, ltA, cmpI, orI]
  by_cases h1 : a < d <;> by_cases h2 : d < a <;> by_cases h3 : c < f <;> by_cases h4 : f < c <;> by_cases h5 : b < e <;> by_cases h6 : e < b <;> simp [h1, h2, h3, h4, h5, h6] <;> omega
set_option maxRecDepth 20000 in
set_option maxHeartbeats 3200000 in
theorem compare_any (x y z a b c : Int) (w : World) : Calls Tryd.prog 112 #[.agg #[.int .i64 x, .int .i64 y, .int .i64 z], .agg #[.int .i64 a, .int .i64 b, .int .i64 c]] w fun e w' => e = .returned (.int .i64 (cmpA (x, y, z) (a, b, c))) ∧ Below w.heap.size w w' := by
  have hk0 := (Blk.new w 70 #[.int .i64 x, .int .i64 y, .int .i64 z]).alloc (.cells #[.int .i64 a, .int .i64 b, .int .i64 c] 70)
  have hk1 := Blk.new (w.alloc (.cells #[.int .i64 x, .int .i64 y, .int .i64 z] 70)) 70 #[.int .i64 a, .int .i64 b, .int .i64 c]
  have z1 : (w.alloc (.cells #[.int .i64 x, .int .i64 y, .int .i64 z] 70)).heap.size = w.heap.size + 1 := by simp
  rw [z1] at hk1
  have a0 := hk0.c0
  have a1 := hk0.c1
  have a2 := hk0.c2
  have b0 := hk1.c0
  have b1 := hk1.c1
  have b2 := hk1.c2
  have HB := Lib.hid (below2 w (.cells #[.int .i64 x, .int .i64 y, .int .i64 z] 70) (.cells #[.int .i64 a, .int .i64 b, .int .i64 c] 70))
  clear hk0 hk1 z1
  go_enter Tryd.func112, Tryd.ntmps112
  go_wp2_with fail
  generalize (w.alloc (.cells #[.int .i64 x, .int .i64 y, .int .i64 z] 70)).alloc (.cells #[.int .i64 a, .int .i64 b, .int .i64 c] 70) = w1 at a0 a1 a2 b0 b1 b2 HB ⊢
  have HBd := Lib.hid (below_drewN HB.out 1)
  have HI : Hid (Ints (w1.drew.alloc (.cells #[.int .i64 (cmpI x a), .int .i64 (cmpI z c), .int .i64 (cmpI y b)] 3)) (some ⟨w1.drew.heap.size, 0, none⟩) 3 [cmpI x a, cmpI z c, cmpI y b]) := by
    have hk := Blk.new w1.drew 3 #[.int .i64 (cmpI x a), .int .i64 (cmpI z c), .int .i64 (cmpI y b)]
    refine ⟨rfl, by omega, fun i hi => ⟨_, 0, rfl, ?_⟩⟩
    rw [Nat.zero_add, hk.cell i]
    have h3 : i = 0 ∨ i = 1 ∨ i = 2 := by simp at hi; omega
    rcases h3 with rfl | rfl | rfl <;> rfl
  have HB2 := Lib.hid (HBd.out.alloc HB.out.size (.cells #[.int .i64 (cmpI x a), .int .i64 (cmpI z c), .int .i64 (cmpI y b)] 3))
  go_still_tail 15, (by kernel_rfl)
  still_call ((cmp_any x a _).mono fun _ _ h => ⟨h.1, h.2.symm⟩)
  repeat still_step
  still_call ((cmp_any z c _).mono fun _ _ h => ⟨h.1, h.2.symm⟩)
  repeat still_step
  still_call ((cmp_any y b _).mono fun _ _ h => ⟨h.1, h.2.symm⟩)
  repeat still_step
  refine wpStill_nil ?_
  change wpList _ _ _ _ _ w1.drew
  go_wp2_with fail
  refine (or_any _ _ _ _ _ _ HI.out).mono ?_
  rintro e w' ⟨rfl, rfl⟩
  go_wp2_with fail
  go_ret
  exact ⟨rfl, HB2.out⟩
end Go.Proofs.YtobmljclokmbcaaDoor
