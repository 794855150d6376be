/- SIsEnc: a part of the proofs of this seat. -/
import Derived.Test.YtaomoahcdlkifaaProg
import Derived.Test.YtaomoahcdlkifaaSIsRes
import Derived.Test.YtaomoahcdlkifaaSSums
namespace Go.Proofs.Ytaomoahcdlkifaa
open Go.RowKit
set_option linter.all false
set_option maxRecDepth 20000 in
set_option maxHeartbeats 3200000 in
theorem sIsEncoder_any (L S : Int) (ao : Option Addr) (n cap : Nat) (xs : List Ar) (w : World) (h : Arcs w ao n xs) :
    Calls Try.prog 26 #[.agg #[.int .i64 L, .int .i64 S, .slice ao n cap]] w fun e w' => e = .returned (.bool (isEnc L S xs)) ∧ Below w.heap.size w w' := by
  have hm := h.2.1
  have HL := Lib.hid h.1
  have HB1 := Lib.hid (below1 w (.cells #[.int .i64 L, .int .i64 S, .slice ao n cap] 26))
  have H := Lib.hid (h.keep HB1.out)
  have HK := Lib.hid (Blk.new w 26 #[.int .i64 L, .int .i64 S, .slice ao n cap])
  clear h
  cases b1 : isRes L S xs
  · have HR : Hid (isEnc L S xs = false) := by show _ = _; simp [isEnc, b1]
    have B1 := Lib.hid b1
    clear b1
    go_enter Try.func26, Try.ntmps26
    go_wp2_with fail
    generalize w.alloc (.cells #[.int .i64 L, .int .i64 S, .slice ao n cap] 26) = w1 at HB1 H HK ⊢
    refine (sIsRes_any _ _ _ _ _ xs _ H.out).mono ?_
    rw [B1.out]
    rintro e w2 ⟨rfl, hb2⟩
    go_wp2_with fail
    go_ret
    exact ⟨ret_bool HR.out.symm, step2 HB1.out hb2⟩
  · have HLb : Hid (isLab L S xs = true) := by show _ = _; simp only [isRes, Bool.and_eq_true] at b1; exact b1.1
    obtain ⟨_, hSr, _⟩ := isLab_get HLb.out
    obtain ⟨m, rfl⟩ : ∃ m : Nat, S = m := ⟨S.toNat, by omega⟩
    have HR : Hid (isEnc L m xs = manyF xs 0 m) := by show _ = _; simp [isEnc, b1]
    have B1 := Lib.hid b1
    have hm12 : m ≤ 12 := by omega
    clear b1
    go_enter Try.func26, Try.ntmps26
    go_wp2_with fail
    generalize w.alloc (.cells #[.int .i64 L, .int .i64 m, .slice ao n cap] 26) = w1 at HB1 H HK ⊢
    refine (sIsRes_any _ _ _ _ _ xs _ H.out).mono ?_
    rw [B1.out]
    rintro e w2 ⟨rfl, hb2⟩
    have HB2 := Lib.hid hb2
    have q := HK.out.keep hb2
    have q0 := q.c0
    have q1 := q.c1
    have q2 := q.c2
    have H2 := Lib.hid (H.out.keep hb2)
    clear q hb2
    go_wp2_with fail
    clear q0 q1 q2
    refine (sStateSums_any _ _ _ _ _ xs _ H2.out).mono ?_
    rintro e w3 ⟨v3, rfl, ho3, hb3⟩
    obtain ⟨a3, c3, rfl, hi3⟩ := ho3.form
    have HSM : Hid (stSums L m xs = sumsL m xs) := by show _ = _; simp [stSums, HLb.out]
    rw [HSM.out, sumsL_len] at hi3
    have HI3 := Lib.hid hi3
    have HN : Hid ((stSums L m xs).length = m) := by show _ = _; rw [HSM.out, sumsL_len]
    rw [HN.out]
    have HB3 := Lib.hid hb3
    clear ho3 hb3 hi3
    go_wp2_with fail
    go_loop [4] (fun x => ∃ p : Nat, p ≤ m ∧ x = .int .i64 p ∧ Hid (manyF xs p (m - p) = manyF xs 0 m)) (fun x => m - (intOf x).toNat)
    case atStart => exact ⟨0, Nat.zero_le _, rfl, rfl⟩
    case round =>
      obtain ⟨p, hp, rfl, hr⟩ := hrel
      by_cases hlt : p < m
      · obtain ⟨b, o, x, rfl, hc, hx⟩ := HI3.out.at_ hlt
        have hxe := hx.out
        rw [sumsL_get hlt] at hxe
        injection hxe with hxe
        subst hxe
        have hr2 := hr.out
        rw [show m - p = (m - (p + 1)) + 1 by omega] at hr2
        have HST := Lib.hid (many_step hr2)
        clear hx hr hr2
        by_cases h2 : 2 ≤ (fromL (p : Nat) xs).length
        · have d : decide (((fromL (p : Nat) xs).length : Int) < 2) = false := decide_eq_false (by omega)
          have HNx := Lib.hid (HST.out.2 h2)
          generalize (fromL (p : Nat) xs).length = cn at hc d h2
          go_wp2_with fail
          go_round
          case rel => exact ⟨p + 1, hlt, by go_num, HNx.out⟩
          case measure => simp [intOf]; omega
        · have d : decide (((fromL (p : Nat) xs).length : Int) < 2) = true := decide_eq_true (by omega)
          have HRx : Hid (isEnc L m xs = false) := HR.out.trans (HST.out.1 h2)
          generalize (fromL (p : Nat) xs).length = cn at hc d h2
          go_wp2_with fail
          go_ret
          exact ⟨ret_bool HRx.out.symm, step2 HB1.out (step2 HB2.out HB3.out)⟩
      · have HRx : Hid (isEnc L m xs = true) := by show _ = _; rw [HR.out, ← hr.out, show m - p = 0 by omega]; rfl
        clear hr
        go_wp2_with fail
        go_ret
        exact ⟨ret_bool HRx.out.symm, step2 HB1.out (step2 HB2.out HB3.out)⟩
end Go.Proofs.Ytaomoahcdlkifaa
