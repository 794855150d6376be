/- IIsEnc: a part of the proofs of this seat. -/
import Derived.Test.YtaomoahcdlkifaaProg
import Derived.Test.YtaomoahcdlkifaaIIsRes
import Derived.Test.YtaomoahcdlkifaaIFrom
namespace Go.Proofs.Ytaomoahcdlkifaa
open Go.RowKit
set_option linter.all false
set_option maxRecDepth 20000 in
set_option maxHeartbeats 3200000 in
theorem iIsEncoder_any (L S : Int) (ao : Option Addr) (n cap : Nat) (xs : List Ar) (w : World) (h : Arcs w ao n xs) :
    Calls Try.prog 27 #[.agg #[.int .i64 L, .int .i64 S, .slice ao n cap]] w fun e w' => e = .returned (.bool (isEnc L S xs)) ∧ Below w.heap.size w w' := by
  have hm := h.2.1
  have HL := Lib.hid h.1
  have HB1 := Lib.hid (below1 w (.cells #[.int .i64 L, .int .i64 S, .slice ao n cap] 26))
  have H := Lib.hid (h.keep HB1.out)
  have HK := Lib.hid (Blk.new w 26 #[.int .i64 L, .int .i64 S, .slice ao n cap])
  clear h
  cases b1 : isRes L S xs
  · have HR : Hid (isEnc L S xs = false) := by show _ = _; simp [isEnc, b1]
    have B1 := Lib.hid b1
    clear b1
    go_enter Try.func27, Try.ntmps27
    go_wp2_with fail
    generalize w.alloc (.cells #[.int .i64 L, .int .i64 S, .slice ao n cap] 26) = w1 at HB1 H HK ⊢
    refine (iIsRes_any _ _ _ _ _ xs _ H.out).mono ?_
    rw [B1.out]
    rintro e w2 ⟨rfl, hb2⟩
    go_wp2_with fail
    go_ret
    exact ⟨ret_bool HR.out.symm, step2 HB1.out hb2⟩
  · have HLb : Hid (isLab L S xs = true) := by show _ = _; simp only [isRes, Bool.and_eq_true] at b1; exact b1.1
    obtain ⟨_, hSr, _⟩ := isLab_get HLb.out
    obtain ⟨m, rfl⟩ : ∃ m : Nat, S = m := ⟨S.toNat, by omega⟩
    have HR : Hid (isEnc L m xs = manyF xs 0 m) := by show _ = _; simp [isEnc, b1]
    have B1 := Lib.hid b1
    have hm12 : m ≤ 12 := by omega
    clear b1
    go_enter Try.func27, Try.ntmps27
    go_wp2_with fail
    generalize w.alloc (.cells #[.int .i64 L, .int .i64 m, .slice ao n cap] 26) = w1 at HB1 H HK ⊢
    refine (iIsRes_any _ _ _ _ _ xs _ H.out).mono ?_
    rw [B1.out]
    rintro e w2 ⟨rfl, hb2⟩
    have HB2 := Lib.hid hb2
    have q := HK.out.keep hb2
    have q0 := q.c0
    have q1 := q.c1
    have q2 := q.c2
    have H2 := Lib.hid (H.out.keep hb2)
    clear q hb2
    go_wp2_with fail
    clear q0 q1 q2
    go_loopw [9] (fun x wr => ∃ p : Nat, p ≤ m ∧ x = .int .i64 p ∧ Hid (manyF xs p (m - p) = manyF xs 0 m) ∧ Below w1.heap.size w1 wr) (fun x _ => m - (intOf x).toNat)
    case atStart => exact ⟨0, Nat.zero_le _, rfl, rfl, HB2.out⟩
    case round =>
      obtain ⟨p, hp, rfl, hr, hbl⟩ := hrel
      have HB := Lib.hid hbl
      have q := HK.out.keep hbl
      have q0 := q.c0
      have q1 := q.c1
      have q2 := q.c2
      have H3 := Lib.hid (H.out.keep hbl)
      clear q hbl
      by_cases hlt : p < m
      · have hr2 := hr.out
        rw [show m - p = (m - (p + 1)) + 1 by omega] at hr2
        have HST := Lib.hid (many_step hr2)
        clear hr hr2
        go_wp2_with fail
        refine (iFrom_any _ _ _ _ _ xs p _ H3.out).mono ?_
        rintro e w3 ⟨v3, rfl, ho3, hb3⟩
        obtain ⟨a3, c3, rfl, _⟩ := ho3.form
        have HB3 := Lib.hid (HB.out.trans (hb3.mono HB.out.size))
        clear ho3 hb3
        by_cases h2 : 2 ≤ (fromL (p : Nat) xs).length
        · have d : decide (((fromL (p : Nat) xs).length : Int) < 2) = false := decide_eq_false (by omega)
          have HNx := Lib.hid (HST.out.2 h2)
          generalize (fromL (p : Nat) xs).length = cn at d h2 ⊢
          go_wp2_with fail
          go_roundw
          case rel => exact ⟨p + 1, hlt, by go_num, HNx.out, HB3.out⟩
          case measure => simp [intOf]; omega
        · have d : decide (((fromL (p : Nat) xs).length : Int) < 2) = true := decide_eq_true (by omega)
          have HRx : Hid (isEnc L m xs = false) := HR.out.trans (HST.out.1 h2)
          generalize (fromL (p : Nat) xs).length = cn at d h2 ⊢
          go_wp2_with fail
          go_ret
          exact ⟨ret_bool HRx.out.symm, step2 HB1.out HB3.out⟩
      · have HRx : Hid (isEnc L m xs = true) := by show _ = _; rw [HR.out, ← hr.out, show m - p = 0 by omega]; rfl
        clear hr
        go_wp2_with fail
        go_ret
        exact ⟨ret_bool HRx.out.symm, step2 HB1.out HB.out⟩
end Go.Proofs.Ytaomoahcdlkifaa
