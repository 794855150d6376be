/- IRes: a part of the proofs of this seat. -/
import Derived.Test.YtaomoahcdlkifaaProg
import Derived.Test.YtaomoahcdlkifaaLabArcs
namespace Go.Proofs.Ytaomoahcdlkifaa
open Go.RowKit
set_option linter.all false
set_option maxRecDepth 40000 in
set_option maxHeartbeats 6400000 in
theorem iRes_any (L S : Int) (ao : Option Addr) (n cap : Nat) (xs : List Ar) (w : World) (h : Arcs w ao n xs) :
    Calls Try.prog 69 #[.agg #[.int .i64 L, .int .i64 S, .slice ao n cap]] w fun e w' => e = .returned (.bool (resF none xs)) ∧ Below w.heap.size w w' := by
  have hm := h.2.1
  have HL := Lib.hid h.1
  have HB1 := Lib.hid (below1 w (.cells #[.int .i64 L, .int .i64 S, .slice ao n cap] 26))
  have H := Lib.hid (h.keep HB1.out)
  have HK := Lib.hid (Blk.new w 26 #[.int .i64 L, .int .i64 S, .slice ao n cap])
  clear h
  go_enter Try.func69, Try.ntmps69
  go_wp2_with fail
  generalize w.alloc (.cells #[.int .i64 L, .int .i64 S, .slice ao n cap] 26) = w1 at HB1 H HK ⊢
  go_loopw [8] (fun x wr => ∃ k : Nat, k ≤ n ∧ x = .int .i64 k ∧ Hid (resF (prevOf xs k) (xs.drop k) = resF none xs) ∧ Below w1.heap.size w1 wr) (fun x _ => n - (intOf x).toNat)
  case atStart => exact ⟨0, Nat.zero_le _, rfl, rfl, Below.refl _ _⟩
  case round =>
    obtain ⟨k, hk, rfl, hr, hbl⟩ := hrel
    have HB := Lib.hid hbl
    clear hbl
    by_cases hlt : k < n
    · obtain ⟨b, o, x, y, z, rfl, c1, c2, c3, hx⟩ := (H.out.keep HB.out).at_ hlt
      have HST := Lib.hid (res_step hx.out hr.out)
      have HA := Lib.hid (Blk.new wr 58 #[.int .i64 x, .int .i64 y, .int .i64 z])
      have HB2 := Lib.hid (below1 wr (.cells #[.int .i64 x, .int .i64 y, .int .i64 z] 58))
      have HK2 := Lib.hid ((HK.out.keep HB.out).keep HB2.out)
      clear hx hr
      go_wp2_with fail
      generalize wr.alloc (.cells #[.int .i64 x, .int .i64 y, .int .i64 z] 58) = w5 at HA HB2 HK2 ⊢
      have HB5 := Lib.hid (HB.out.trans (HB2.out.mono HB.out.size))
      clear c1 c2 c3
      have a0 := HA.out.c0
      have a1 := HA.out.c1
      have a2 := HA.out.c2
      have k2 := HK2.out.c2
      rcases Nat.eq_zero_or_pos k with hk0 | hk0
      · subst hk0
        have HN := Lib.hid (HST.out.2 (differ_0 xs _))
        go_quiet (fail)
        go_wp2_with fail
        go_roundw
        case rel => exact ⟨0 + 1, hlt, by go_num, HN.out, below_drewN HB5.out _⟩
        case measure => simp [intOf]; omega
      · obtain ⟨j, rfl⟩ : ∃ j, k = j + 1 := ⟨k - 1, by omega⟩
        obtain ⟨bq, oq, qx, qy, qz, eq, c1, c2, c3, hq⟩ := ((H.out.keep HB.out).keep HB2.out).at_ (k := j) (by omega)
        injection eq with eq
        injection eq with eq1 eq2
        subst eq1 eq2
        have HQ := Lib.hid (differ_S (x := (x, y, z)) hq.out)
        have hjw : IntKind.i64.wrap ((j : Int) + 1 - 1) = (j : Int) := by rw [IntKind.wrap_i64]; omega
        have hpos : decide ((0 : Int) < (j : Int) + 1) = true := decide_eq_true (by omega)
        have hj0 : IntKind.i64.wrap (j : Int) = (j : Int) := by rw [IntKind.wrap_i64]; omega
        have hjn : j < n := by omega
        have hjn2 : (j : Int) < (n : Int) := by omega
        have hj00 : (0 : Int) ≤ (j : Int) := by omega
        clear hq hk0
        by_cases g1 : qx = x
        · have e1 : (qx == x) = true := by simp [g1]
          by_cases g2 : qz = z
          · have e2 : (qz == z) = true := by simp [g2]
            have HR : Hid (resF none xs = false) := HST.out.1 (HQ.out.trans (by simp [g1, g2]))
            clear g1 g2
            go_quiet (fail)
            go_wp2_with fail
            go_ret
            exact ⟨ret_bool HR.out.symm, step2 HB1.out (below_drewN HB5.out _)⟩
          · have e2 : (qz == z) = false := by simp [g2]
            have HN : Hid _ := HST.out.2 (HQ.out.trans (by simp [g2]))
            clear g1 g2
            go_quiet (fail)
            go_wp2_with fail
            go_roundw
            case rel => exact ⟨j + 1 + 1, hlt, by go_num, HN, below_drewN HB5.out _⟩
            case measure => simp [intOf]; omega
        · have e1 : (qx == x) = false := by simp [g1]
          have HN : Hid _ := HST.out.2 (HQ.out.trans (by simp [g1]))
          clear g1
          go_quiet (fail)
          go_wp2_with fail
          go_roundw
          case rel => exact ⟨j + 1 + 1, hlt, by go_num, HN, below_drewN HB5.out _⟩
          case measure => simp [intOf]; omega
    · have HE := Lib.hid (res_end (by have := HL.out; omega) hr.out)
      clear hr
      go_wp2_with fail
      go_ret
      exact ⟨ret_bool HE.out.symm, step2 HB1.out HB.out⟩
end Go.Proofs.Ytaomoahcdlkifaa
