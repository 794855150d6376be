/- SRes: a part of the proofs of this seat. -/
import Derived.Test.YtaomoahcdlkifaaProg
import Derived.Test.YtaomoahcdlkifaaLabArcs
namespace Go.Proofs.Ytaomoahcdlkifaa
open Go.RowKit
set_option linter.all false
set_option maxRecDepth 40000 in
set_option maxHeartbeats 6400000 in
theorem sRes_any (L S : Int) (ao : Option Addr) (n cap : Nat) (xs : List Ar) (w : World) (h : Arcs w ao n xs) :
    Calls Try.prog 68 #[.agg #[.int .i64 L, .int .i64 S, .slice ao n cap]] w fun e w' => e = .returned (.bool (resF none xs)) ∧ Below w.heap.size w w' := by
  have hm := h.2.1
  have HL := Lib.hid h.1
  have HB1 := Lib.hid (below1 w (.cells #[.int .i64 L, .int .i64 S, .slice ao n cap] 26))
  have H := Lib.hid (h.keep HB1.out)
  have HK := Lib.hid (Blk.new w 26 #[.int .i64 L, .int .i64 S, .slice ao n cap])
  clear h
  go_enter Try.func68, Try.ntmps68
  go_wp2_with fail
  generalize w.alloc (.cells #[.int .i64 L, .int .i64 S, .slice ao n cap] 26) = w1 at HB1 H HK ⊢
  go_loopw [3] (fun x wr => ∃ k : Nat, k ≤ n ∧ x = .int .i64 ((k : Int) + 1) ∧ Hid (resF (prevOf xs (k + 1)) (xs.drop (k + 1)) = resF none xs) ∧ Below w1.heap.size w1 wr) (fun x _ => n + 1 - (intOf x).toNat)
  case atStart => exact ⟨0, Nat.zero_le _, rfl, res_one xs, Below.refl _ _⟩
  case round =>
    obtain ⟨j, hj, rfl, hr, hbl⟩ := hrel
    have HB := Lib.hid hbl
    have k2 := (HK.out.keep hbl).c2
    clear hbl
    by_cases hlt : j + 1 < n
    · obtain ⟨b, o, x, y, z, rfl, c1, c2, c3, hx⟩ := (H.out.keep HB.out).at_ hlt
      obtain ⟨bq, oq, qx, qy, qz, eq, d1, d2, d3, hq⟩ := (H.out.keep HB.out).at_ (k := j) (by omega)
      injection eq with eq
      injection eq with eq1 eq2
      subst eq1 eq2
      have HST := Lib.hid (res_step hx.out hr.out)
      have HQ := Lib.hid (differ_S (x := (x, y, z)) hq.out)
      have hjw : IntKind.i64.wrap ((j : Int) + 1 - 1) = (j : Int) := by rw [IntKind.wrap_i64]; omega
      have hj0 : IntKind.i64.wrap (j : Int) = (j : Int) := by rw [IntKind.wrap_i64]; omega
      have hjn : j < n := by omega
      have hjn2 : (j : Int) < (n : Int) := by omega
      have hjn3 : (j : Int) + 1 < (n : Int) := by omega
      have hj00 : (0 : Int) ≤ (j : Int) := by omega
      have hj01 : (0 : Int) ≤ (j : Int) + 1 := by omega
      have htn : ((j : Int) + 1).toNat = j + 1 := by omega
      clear hx hr hq
      by_cases g1 : x = qx
      · have e1 : (x == qx) = true := by simp [g1]
        by_cases g2 : z = qz
        · have e2 : (z == qz) = true := by simp [g2]
          have HR : Hid (resF none xs = false) := HST.out.1 (HQ.out.trans (by simp [g1, g2]))
          clear g1 g2
          go_wp2_with fail
          go_quiet (fail)
          go_wp2_with fail
          go_ret
          exact ⟨ret_bool HR.out.symm, step2 HB1.out (below_drewN HB.out _)⟩
        · have e2 : (z == qz) = false := by simp [g2]
          have HN : Hid _ := HST.out.2 (HQ.out.trans (by simp [g1, Ne.symm g2, eq_comm, g2]))
          clear g1 g2
          go_wp2_with fail
          go_quiet (fail)
          go_wp2_with fail
          go_roundw
          case rel => exact ⟨j + 1, by omega, by go_num, HN, below_drewN HB.out _⟩
          case measure => simp [intOf]; omega
      · have e1 : (x == qx) = false := by simp [g1]
        have HN : Hid _ := HST.out.2 (HQ.out.trans (by simp [eq_comm, g1]))
        clear g1
        go_wp2_with fail
        go_quiet (fail)
        go_wp2_with fail
        go_roundw
        case rel => exact ⟨j + 1, by omega, by go_num, HN, below_drewN HB.out _⟩
        case measure => simp [intOf]; omega
    · have HE := Lib.hid (res_end (by have := HL.out; omega) hr.out)
      have hd : decide ((j : Int) + 1 < (n : Int)) = false := decide_eq_false (by omega)
      clear hr
      go_wp2_with fail
      go_ret
      exact ⟨ret_bool HE.out.symm, step2 HB1.out HB.out⟩
end Go.Proofs.Ytaomoahcdlkifaa
