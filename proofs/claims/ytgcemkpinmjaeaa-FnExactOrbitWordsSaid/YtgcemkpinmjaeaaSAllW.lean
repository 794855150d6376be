/- SAllW: a part of the proofs of this seat. -/
import Derived.Deep.RegionLaw
import Derived.Test.YtgcemkpinmjaeaaProg
import Derived.Test.YtgcemkpinmjaeaaWordsT
namespace Go.Proofs.Ytgcemkpinmjaeaa
open Go.RowKit
set_option linter.all false
set_option maxRecDepth 20000 in
set_option maxHeartbeats 6400000 in
theorem sAllW_any (k n : Nat) (w : World) (hk : 1 ≤ k) (hk3 : k ≤ 3) (hn : n ≤ 8) :
    Calls Try.prog 77 #[.int .i64 k, .int .i64 n] w fun e w' => ∃ v, e = .returned v ∧ OStrs w' w.heap.size v (allW k n).length (allW k n) ∧ Below w.heap.size w w' := by
  have H0 := Lib.hid (OStrs.lit w w.heap.size [⟨#[]⟩] (Nat.le_refl _) (by simp))
  go_enter Try.func77, Try.ntmps77
  go_wp2_with fail
  go_loopw [5, 6] (fun v x wr => ∃ i : Nat, i ≤ n ∧ x = .int .i64 i ∧ OStrs wr w.heap.size v (k ^ i) (allW k i) ∧ Below w.heap.size w wr) (fun _ x _ => n - (intOf x).toNat)
  case atStart => exact ⟨0, Nat.zero_le _, rfl, by rw [allW_zero]; simpa using H0.out, belowA _ _⟩
  case round =>
    obtain ⟨i, hi, rfl, hown, hbl⟩ := hrel
    obtain ⟨wo, rfl⟩ : ∃ wo : World, wo = wr := ⟨_, rfl⟩
    clear H0
    by_cases hlt : i < n
    · obtain ⟨a5, c5, rfl, hi5⟩ := hown.form
      have HR := Lib.hid hi5
      have HB := Lib.hid hbl
      obtain ⟨M, hM⟩ : ∃ M, k ^ i = M := ⟨_, rfl⟩
      have HM := Lib.hid hM
      have hMb : M ≤ 6561 := by rw [← hM]; exact pow_le_of hk3 (by omega)
      rw [hM] at HR hown ⊢
      have HEm := Lib.hid (OStrs.empty wo wo.heap.size (Nat.le_refl _))
      clear hown hbl hi5 hM
      go_wp2_with fail
      go_loopw [7, 8] (fun v x wx => ∃ j q : Nat, j ≤ M ∧ q = j * k ∧ q ≤ 19683 ∧ x = .int .i64 j ∧ OStrs wx wo.heap.size v q ((allW k (i + 1)).take q) ∧ Below wo.heap.size wo wx) (fun _ x _ => M - (intOf x).toNat)
      case atStart => exact ⟨0, 0, Nat.zero_le _, by simp, Nat.zero_le _, rfl, by simpa using HEm.out, belowA _ _⟩
      case round =>
        obtain ⟨j, q, hj, hq, hqb, rfl, hown, hbl⟩ := hrel
        clear HEm
        by_cases hjt : j < M
        · obtain ⟨b, o, s, rfl, hcw, hs⟩ := HR.out.at_ hjt
          have hsj : s = wordN k i j := Option.some.inj (hs.out.symm.trans (allW_get (by rw [HM.out]; exact hjt)))
          have hss : s.size ≤ 8 := by rw [hsj, wordN_size]; omega
          have HSJ := Lib.hid hsj
          have Hcw := Lib.hid hcw
          have HO := Lib.hid hown
          have HBx := Lib.hid hbl
          have HQ := Lib.hid hq
          clear hcw hs hown hbl hsj hq
          go_wp2_with fail
          go_loopw [7, 9] (fun v x wx => ∃ y z : Nat, y ≤ k ∧ z ≤ q + y ∧ q + y ≤ z ∧ x = .int .i64 y ∧ OStrs wx wo.heap.size v z ((allW k (i + 1)).take z) ∧ Below wo.heap.size wo wx) (fun _ x _ => k - (intOf x).toNat)
          case atStart => exact ⟨0, q, Nat.zero_le _, by omega, by omega, rfl, HO.out, HBx.out⟩
          case round =>
            obtain ⟨y, z, hy, hz1, hz2, rfl, hown, hbl⟩ := hrel
            have hz : Hid (z = q + y) := by show _ = _; omega
            obtain ⟨a7, c7, rfl, _⟩ := hown.form
            by_cases hyt : y < k
            · have hx3 : y < 3 := by omega
              have hget : (allW k (i + 1))[z]? = some (s ++ (⟨#[97, 98, 99]⟩ : ByteArray).extract y (y + 1)) := by
                rw [abc_at hx3, HSJ.out, ← word_snoc hyt, hz.out, HQ.out]
                exact allW_get (idx_lt (by rw [HM.out]; exact hjt) hyt)
              have HG := Lib.hid hget
              have hc0 : wr.drew.cell? ⟨b, o + j, none⟩ = some (.string s) := (hbl.cell (World.block_lt_of_cell? wo _ Hcw.out)).trans Hcw.out
              have HO2 : Hid (OStrs wr.drew wo.heap.size (.slice a7 z c7) z ((allW k (i + 1)).take z)) := hown.drewN 1
              have HB2 : Hid (Below wo.heap.size wo wr.drew) := hbl.drew
              have hzb : z ≤ 19700 := by omega
              clear hget hown hbl
              go_wp2_with fail
              have hw1 : IntKind.i64.wrap ((y : Int) + 1) = (y : Int) + 1 := IntWalk.i64_in _ (by omega)
              have hw2 : (0 : Int) ≤ (y : Int) + 1 := by omega
              have hcs : ¬ (9223372036854775807 < s.size + (min (y + 1) 3 - y)) := by omega
              have hw4 : (y : Int) + 1 ≤ 3 := by omega
              have hw5 : (y : Int) ≤ (y : Int) + 1 := by omega
              have hw3 : ((y : Int) + 1).toNat = y + 1 := by omega
              go_region_law (first
                | (refine step_of_wp rfl (wp_push_str wr.drew _ (.tmp 28) (.tmp 38) rfl wo.heap.size _ _ _ rfl HO2.out (by omega) (by exact HB2.out.size) _ rfl rfl ?_); intro v1 w1 ho1 hb1; have HO3 := Lib.hid ho1; have HB3 := Lib.hid (HB2.out.trans hb1); clear ho1 hb1))
              all_goals (go_wp2_with fail)
              all_goals go_roundw
              all_goals first
                | (have h3 := HO3.out
                   rw [push_take HG.out] at h3
                   exact ⟨y + 1, z + 1, hyt, by omega, by omega, by go_num, h3, HB3.out⟩)
                | (simp [intOf] <;> omega)
            · have e : y = k := by omega
              subst e
              have HO3 := Lib.hid hown
              have HB3 := Lib.hid hbl
              have hqq : z = (j + 1) * y := by rw [Nat.add_mul, Nat.one_mul, hz.out, HQ.out]
              have HQQ := Lib.hid hqq
              have hzb : z ≤ 19683 := by rw [hqq]; exact Nat.le_trans (Nat.mul_le_mul (show j + 1 ≤ 6561 by omega) hk3) (by decide)
              clear hown hbl hqq
              go_wp2_with fail
              go_roundw
              case rel => exact ⟨j + 1, z, hjt, HQQ.out, hzb, by go_num, HO3.out, HB3.out⟩
              case measure => (simp [intOf] <;> omega)
        · have e : j = M := by omega
          subst e
          have he : q = k ^ (i + 1) := by rw [hq, Nat.pow_succ, HM.out]
          rw [List.take_of_length_le (by rw [allW_len, he]; exact Nat.le_refl _), he] at hown
          obtain ⟨a7, c7, rfl, _⟩ := hown.form
          have HO3 := Lib.hid (hown.mono HB.out.size)
          have HB3 := Lib.hid (HB.out.trans (hbl.mono HB.out.size))
          clear hown hbl he hq
          go_wp2_with fail
          go_roundw
          case rel => exact ⟨i + 1, hlt, by go_num, HO3.out, HB3.out⟩
          case measure => (simp [intOf] <;> omega)
    · have e : i = n := by omega
      subst e
      have HO := Lib.hid hown
      have HB := Lib.hid hbl
      clear hown hbl
      go_wp2_with fail
      go_ret
      rw [allW_len]
      exact ⟨_, rfl, HO.out, HB.out⟩
end Go.Proofs.Ytgcemkpinmjaeaa
