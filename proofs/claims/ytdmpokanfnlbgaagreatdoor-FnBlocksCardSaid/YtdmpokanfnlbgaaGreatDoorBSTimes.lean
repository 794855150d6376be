/- STimes: a part of the proofs of this seat. -/
import Derived.Test.YtdmpokanfnlbgaaGreatDoorProg
import Derived.Test.YtdmpokanfnlbgaaGreatDoorBG0a
import Derived.Test.YtdmpokanfnlbgaaGreatDoorBG0b
import Derived.Test.YtdmpokanfnlbgaaGreatDoorBThA
namespace Go.Proofs.YtdmpokanfnlbgaaGreatDoor
open Go.RowKit
set_option linter.all false
set_option maxHeartbeats 3200000 in
theorem sL4Times_any (pa : Option Addr) (na ca : Nat) (a : List (List Int)) (pb : Option Addr) (nb cb : Nat) (b : List (List Int)) (c : Nat) (w : World) (ha : Intss w pa na a) (hb : Intss w pb nb b)
    (hra : RowsLen a nb) (hrb : RowsLen b c) (hna : na ≤ 1048576) (hc : c ≤ 1048576) :
    Calls Tryz.prog 92 #[.slice pa na ca, .slice pb nb cb, .int .i64 c] w fun e w' => ∃ v, e = .returned v ∧ OIntss w' w.heap.size v na (mulT a b c) ∧ Below w.heap.size w w' := by
  have hmb := hb.2.1
  have HA := Lib.hid ha
  have HB := Lib.hid hb
  have HRA := Lib.hid hra
  have HRB := Lib.hid hrb
  have HLA : Hid (a.length = na) := ha.1
  have HLB : Hid (b.length = nb) := hb.1
  clear ha hb hra hrb
  go_enter Tryz.func92, Tryz.ntmps92
  go_wp2_with fail
  refine (sL4Zero_any na c _ hna hc).mono ?_
  rintro e w1 ⟨v, rfl, hown, hbl⟩
  obtain ⟨ao, cap, rfl, _⟩ := hown.form
  go_wp2_with fail
  go_loopw [8] (fun i wr => ∃ k : Nat, k ≤ na ∧ i = .int .i64 k ∧ OIntss wr w.heap.size (.slice ao na cap) na ((mulT a b c).take k ++ List.replicate (na - k) (List.replicate c 0)) ∧ Below w.heap.size w wr) (fun i _ => na - (intOf i).toNat)
  case atStart => exact ⟨0, Nat.zero_le _, rfl, by rw [fill_start]; exact hown, hbl⟩
  case round =>
    obtain ⟨i, hi, rfl, hown, hbl⟩ := hrel
    by_cases hlt : i < na
    · obtain ⟨b1, o1, a1, c1, ra, rfl, hca, hrow, hgeta⟩ := HA.out.at_ hlt
      have Hca := Lib.hid hca
      have Hrow := Lib.hid hrow
      have HRL : Hid (ra.length = nb) := HRA.out _ _ hgeta.out
      have hrl1 : ra.length ≤ nb := by have := HRL.out; omega
      have hrl2 : nb ≤ ra.length := by have := HRL.out; omega
      rw [fill_open hlt] at hown
      have hAl : ((mulT a b c).take i).length = i := take_len (by rw [mulT_len]; have := HLA.out; omega)
      have HAl := Lib.hid hAl
      obtain ⟨g, cap', e⟩ := hown.head (by omega)
      injection e with e1 e2 e3
      subst e1
      clear e2 e3 cap' hrow hca hAl
      have Hown := Lib.hid hown
      have Hbl := Lib.hid hbl
      clear hown hbl
      go_wp2_with fail
      go_loopw [9] (fun i' wr => ∃ j : Nat, j ≤ c ∧ i' = .int .i64 j ∧ OIntss wr w.heap.size (.slice (some ⟨g, 0, none⟩) na cap) na ((mulT a b c).take i ++ ((mulRow b c ra).take j ++ List.replicate (c - j) 0) :: List.replicate (na - (i + 1)) (List.replicate c 0)) ∧ Below w.heap.size w wr) (fun i _ => c - (intOf i).toNat)
      case atStart => exact ⟨0, Nat.zero_le _, rfl, by rw [fill_start]; exact Hown.out, Hbl.out⟩
      case round =>
        obtain ⟨j, hj, rfl, hown, hbl⟩ := hrel
        clear Hown Hbl
        by_cases hjc : j < c
        · rw [fill_open hjc] at hown
          have HBl : Hid (((mulRow b c ra).take j).length = j) := take_len (by rw [mulRow_len]; omega)
          have Hown := Lib.hid hown
          have Hbl := Lib.hid hbl
          clear hown hbl
          go_wp2_with fail
          go_loopw [10] (fun i' wr => ∃ k : Nat, k ≤ nb ∧ i' = .int .i64 k ∧ OIntss wr w.heap.size (.slice (some ⟨g, 0, none⟩) na cap) na ((mulT a b c).take i ++ ((mulRow b c ra).take j ++ wd b ra k j :: List.replicate (c - (j + 1)) 0) :: List.replicate (na - (i + 1)) (List.replicate c 0)) ∧ Below w.heap.size w wr) (fun i _ => nb - (intOf i).toNat)
          case atStart => exact ⟨0, Nat.zero_le _, rfl, by rw [wd_zero]; exact Hown.out, Hbl.out⟩
          case round =>
            obtain ⟨k, hk, rfl, hown, hbl⟩ := hrel
            clear Hown Hbl
            by_cases hkb : k < nb
            · obtain ⟨b2, o2, a2, c2, rb, rfl, hcb, hrowb, hgetb⟩ := HB.out.at_ hkb
              have hrbl : rb.length = c := HRB.out _ _ hgetb.out
              obtain ⟨b3, o3, x, rfl, hcx, hgetx⟩ := Hrow.out.at_ (k := k) (by omega)
              obtain ⟨b4, o4, y, rfl, hcy, hgety⟩ := hrowb.at_ (k := j) (by omega)
              have hkr : k < ra.length := by omega
              have hjr : j < rb.length := by omega
              have HW : Hid (wd b ra (k + 1) j = wrap64 (wd b ra k j + wrap64 (x * y))) := wd_succ hgetx.out hgetb.out hgety.out
              have h1 := (hbl.cell (World.block_lt_of_cell? w _ Hca.out)).trans Hca.out
              have h2 := (hbl.cell (World.block_lt_of_cell? w _ hcb)).trans hcb
              have h3 := (hbl.cell (World.block_lt_of_cell? w _ hcx)).trans hcx
              have h4 := (hbl.cell (World.block_lt_of_cell? w _ hcy)).trans hcy
              obtain ⟨gk, ck, h5, ho, hne, hlo⟩ := hown.rowAt (at_mid HAl.out) (by simp; omega)
              have hset := hown.setIn (at_mid HAl.out) h5 ho j (wrap64 (wd b ra k j + wrap64 (x * y)))
              rw [set_mid HAl.out, set_mid HBl.out, ← HW.out] at hset
              have hgj : ((mulRow b c ra).take j ++ wd b ra k j :: List.replicate (c - (j + 1)) 0)[j]? = some (wd b ra k j) := at_mid HBl.out
              have hlen : ((mulRow b c ra).take j ++ wd b ra k j :: List.replicate (c - (j + 1)) 0).length = c := by
                rw [List.length_append, HBl.out]; simp; omega
              rw [hlen] at h5 ho
              have h6 := ho.cell j hjc
              rw [List.getD, hgj] at h6
              have h7 := ho.frozen j
              have hb' := hbl.setCell (p := ⟨gk, j, none⟩) hlo (.int .i64 (wd b ra (k + 1) j))
              rw [HW.out] at hb'
              have Hset := Lib.hid hset
              have Hb' := Lib.hid hb'
              clear hset hb' ho hown hbl hgj hlen hcb hrowb hcx hcy hrbl
              simp only [Option.getD_some] at h6
              go_wp2_with fail
              go_region
              all_goals (go_wp2_with fail)
              all_goals go_roundw
              case rel => exact ⟨k + 1, hkb, by go_num, by rw [← HW.out]; first | exact Hset.out | exact Hset.out.drewN 1, by first | exact Hb'.out | exact Hb'.out.drew⟩
              case measure => simp [intOf]; omega
            · rw [wd_end (by omega) (by have := HLB.out; omega), fill_shut (mulRow_get hjc)] at hown
              have Hown := Lib.hid hown
              have Hbl := Lib.hid hbl
              clear hown hbl
              go_wp2_with fail
              go_roundw
              case rel => exact ⟨j + 1, hjc, by go_num, Hown.out, Hbl.out⟩
              case measure => simp [intOf]; omega
        · have hjc' : j = c := by omega
          subst hjc'
          rw [fill_end (mulRow_len b j ra), fill_shut (mulT_get hgeta.out)] at hown
          have Hown := Lib.hid hown
          have Hbl := Lib.hid hbl
          clear hown hbl
          go_wp2_with fail
          go_roundw
          case rel => exact ⟨i + 1, hlt, by go_num, Hown.out, Hbl.out⟩
          case measure => simp [intOf]; omega
    · go_wp2_with fail
      go_ret
      have : i = na := by omega
      subst this
      rw [fill_end (by rw [mulT_len]; exact HLA.out)] at hown
      exact ⟨_, rfl, hown, hbl⟩
end Go.Proofs.YtdmpokanfnlbgaaGreatDoor
