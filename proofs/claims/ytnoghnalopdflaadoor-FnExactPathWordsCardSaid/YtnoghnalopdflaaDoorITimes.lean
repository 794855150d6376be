/- ITimes: a part of the proofs of this seat. -/
import Derived.Test.YtnoghnalopdflaaDoorProg
import Derived.Test.YtnoghnalopdflaaDoorBase
import Derived.Test.YtnoghnalopdflaaDoorThA
namespace Go.Proofs.YtnoghnalopdflaaDoor
open Go.RowKit
set_option linter.all false
set_option maxHeartbeats 3200000 in
theorem iTimes_any (pa : Option Addr) (na ca : Nat) (a : List (List Int)) (pb : Option Addr) (nb cb : Nat) (b : List (List Int)) (c : Nat) (w : World) (ha : Intss w pa na a) (hb : Intss w pb nb b)
    (hra : RowsLen a nb) (hrb : RowsLen b c) (hna : na ≤ 1048576) (hc : c ≤ 1048576) (hnb : 0 < nb) :
    Calls Tryd.prog 185 #[.slice pa na ca, .slice pb nb cb] w fun e w' => ∃ v, e = .returned v ∧ OIntss w' w.heap.size v na (mulT a b c) ∧ Below w.heap.size w w' := by
  have hmb := hb.2.1
  have HA := Lib.hid ha
  have HB := Lib.hid hb
  have HRA := Lib.hid hra
  have HRB := Lib.hid hrb
  have HLA : Hid (a.length = na) := ha.1
  have HLB : Hid (b.length = nb) := hb.1
  obtain ⟨b0, o0, a0, c0, r0, rfl, hc0, hrow0, hget0⟩ := hb.at_ hnb
  have hr0 : r0.length = c := hrb _ _ hget0.out
  rw [hr0, Nat.add_zero] at hc0
  have HC0 := Lib.hid hc0
  clear ha hb hra hrb hrow0 hget0 hr0 hc0
  have hmk := make_ints c (by omega)
  go_enter Tryd.func185, Tryd.ntmps185
  go_wp2_with fail
  go_loopw [5, 16] (fun v i wr => ∃ k : Nat, k ≤ na ∧ i = .int .i64 k ∧ OIntss wr w.heap.size v k ((mulT a b c).take k) ∧ Below w.heap.size w wr) (fun _ i _ => na - (intOf i).toNat)
  case atStart => exact ⟨0, Nat.zero_le _, rfl, OIntss.empty w _ (Nat.le_refl _), (Below.refl _ _).alloc (Nat.le_refl _) _⟩
  case round =>
    obtain ⟨i, hi, rfl, hown, hbl⟩ := hrel
    obtain ⟨wo, rfl⟩ : ∃ wo : World, wo = wr := ⟨_, rfl⟩
    by_cases hlt : i < na
    · obtain ⟨b1, o1, a1, c1, ra, rfl, hca, hrow, hgeta⟩ := HA.out.at_ hlt
      have Hrow := Lib.hid hrow
      have HRL : Hid (ra.length = nb) := HRA.out _ _ hgeta.out
      have hrl1 : ra.length ≤ nb := by have := HRL.out; omega
      have h1 := (hbl.cell (World.block_lt_of_cell? w _ hca)).trans hca
      have h0 := (hbl.cell (World.block_lt_of_cell? w _ HC0.out)).trans HC0.out
      have Hown := Lib.hid hown
      have Hbl := Lib.hid hbl
      clear hrow hca hown hbl
      go_wp2_with fail
      clear h1 h0
      have hmade := OInts.made wo c (by omega)
      rw [← wline_zero b ra] at hmade
      go_loopw [27] (fun i' wx => ∃ k : Nat, k ≤ ra.length ∧ i' = .int .i64 k ∧ OInts wx wo.heap.size (.slice (some ⟨wo.heap.size, 0, none⟩) c c) c (wline b ra c k) ∧ Below wo.heap.size wo wx) (fun i _ => ra.length - (intOf i).toNat)
      case atStart => exact ⟨0, Nat.zero_le _, rfl, hmade, (Below.refl _ _).alloc (Nat.le_refl _) _⟩
      case round =>
        obtain ⟨k, hk, rfl, hline, hbx⟩ := hrel
        clear hmade
        have hbw := Hbl.out.trans (hbx.mono Hbl.out.size)
        by_cases hkr : k < ra.length
        · obtain ⟨b2, o2, a2, c2, rb, e, hcb, hrowb, hgetb⟩ := HB.out.at_ (k := k) (by omega)
          injection e with e
          injection e with e1 e2
          subst e1
          subst e2
          have hrbl : rb.length = c := HRB.out _ _ hgetb.out
          obtain ⟨b3, o3, x, rfl, hcx, hgetx⟩ := Hrow.out.at_ (k := k) hkr
          have h2 := (hbw.cell (World.block_lt_of_cell? w _ hcb)).trans hcb
          have h3 := (hbw.cell (World.block_lt_of_cell? w _ hcx)).trans hcx
          have hkb : k < nb := by omega
          have hlc1 : rb.length ≤ c := by omega
          have hlc2 : c ≤ rb.length := by omega
          have Hrowb := Lib.hid hrowb
          have Hline := Lib.hid hline
          have Hbx := Lib.hid hbx
          clear hrowb hrbl hcb hcx hline hbx hbw
          go_wp2_with fail
          clear h2 h3
          go_loopw [37] (fun i' wy => ∃ j : Nat, j ≤ rb.length ∧ i' = .int .i64 j ∧ OInts wy wo.heap.size (.slice (some ⟨wo.heap.size, 0, none⟩) c c) c ((wline b ra c (k + 1)).take j ++ (wline b ra c k).drop j) ∧ Below wo.heap.size wo wy) (fun i _ => c - (intOf i).toNat)
          case atStart => exact ⟨0, Nat.zero_le _, rfl, by simpa using Hline.out, Hbx.out⟩
          case round =>
            obtain ⟨j, hj, rfl, hline, hbx⟩ := hrel
            clear Hline Hbx
            have hbw := Hbl.out.trans (hbx.mono Hbl.out.size)
            by_cases hjc : j < rb.length
            · obtain ⟨b4, o4, y, rfl, hcy, hgety⟩ := Hrowb.out.at_ (k := j) hjc
              have HW : Hid (wd b ra (k + 1) j = wrap64 (wd b ra k j + wrap64 (x * y))) := wd_succ hgetx.out hgetb.out hgety.out
              have h4 := (hbw.cell (World.block_lt_of_cell? w _ hcy)).trans hcy
              have hjc' : j < c := by omega
              have h6 := hline.cell j hjc'
              rw [List.getD, mix_get (by rw [wline_len]; omega) (wline_get hjc'), Option.getD_some] at h6
              have h7 := hline.frozen j
              have hset := hline.set j (wd b ra (k + 1) j)
              rw [mix_set (wline_get hjc') (wline_get hjc')] at hset
              have hb' := hbx.setCell (p := ⟨wo.heap.size, j, none⟩) (Nat.le_refl _) (.int .i64 (wd b ra (k + 1) j))
              have Hset := Lib.hid hset
              have Hb' := Lib.hid hb'
              clear hset hb' hline hbx hbw hcy
              go_wp2_with fail
              go_roundw
              case rel => exact ⟨j + 1, hjc, by go_num, by rw [← HW.out]; first | exact Hset.out | exact Hset.out.drewN 1, by rw [← HW.out]; first | exact Hb'.out | exact Hb'.out.drew⟩
              case measure => simp [intOf]; omega
            · have hjc' : j = c := by omega
              subst hjc'
              rw [mix_end (wline_len b ra j (k + 1)) (wline_len b ra j k)] at hline
              have Hline := Lib.hid hline
              have Hbx := Lib.hid hbx
              clear hline hbx hbw
              go_wp2_with fail
              go_roundw
              case rel => exact ⟨k + 1, hkr, by go_num, Hline.out, Hbx.out⟩
              case measure => simp [intOf]; omega
        · rw [wline_end (by omega) (by have := HLB.out; have := HRL.out; omega)] at hline
          have Hline := Lib.hid hline
          have Hbx := Lib.hid hbx
          clear hline hbx hbw
          go_wp2_with (first | (at_builtin; refine wpList_push_fresh _ _ wo rfl _ _ rfl w.heap.size _ i _ rfl Hown.out (by omega) Hbl.out.size Hbx.out c _ Hline.out _ ?ctb rfl ?_))
          case ctb => rfl
          intro v' w' hown' hbel _
          rw [push_take (mulT_get hgeta.out)] at hown'
          have hb' := Hbl.out.trans hbel
          go_wp2_with fail
          go_roundw
          case rel => exact ⟨i + 1, hlt, by go_num, hown', hb'⟩
          case measure => simp [intOf]; omega
    · have Hown := Lib.hid hown
      have Hbl := Lib.hid hbl
      clear hown hbl
      go_wp2_with fail
      go_ret
      have : i = na := by omega
      subst this
      have h := Hown.out
      rw [List.take_of_length_le (by rw [mulT_len]; have := HLA.out; omega)] at h
      exact ⟨_, rfl, h, Hbl.out⟩
end Go.Proofs.YtnoghnalopdflaaDoor
