/- SL23Table: a part of the proofs of this seat. -/
import Derived.Test.YtnoghnalopdflaaDoorProg
import Derived.Test.YtnoghnalopdflaaDoorThA
import Derived.Test.YtnoghnalopdflaaDoorSL4One
namespace Go.Proofs.YtnoghnalopdflaaDoor
open Go.RowKit
set_option linter.all false
set_option maxHeartbeats 3200000 in
theorem sL23Table_any (p : Option Addr) (n c : Nat) (t : List (List Int)) (w : World) (h : Intss w p n t) (hr : RowsLen t n) (hn : n ≤ 1048576) :
    Calls Tryd.prog 117 #[.slice p n c] w fun e w' => ∃ v, e = .returned v ∧ OIntss w' w.heap.size v n (tabT t) ∧ Below w.heap.size w w' := by
  have H := Lib.hid h
  have HR := Lib.hid hr
  have HL : Hid (t.length = n) := h.1
  clear h hr
  go_enter Tryd.func117, Tryd.ntmps117
  go_wp2_with fail
  refine (sL4One_any n _ hn).mono ?_
  rintro e w1 ⟨v, rfl, hown, hbl⟩
  obtain ⟨ao, cap, rfl, _⟩ := hown.form
  go_wp2_with fail
  go_loopw [4] (fun i wr => ∃ k : Nat, k ≤ n ∧ i = .int .i64 k ∧ OIntss wr w.heap.size (.slice ao n cap) n ((tabT t).take k ++ (oneT n).drop k) ∧ Below w.heap.size w wr) (fun i _ => n - (intOf i).toNat)
  case atStart => exact ⟨0, Nat.zero_le _, rfl, by simpa using hown, hbl⟩
  case round =>
    obtain ⟨i, hi, rfl, hown, hbl⟩ := hrel
    by_cases hlt : i < n
    · obtain ⟨b1, o1, a1, c1, r, rfl, hca, hrow, hget⟩ := H.out.at_ hlt
      have HRL : Hid (r.length = n) := HR.out _ _ hget.out
      have hrl1 : r.length ≤ n := by have := HRL.out; omega
      have hrl2 : n ≤ r.length := by have := HRL.out; omega
      have HMG := Lib.hid (tabT_get hget.out)
      rw [HL.out] at HMG
      rw [drop_of_get (oneT_get hlt)] at hown
      have HAl : Hid (((tabT t).take i).length = i) := take_len (by rw [tabT_len]; have := HL.out; omega)
      obtain ⟨g, cap', e⟩ := hown.head (by omega)
      injection e with e1 e2 e3
      subst e1
      clear e2 e3 cap'
      have Hca := Lib.hid hca
      have Hrow := Lib.hid hrow
      have Hown := Lib.hid hown
      have Hbl := Lib.hid hbl
      clear hown hbl hrow hca
      go_wp2_with fail
      go_loopw [5] (fun i' wr => ∃ j : Nat, j ≤ n ∧ i' = .int .i64 j ∧ OIntss wr w.heap.size (.slice (some ⟨g, 0, none⟩) n cap) n ((tabT t).take i ++ ((tabRow n i r).take j ++ (oneRow n i).drop j) :: (oneT n).drop (i + 1)) ∧ Below w.heap.size w wr) (fun i _ => n - (intOf i).toNat)
      case atStart => exact ⟨0, Nat.zero_le _, rfl, by simpa using Hown.out, Hbl.out⟩
      case round =>
        obtain ⟨j, hj, rfl, hown, hbl⟩ := hrel
        clear Hown Hbl
        by_cases hjn : j < n
        · obtain ⟨b3, o3, x, rfl, hcx, hgetx⟩ := Hrow.out.at_ (k := j) (by omega)
          have hjr : j < r.length := by omega
          obtain ⟨y, hy⟩ : ∃ y, (oneRow n i)[j]? = some y := ⟨_, oneRow_get hjn⟩
          have hy2 : 0 ≤ y ∧ y ≤ 1 := by
            rw [oneRow_get hjn] at hy; injection hy with hy; split at hy <;> omega
          have HG := Lib.hid (tabRow_get hjn hy hgetx.out)
          have hlenr : ((tabRow n i r).take j ++ (oneRow n i).drop j).length = n := by
            rw [List.length_append, take_len (by rw [tabRow_len]; omega), List.length_drop, oneRow_len]; omega
          have h1 := (hbl.cell (World.block_lt_of_cell? w _ Hca.out)).trans Hca.out
          have h3 := (hbl.cell (World.block_lt_of_cell? w _ hcx)).trans hcx
          obtain ⟨gk, ck, h5, ho, hne, hlo⟩ := hown.rowAt (at_mid HAl.out) (by rw [hlenr]; omega)
          have hset := hown.setIn (at_mid HAl.out) h5 ho j (wrap64 (y - x))
          rw [set_mid HAl.out, mix_set hy HG.out] at hset
          rw [hlenr] at h5 ho
          have h6 := ho.cell j hjn
          rw [List.getD, mix_get (by rw [tabRow_len]; omega) hy, Option.getD_some] at h6
          have h7 := ho.frozen j
          have hb' := hbl.setCell (p := ⟨gk, j, none⟩) hlo (.int .i64 (wrap64 (y - x)))
          have Hset := Lib.hid hset
          have Hb' := Lib.hid hb'
          clear hset hb' ho hown hbl hlenr hcx hy HG
          go_wp2_with fail
          go_region
          all_goals (go_wp2_with fail)
          all_goals go_roundw
          case rel => exact ⟨j + 1, hjn, by go_num, by first | exact Hset.out | exact Hset.out.drewN 1, by first | exact Hb'.out | exact Hb'.out.drew⟩
          case measure => simp [intOf]; omega
        · have hjn' : j = n := by omega
          subst hjn'
          rw [mix_end (tabRow_len j i r) (oneRow_len j i), fill_shut HMG.out] at hown
          have Hown := Lib.hid hown
          have Hbl := Lib.hid hbl
          clear hown hbl
          go_wp2_with fail
          go_roundw
          case rel => exact ⟨i + 1, hlt, by go_num, Hown.out, Hbl.out⟩
          case measure => simp [intOf]; omega
    · go_wp2_with fail
      go_ret
      have : i = n := by omega
      subst this
      rw [mix_end (by rw [tabT_len]; exact HL.out) (oneT_len i)] at hown
      exact ⟨_, rfl, hown, hbl⟩
end Go.Proofs.YtnoghnalopdflaaDoor
