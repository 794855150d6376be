/- ILess: a part of the proofs of this seat. -/
import Derived.Test.YtnoghnalopdflaaDoorProg
import Derived.Test.YtnoghnalopdflaaDoorThA
import Derived.Test.YtnoghnalopdflaaDoorIZeros
namespace Go.Proofs.YtnoghnalopdflaaDoor
open Go.RowKit
set_option linter.all false
set_option maxHeartbeats 3200000 in
theorem iLess_any (p : Option Addr) (n c : Nat) (t : List (List Int)) (q d : Int) (w : World) (h : Intss w p n t) (hr : RowsLen t n) (hn : n ≤ 1048576) (hq1 : -1000000 ≤ q) (hq2 : q ≤ 1000000) (hd1 : -1000000 ≤ d) (hd2 : d ≤ 1000000) :
    Calls Tryd.prog 122 #[.slice p n c, .int .i64 q, .int .i64 d] w fun e w' => ∃ v, e = .returned v ∧ OIntss w' w.heap.size v n (lessT q d t) ∧ Below w.heap.size w w' := by
  have H := Lib.hid h
  have HR := Lib.hid hr
  have HL : Hid (t.length = n) := h.1
  clear h hr
  go_enter Tryd.func122, Tryd.ntmps122
  go_wp2_with fail
  refine (iZeros_any n _ hn).mono ?_
  rintro e w1 ⟨v, rfl, hown, hbl⟩
  obtain ⟨ao, cap, rfl, _⟩ := hown.form
  go_wp2_with fail
  go_loopw [17] (fun i wr => ∃ k : Nat, k ≤ n ∧ i = .int .i64 k ∧ OIntss wr w.heap.size (.slice ao n cap) n ((lessT q d t).take k ++ List.replicate (n - k) (List.replicate n 0)) ∧ Below w.heap.size w wr) (fun i _ => n - (intOf i).toNat)
  case atStart => exact ⟨0, Nat.zero_le _, rfl, by rw [fill_start]; exact hown, hbl⟩
  case round =>
    obtain ⟨i, hi, rfl, hown, hbl⟩ := hrel
    obtain ⟨wo, rfl⟩ : ∃ wo : World, wo = wr := ⟨_, rfl⟩
    by_cases hlt : i < n
    · obtain ⟨b1, o1, a1, c1, r, rfl, hca, hrow, hget⟩ := H.out.at_ hlt
      have HRL : Hid (r.length = n) := HR.out _ _ hget.out
      have hrl1 : r.length ≤ n := by have := HRL.out; omega
      have hrl2 : n ≤ r.length := by have := HRL.out; omega
      have HMG := Lib.hid (lessT_get (q := q) (d := d) hget.out)
      rw [fill_open hlt] at hown
      have HAl : Hid (((lessT q d t).take i).length = i) := take_len (by rw [lessT_len]; have := HL.out; omega)
      obtain ⟨g, cap', e⟩ := hown.head (by omega)
      injection e with e1 e2 e3
      subst e1
      clear e2 e3 cap'
      have h1 := (hbl.cell (World.block_lt_of_cell? w _ hca)).trans hca
      have Hrow := Lib.hid hrow
      have Hown := Lib.hid hown
      have Hbl := Lib.hid hbl
      clear hown hbl hrow hca
      go_wp2_with fail
      clear h1
      go_loopw [24] (fun i' wx => ∃ j : Nat, j ≤ r.length ∧ i' = .int .i64 j ∧ OIntss wx w.heap.size (.slice (some ⟨g, 0, none⟩) n cap) n ((lessT q d t).take i ++ ((negRow d r).take j ++ List.replicate (n - j) 0) :: List.replicate (n - (i + 1)) (List.replicate n 0)) ∧ Below w.heap.size w wx) (fun i _ => r.length - (intOf i).toNat)
      case atStart => exact ⟨0, Nat.zero_le _, rfl, by rw [fill_start]; exact Hown.out, Hbl.out⟩
      case round =>
        obtain ⟨j, hj, rfl, hown, hbl⟩ := hrel
        clear Hown Hbl
        by_cases hjn : j < r.length
        · obtain ⟨b3, o3, x, rfl, hcx, hgetx⟩ := Hrow.out.at_ hjn
          have hjn' : j < n := by omega
          rw [fill_open hjn'] at hown
          have HBl : Hid (((negRow d r).take j).length = j) := take_len (by rw [negRow_len]; omega)
          have HG := Lib.hid (negRow_get (d := d) hgetx.out)
          have h3 := (hbl.cell (World.block_lt_of_cell? w _ hcx)).trans hcx
          obtain ⟨gk, ck, h5, ho, hne, hlo⟩ := hown.rowAt (at_mid HAl.out) (by simp; omega)
          have hset := hown.setIn (at_mid HAl.out) h5 ho j (wrap64 (-d * x))
          rw [set_mid HAl.out, set_mid HBl.out, fill_shut HG.out] at hset
          have hlen : ((negRow d r).take j ++ 0 :: List.replicate (n - (j + 1)) 0).length = n := by
            rw [List.length_append, HBl.out]; simp; omega
          rw [hlen] at h5 ho
          have h6 := ho.cell j hjn'
          have h7 := ho.frozen j
          have hb' := hbl.setCell (p := ⟨gk, j, none⟩) hlo (.int .i64 (wrap64 (-d * x)))
          have Hset := Lib.hid hset
          have Hb' := Lib.hid hb'
          clear hset hb' ho hown hbl hlen hcx
          go_wp2_with fail
          go_roundw
          case rel => exact ⟨j + 1, hjn, by go_num, Hset.out, Hb'.out⟩
          case measure => simp [intOf]; omega
        · have hjn' : j = n := by omega
          subst hjn'
          rw [fill_end (by rw [negRow_len]; exact HRL.out)] at hown
          have hxi : (negRow d r)[i]? = some ((negRow d r).getD i 0) := by
            have hl : i < (negRow d r).length := by rw [negRow_len]; omega
            simp [List.getD, hl]
          have HX := Lib.hid hxi
          obtain ⟨gk, ck, h5, ho, hne, hlo⟩ := hown.rowAt (at_mid HAl.out) (by rw [negRow_len]; omega)
          have hset := hown.setIn (at_mid HAl.out) h5 ho i (wrap64 ((negRow d r).getD i 0 + q))
          rw [set_mid HAl.out] at hset
          have hset' := (congrArg (OIntss _ w.heap.size _ j) (fill_shut HMG.out)) ▸ hset
          rw [negRow_len, HRL.out] at h5 ho
          have h6 := ho.cell i (by omega)
          have h7 := ho.frozen i
          have hb' := hbl.setCell (p := ⟨gk, i, none⟩) hlo (.int .i64 (wrap64 ((negRow d r).getD i 0 + q)))
          have Hset := Lib.hid hset'
          have Hb' := Lib.hid hb'
          clear hset hset' hb' ho hown hbl hxi
          generalize (negRow d r).getD i 0 = z at *
          go_wp2_with fail
          go_roundw
          case rel => exact ⟨i + 1, hlt, by go_num, Hset.out, Hb'.out⟩
          case measure => simp [intOf]; omega
    · go_wp2_with fail
      go_ret
      have : i = n := by omega
      subst this
      rw [fill_end (by rw [lessT_len]; exact HL.out)] at hown
      exact ⟨_, rfl, hown, hbl⟩
end Go.Proofs.YtnoghnalopdflaaDoor
