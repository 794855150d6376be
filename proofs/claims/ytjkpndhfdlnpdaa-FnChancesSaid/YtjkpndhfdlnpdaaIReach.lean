/- IReach: a part of the proofs of this seat. -/
import Derived.StillTailTactics
import Derived.Test.YtjkpndhfdlnpdaaProg
import Derived.Test.YtjkpndhfdlnpdaaReach
import Derived.Test.YtjkpndhfdlnpdaaIZeros
import Derived.Test.YtjkpndhfdlnpdaaMulT
namespace Go.Proofs.Ytjkpndhfdlnpdaa
open Go.RowKit
set_option linter.all false
theorem en_of' {m : List (List Int)} {i j : Nat} {r : List Int} {x : Int} (hr : m[i]? = some r) (hx : r[j]? = some x) : en m i j = x := by simp [en, List.getD, hr, hx]
theorem maxmin01 {a b c : Int} (ha : a = 0 ∨ a = 1) (hb : b = 0 ∨ b = 1) (hc : c = 0 ∨ c = 1) : (if a < if c < b then c else b then if c < b then c else b else a) = o01 a (a01 b c) := by
  rcases ha with rfl | rfl <;> rcases hb with rfl | rfl <;> rcases hc with rfl | rfl <;> decide
set_option maxRecDepth 20000 in
set_option maxHeartbeats 6400000 in
theorem iReach_any (p : Option Addr) (n c : Nat) (m : List (List Int)) (w : World) (h : Intss w p n m) (hr : RowsLen m n) (hn : n ≤ 9) (h0 : ∀ r ∈ m, ∀ x ∈ r, 0 ≤ x) :
    Calls Try.prog 121 #[.slice p n c] w fun e w' => ∃ v, e = .returned v ∧ OIntss w' w.heap.size v n (reachT m n) ∧ Below w.heap.size w w' := by
  have H := Lib.hid h
  have HR := Lib.hid hr
  have HN := Lib.hid h0
  clear h hr h0
  go_enter Try.func121, Try.ntmps121
  go_wp2_with fail
  refine (iZeros_any n _ (by omega)).mono ?_
  rintro e w1 ⟨v, rfl, hown, hbl⟩
  obtain ⟨ao, cap, rfl, _⟩ := hown.form
  have Hown := Lib.hid hown
  have Hbl := Lib.hid hbl
  clear hown hbl
  go_wp2_with fail
  go_loopw [16] (fun x wr => ∃ (i : Nat) (T : List (List Int)), i ≤ n ∧ x = .int .i64 i ∧ OIntss wr w.heap.size (.slice ao n cap) n T ∧ Sq n T ∧ Hid (ni m n (n - i) i T = startT m n) ∧ Below w.heap.size w wr) (fun x _ => n - (intOf x).toNat)
  case atStart => exact ⟨0, _, Nat.zero_le _, rfl, Hown.out, zeroT_sq n, rfl, Hbl.out⟩
  case round =>
    obtain ⟨i, T, hi, rfl, hown, hq, hT, hbl⟩ := hrel
    clear Hown Hbl
    by_cases hlt : i < n
    · obtain ⟨b1, o1, a1, c1, r, rfl, hca, hrow, hget⟩ := H.out.at_ hlt
      have HRL : Hid (r.length = n) := HR.out _ _ hget.out
      have hrl1 : r.length ≤ n := by have := HRL.out; omega
      have hrl2 : n ≤ r.length := by have := HRL.out; omega
      obtain ⟨g, cap', e⟩ := hown.head (by omega)
      injection e with e1 e2 e3
      subst e1
      clear e2 e3 cap'
      have hm1 := (hbl.cell (World.block_lt_of_cell? w _ hca)).trans hca
      have HT0 := Lib.hid (ni_step hlt hT.out)
      have Hca := Lib.hid hca
      have Hrow := Lib.hid hrow
      have Hown := Lib.hid hown
      have Hq := Lib.hid hq
      have Hbl := Lib.hid hbl
      clear hown hbl hrow hca hT hq
      go_wp2_with fail
      clear hm1
      go_loopw [23] (fun x wr => ∃ (j : Nat) (T : List (List Int)), j ≤ n ∧ x = .int .i64 j ∧ OIntss wr w.heap.size (.slice (some ⟨g, 0, none⟩) n cap) n T ∧ Sq n T ∧ Hid (ni m n (n - (i + 1)) (i + 1) (nj m i (n - j) j T) = startT m n) ∧ Below w.heap.size w wr) (fun x _ => n - (intOf x).toNat)
      case atStart => exact ⟨0, T, Nat.zero_le _, rfl, Hown.out, Hq.out, HT0.out, Hbl.out⟩
      case round =>
        clear HT0 Hown Hbl Hq T
        obtain ⟨j, T, hj, rfl, hown, hq, hT, hbl⟩ := hrel
        by_cases hjn : j < n
        · obtain ⟨b3, o3, x, rfl, hcx, hgetx⟩ := Hrow.out.at_ (k := j) (by omega)
          have hjr : j < r.length := by omega
          have h1 := (hbl.cell (World.block_lt_of_cell? w _ Hca.out)).trans Hca.out
          have h3 := (hbl.cell (World.block_lt_of_cell? w _ hcx)).trans hcx
          obtain ⟨gi, ci, h5, hlo, hcl, hst⟩ := hown.ent hq hlt
          have h6 := (hcl j hjn).1
          have h7 := (hcl j hjn).2
          have HS := Lib.hid (hst j (b01 x))
          have HE : Hid (en m i j = x) := en_of' hget.out hgetx.out
          have HT2 := nj_step hjn _ hT.out
          rw [HE.out] at HT2
          have HT3 := Lib.hid HT2
          have Hq2 := Lib.hid (hq.st hlt hjn (b01_or x))
          have Hb' := Lib.hid (hbl.setCell (p := ⟨gi, j, none⟩) hlo (.int .i64 (b01 x)))
          have hx0 := HN.out r (List.mem_of_getElem? hget.out) x (List.mem_of_getElem? hgetx.out)
          have hbb : (if (1 : Int) < x then 1 else x) = b01 x := by unfold b01; split <;> split <;> omega
          clear HT2 hst hcl hown hq hT hbl hcx hgetx
          go_wp2_with fail
          trace_state
          go_roundw
          case rel => exact ⟨j + 1, _, hjn, by go_num, by first | exact HS.out | exact HS.out.drewN 1, Hq2.out, HT3.out, by first | exact Hb'.out | exact Hb'.out.drew⟩
          case measure => simp [intOf]; omega
        · have e : j = n := by omega
          have HT2 : Hid (ni m n (n - (i + 1)) (i + 1) T = startT m n) := by have := hT.out; rw [e, Nat.sub_self] at this; exact this
          have Hown := Lib.hid hown
          have Hbl := Lib.hid hbl
          have Hq := Lib.hid hq
          clear hown hbl hT hq
          go_wp2_with fail
          go_roundw
          case rel => exact ⟨i + 1, T, hlt, by go_num, Hown.out, Hq.out, HT2.out, Hbl.out⟩
          case measure => simp [intOf]; omega
    · have e : i = n := by omega
      have HT2 : Hid (T = startT m n) := by have := hT.out; rw [e, Nat.sub_self] at this; exact this
      have HT3 : Hid (wk n (n - 0) 0 T = reachT m n) := by show _ = _; rw [HT2.out]; rfl
      have Hown := Lib.hid hown
      have Hbl := Lib.hid hbl
      have Hq := Lib.hid hq
      clear hown hbl hT hq HT2 e
      go_wp2_with fail
      go_loopw [40] (fun x wr => ∃ (k : Nat) (T : List (List Int)), k ≤ n ∧ x = .int .i64 k ∧ OIntss wr w.heap.size (.slice ao n cap) n T ∧ Sq n T ∧ Hid (wk n (n - k) k T = reachT m n) ∧ Below w.heap.size w wr) (fun x _ => n - (intOf x).toNat)
      case atStart => exact ⟨0, T, Nat.zero_le _, rfl, Hown.out, Hq.out, HT3.out, Hbl.out⟩
      case round =>
        clear HT3 Hown Hbl Hq T
        obtain ⟨k, T, hk, rfl, hown, hq, hT, hbl⟩ := hrel
        by_cases hkn : k < n
        · obtain ⟨g, cap', e⟩ := hown.head (by omega)
          injection e with e1 e2 e3
          subst e1
          clear e2 e3 cap'
          have HT0 := Lib.hid (wk_step hkn hT.out)
          have Hown := Lib.hid hown
          have Hq := Lib.hid hq
          have Hbl := Lib.hid hbl
          clear hown hbl hT hq
          go_wp2_with fail
          go_loopw [45] (fun x wr => ∃ (i : Nat) (T : List (List Int)), i ≤ n ∧ x = .int .i64 i ∧ OIntss wr w.heap.size (.slice (some ⟨g, 0, none⟩) n cap) n T ∧ Sq n T ∧ Hid (wk n (n - (k + 1)) (k + 1) (wi n k (n - i) i T) = reachT m n) ∧ Below w.heap.size w wr) (fun x _ => n - (intOf x).toNat)
          case atStart => exact ⟨0, T, Nat.zero_le _, rfl, Hown.out, Hq.out, HT0.out, Hbl.out⟩
          case round =>
            clear HT0 Hown Hbl Hq T
            obtain ⟨i, T, hi, rfl, hown, hq, hT, hbl⟩ := hrel
            by_cases hin : i < n
            · have HT0 := Lib.hid (wi_step hin _ hT.out)
              have Hown := Lib.hid hown
              have Hq := Lib.hid hq
              have Hbl := Lib.hid hbl
              clear hown hbl hT hq
              go_wp2_with fail
              go_loopw [50] (fun x wr => ∃ (j : Nat) (T : List (List Int)), j ≤ n ∧ x = .int .i64 j ∧ OIntss wr w.heap.size (.slice (some ⟨g, 0, none⟩) n cap) n T ∧ Sq n T ∧ Hid (wk n (n - (k + 1)) (k + 1) (wi n k (n - (i + 1)) (i + 1) (wj k i (n - j) j T)) = reachT m n) ∧ Below w.heap.size w wr) (fun x _ => n - (intOf x).toNat)
              case atStart => exact ⟨0, T, Nat.zero_le _, rfl, Hown.out, Hq.out, HT0.out, Hbl.out⟩
              case round =>
                clear HT0 Hown Hbl Hq T
                obtain ⟨j, T, hj, rfl, hown, hq, hT, hbl⟩ := hrel
                by_cases hjn : j < n
                · obtain ⟨gi, ci, f1, hlo, hcl, hst⟩ := hown.ent hq hin
                  obtain ⟨gk, ck, f2, _, hcl2, _⟩ := hown.ent hq hkn
                  have f3 := (hcl j hjn).1
                  have f4 := (hcl j hjn).2
                  have f5 := (hcl k hkn).1
                  have f6 := (hcl2 j hjn).1
                  have hq1 := hq.2.2 i j hin hjn
                  have hq2 := hq.2.2 i k hin hkn
                  have hq3 := hq.2.2 k j hkn hjn
                  have HV := Lib.hid (maxmin01 hq1 hq2 hq3)
                  clear hq1 hq2 hq3
                  have HS := Lib.hid (hst j (o01 (en T i j) (a01 (en T i k) (en T k j))))
                  have Hq2 := Lib.hid (hq.st hin hjn (o01_or (en T i j) (a01 (en T i k) (en T k j))))
                  have HT3 := Lib.hid (wj_step hjn (fun T => wk n (n - (k + 1)) (k + 1) (wi n k (n - (i + 1)) (i + 1) T)) hT.out)
                  have Hb' := Lib.hid (hbl.setCell (p := ⟨gi, j, none⟩) hlo (.int .i64 (o01 (en T i j) (a01 (en T i k) (en T k j)))))
                  clear hst hcl hcl2 hown hq hT hbl
                  go_wp2_with fail
                  go_still_tail 29, (by kernel_rfl)
                  change wpList _ _ _ _ _ wr.drew
                  go_wp2_with fail
                  rw [HV.out]
                  go_roundw
                  all_goals first
                    | exact ⟨j + 1, _, hjn, by go_num, by first | exact HS.out | exact HS.out.drewN 1, Hq2.out, HT3.out, by first | exact Hb'.out | exact Hb'.out.drew⟩
                    | (simp [intOf]; omega)
                · have e : j = n := by omega
                  have HT2 : Hid (wk n (n - (k + 1)) (k + 1) (wi n k (n - (i + 1)) (i + 1) T) = reachT m n) := by have := hT.out; rw [e, Nat.sub_self] at this; exact this
                  have Hown := Lib.hid hown
                  have Hbl := Lib.hid hbl
                  have Hq := Lib.hid hq
                  clear hown hbl hT hq
                  go_wp2_with fail
                  go_roundw
                  case rel => exact ⟨i + 1, T, hin, by go_num, Hown.out, Hq.out, HT2.out, Hbl.out⟩
                  case measure => simp [intOf]; omega
            · have e : i = n := by omega
              have HT2 : Hid (wk n (n - (k + 1)) (k + 1) T = reachT m n) := by have := hT.out; rw [e, Nat.sub_self] at this; exact this
              have Hown := Lib.hid hown
              have Hbl := Lib.hid hbl
              have Hq := Lib.hid hq
              clear hown hbl hT hq
              go_wp2_with fail
              go_roundw
              case rel => exact ⟨k + 1, T, hkn, by go_num, Hown.out, Hq.out, HT2.out, Hbl.out⟩
              case measure => simp [intOf]; omega
        · have e : k = n := by omega
          have HT2 : Hid (T = reachT m n) := by have := hT.out; rw [e, Nat.sub_self] at this; exact this
          have Hown := Lib.hid hown
          have Hbl := Lib.hid hbl
          clear hown hbl hT hq
          go_wp2_with fail
          go_ret
          rw [← HT2.out]
          exact ⟨_, rfl, Hown.out, Hbl.out⟩
end Go.Proofs.Ytjkpndhfdlnpdaa
