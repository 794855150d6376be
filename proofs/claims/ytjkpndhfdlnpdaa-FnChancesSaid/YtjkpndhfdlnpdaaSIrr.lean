/- SIrr: a part of the proofs of this seat. -/
import Derived.Test.YtjkpndhfdlnpdaaProg
import Derived.Test.YtjkpndhfdlnpdaaSReach
namespace Go.Proofs.Ytjkpndhfdlnpdaa
open Go.RowKit
set_option linter.all false
theorem getD_get2 {α : Type} {xs : List α} {k : Nat} {x d : α} (h : xs[k]? = some x) : xs.getD k d = x := by simp [List.getD, h]
set_option maxHeartbeats 1600000 in
theorem sReachOf_any (p : Option Addr) (n c : Nat) (m : List (List Int)) (w : World) (h : Intss w p n m) (hm : isMat m = true) :
    Calls Try.prog 124 #[.slice p n c] w fun e w' => ∃ v, e = .returned v ∧ OIntss w' w.heap.size v n (reachT m n) ∧ Below w.heap.size w w' := by
  have HL : Hid (m.length = n) := h.1
  have hml := isMat_len hm
  have hn9 : n ≤ 9 := by have := HL.out; omega
  have HR := Lib.hid (isMat_rowsLen hm HL.out)
  have H := Lib.hid h
  clear h hml
  go_enter Try.func124, Try.ntmps124
  go_wp2_with (first
    | (go_at_call 125; refine (sIsMatrix_any _ _ _ m _ H.out).mono ?_; rintro e w' ⟨rfl, rfl⟩)
    | (go_at_call 141; refine (sL6Reach_any _ _ _ m _ H.out HR.out hn9).mono ?_; rintro e w1 ⟨v1, rfl, ho1, hb1⟩; have Ho1 := Lib.hid ho1; have Hb1 := Lib.hid hb1; clear ho1 hb1))
  go_ret
  exact ⟨_, rfl, Ho1.out, Hb1.out⟩
set_option maxHeartbeats 1600000 in
theorem sIrr_any (p : Option Addr) (n c : Nat) (m : List (List Int)) (w : World) (h : Intss w p n m) (hm : isMat m = true) :
    Calls Try.prog 99 #[.slice p n c] w fun e w' => e = .returned (.bool (irrT m)) ∧ Below w.heap.size w w' := by
  have HL : Hid (m.length = n) := h.1
  have hml := isMat_len hm
  have hn9 : n ≤ 9 := by have := HL.out; omega
  have hn1 : 1 ≤ n := by have := HL.out; omega
  have HM : Hid (isMat m = true) := hm
  have H := Lib.hid h
  have HG : Hid (irrT m = fullT (reachT m n)) := by show _ = _; rw [← HL.out]; rfl
  have HQ := Lib.hid (reachT_sq m n)
  clear h hml hm
  go_enter Try.func99, Try.ntmps99
  go_wp2_with fail
  refine (sReachOf_any _ _ _ m _ H.out HM.out).mono ?_
  rintro e w1 ⟨v1, rfl, ho1, hb1⟩
  obtain ⟨g, cap, rfl⟩ := ho1.head (by omega)
  have HI := Lib.hid ho1.intss
  have Hb1 := Lib.hid hb1
  clear ho1 hb1
  go_wp2_with fail
  go_loop [4] (fun x => ∃ i : Nat, i ≤ n ∧ x = .int .i64 i ∧ Hid (fullT ((reachT m n).drop i) = fullT (reachT m n))) (fun x => n - (intOf x).toNat)
  case atStart => exact ⟨0, Nat.zero_le _, rfl, rfl⟩
  case round =>
    obtain ⟨i, hi, rfl, hr⟩ := hrel
    by_cases hlt : i < n
    · obtain ⟨b, o, ai, ci, r, e, hc, hrow, hget⟩ := HI.out.at_ hlt
      injection e with e
      injection e with e1 e2
      subst e1
      subst e2
      rw [Nat.zero_add] at hc
      have hrl : r.length = n := by have := HQ.out.2.1 i hlt; rw [getD_get2 hget.out] at this; exact this
      have hrl1 : r.length ≤ n := by omega
      have hrl2 : n ≤ r.length := by omega
      have HS := Lib.hid (fullT_step hget.out hr.out)
      have Hrow := Lib.hid hrow
      have Hc := Lib.hid hc
      clear hrow hget hr hrl hc
      go_wp2_with fail
      go_loop [5] (fun x => ∃ j : Nat, j ≤ n ∧ x = .int .i64 j ∧ Hid (fullR (r.drop j) = fullR r)) (fun x => n - (intOf x).toNat)
      case atStart => exact ⟨0, Nat.zero_le _, rfl, rfl⟩
      case round =>
        obtain ⟨j, hj, rfl, hrj⟩ := hrel
        have hc := Hc.out
        by_cases hjn : j < n
        · have hjr : j < r.length := by omega
          obtain ⟨b', o', x, rfl, hcx, hgx⟩ := Hrow.out.at_ hjr
          have HSj := Lib.hid (fullR_step hgx.out hrj.out)
          clear hgx hrj
          by_cases hx : x = 0
          · have hx1 : (x == 0) = true := by simp [hx]
            have HR2 : Hid (irrT m = false) := by show _ = _; rw [HG.out]; exact HS.out.1 (HSj.out.1 hx)
            clear hx HS HSj
            go_wp2_with fail
            go_ret
            exact ⟨ret_bool HR2.out.symm, Hb1.out⟩
          · have hx1 : (x == 0) = false := by simp [hx]
            have HR2 := Lib.hid (HSj.out.2 hx)
            clear hx HSj
            go_wp2_with fail
            go_round
            case rel => exact ⟨j + 1, hjn, by go_num, HR2.out⟩
            case measure => simp [intOf]; omega
        · have HR2 : Hid (fullR r = true) := by have := hrj.out; rw [drop_all r j (by omega)] at this; exact this.symm
          have HR3 := Lib.hid (HS.out.2 HR2.out)
          clear hrj HS HR2
          go_wp2_with fail
          go_round
          case rel => exact ⟨i + 1, hlt, by go_num, HR3.out⟩
          case measure => simp [intOf]; omega
    · have HR2 : Hid (irrT m = true) := by
        show _ = _
        have := hr.out
        rw [drop_all _ i (by rw [HQ.out.1]; omega)] at this
        rw [HG.out, ← this]
        rfl
      clear hr
      have hmt := HM.out
      go_wp2_with (go_at_call 125; refine (sIsMatrix_any _ _ _ m _ (H.out.keep Hb1.out)).mono ?_; rintro e w' ⟨rfl, rfl⟩)
      go_ret
      exact ⟨ret_bool (by rw [HR2.out]), Hb1.out⟩
end Go.Proofs.Ytjkpndhfdlnpdaa
