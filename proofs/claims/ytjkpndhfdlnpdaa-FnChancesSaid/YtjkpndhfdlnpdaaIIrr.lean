/- IIrr: a part of the proofs of this seat. -/
import Derived.Test.YtjkpndhfdlnpdaaProg
import Derived.Test.YtjkpndhfdlnpdaaIReach
namespace Go.Proofs.Ytjkpndhfdlnpdaa
open Go.RowKit
set_option linter.all false
theorem getD_get3 {α : Type} {xs : List α} {k : Nat} {x d : α} (h : xs[k]? = some x) : xs.getD k d = x := by simp [List.getD, h]
def ix0 : Nat → List Int → Int
  | _, [] => -1
  | k, x :: r => if x = 0 then (k : Int) else ix0 (k + 1) r
theorem ix0_full : ∀ (r : List Int) (k : Nat), decide (0 ≤ ix0 k r) = !fullR r
  | [], k => rfl
  | x :: r, k => by
    by_cases h : x = 0
    · simp only [ix0, if_pos h]
      have : (0 : Int) ≤ (k : Int) := by omega
      simp [fullR, h, this]
    · simp only [ix0, if_neg h]
      rw [ix0_full r (k + 1)]
      simp [fullR, h]
theorem ix0_step {xs : List Int} {k : Nat} {x R : Int} (hk : xs[k]? = some x) (h : ix0 k (xs.drop k) = R) : (x = 0 → R = (k : Int)) ∧ (x ≠ 0 → ix0 (k + 1) (xs.drop (k + 1)) = R) := by
  rw [drop_of_get hk] at h
  constructor
  · intro e; simpa [ix0, e] using h.symm
  · intro e; simpa [ix0, e] using h
set_option maxHeartbeats 800000 in
theorem index0_any (ao : Option Addr) (n cap : Nat) (xs : List Int) (w : World) (h : Ints w ao n xs) :
    Calls Try.prog 140 #[.slice ao n cap, .int .i64 0] w fun e w' => e = .returned (.int .i64 (ix0 0 xs)) ∧ w = w' := by
  have hm := h.2.1
  have HL : Hid (xs.length = n) := h.1
  have H := Lib.hid h
  clear h
  go_enter Try.func140, Try.ntmps140
  go_wp2_with fail
  go_loop [8] (fun v => ∃ k : Nat, k ≤ n ∧ v = .int .i64 k ∧ Hid (ix0 k (xs.drop k) = ix0 0 xs)) (fun v => n - (intOf v).toNat)
  case atStart => exact ⟨0, Nat.zero_le _, rfl, rfl⟩
  case round =>
    obtain ⟨k, hk, rfl, hr⟩ := hrel
    by_cases hlt : k < n
    · obtain ⟨b, o, x, rfl, hcell, hget⟩ := H.out.at_ hlt
      have Hst := Lib.hid (ix0_step hget.out hr.out)
      clear hget hr
      by_cases he : x = 0
      · have he1 : ((0 : Int) == x) = true := by simp [he]
        have HR := Lib.hid (Hst.out.1 he)
        clear he Hst
        go_wp2_with fail
        go_ret
        exact ⟨ret_int HR.out.symm, rfl⟩
      · have he1 : ((0 : Int) == x) = false := by simp; omega
        have HR := Lib.hid (Hst.out.2 he)
        clear he Hst
        go_wp2_with fail
        go_round
        case rel => exact ⟨k + 1, hlt, by go_num, HR.out⟩
        case measure => simp [intOf]; omega
    · have HR : Hid (ix0 0 xs = -1) := by have := hr.out; rw [drop_all xs k (by rw [HL.out]; omega)] at this; exact this.symm
      clear hr
      go_wp2_with fail
      go_ret
      exact ⟨ret_int HR.out.symm, rfl⟩
theorem contains0_any (ao : Option Addr) (n cap : Nat) (xs : List Int) (w : World) (h : Ints w ao n xs) :
    Calls Try.prog 122 #[.slice ao n cap, .int .i64 0] w fun e w' => e = .returned (.bool (!fullR xs)) ∧ w = w' := by
  have H := Lib.hid h
  have HE := Lib.hid (ix0_full xs 0)
  clear h
  go_enter Try.func122, Try.ntmps122
  go_wp2_with (go_at_call 140; refine (index0_any _ _ _ xs _ H.out).mono ?_; rintro e w' ⟨rfl, rfl⟩)
  go_ret
  exact ⟨ret_bool HE.out, rfl⟩
set_option maxHeartbeats 1600000 in
theorem iIrr_any (p : Option Addr) (n c : Nat) (m : List (List Int)) (w : World) (h : Intss w p n m) (hm : isMat m = true) :
    Calls Try.prog 94 #[.slice p n c] w fun e w' => e = .returned (.bool (irrT m)) ∧ Below w.heap.size w w' := by
  have HL : Hid (m.length = n) := h.1
  have hml := isMat_len hm
  have hn9 : n ≤ 9 := by have := HL.out; omega
  have hn1 : 1 ≤ n := by have := HL.out; omega
  have HR := Lib.hid (isMat_rowsLen hm HL.out)
  have HN : Hid (∀ r ∈ m, ∀ x ∈ r, 0 ≤ x) := fun r hr x hx => by
    obtain ⟨k, hk⟩ := List.getElem?_of_mem hr
    obtain ⟨j, hj⟩ := List.getElem?_of_mem hx
    exact (allIn_get (isMat_row hm hk).2 hj).1
  have H := Lib.hid h
  have HG : Hid (irrT m = fullT (reachT m n)) := by show _ = _; rw [← HL.out]; rfl
  have HQ := Lib.hid (reachT_sq m n)
  clear h hml hm
  go_enter Try.func94, Try.ntmps94
  go_wp2_with fail
  refine (iReach_any _ _ _ m _ H.out HR.out hn9 HN.out).mono ?_
  rintro e w1 ⟨v1, rfl, ho1, hb1⟩
  obtain ⟨g, cap, rfl⟩ := ho1.head (by omega)
  have HI := Lib.hid ho1.intss
  have Hb1 := Lib.hid hb1
  clear ho1 hb1
  go_wp2_with fail
  go_loop [8] (fun x => ∃ i : Nat, i ≤ n ∧ x = .int .i64 i ∧ Hid (fullT ((reachT m n).drop i) = fullT (reachT m n))) (fun x => n - (intOf x).toNat)
  case atStart => exact ⟨0, Nat.zero_le _, rfl, rfl⟩
  case round =>
    obtain ⟨i, hi, rfl, hr⟩ := hrel
    by_cases hlt : i < n
    · obtain ⟨b, o, ai, ci, r, e, hc, hrow, hget⟩ := HI.out.at_ hlt
      injection e with e
      injection e with e1 e2
      subst e1
      subst e2
      rw [Nat.zero_add] at hc
      have HS := Lib.hid (fullT_step hget.out hr.out)
      have Hrow := Lib.hid hrow
      clear hrow hget hr
      cases hf : fullR r
      · have HR2 : Hid (irrT m = false) := by show _ = _; rw [HG.out]; exact HS.out.1 hf
        clear HS
        go_wp2_with (go_at_call 122; refine (contains0_any _ _ _ r _ Hrow.out).mono ?_; rintro e w' ⟨rfl, rfl⟩)
        go_ret
        exact ⟨ret_bool HR2.out.symm, Hb1.out⟩
      · have HR3 := Lib.hid (HS.out.2 hf)
        clear HS
        go_wp2_with (go_at_call 122; refine (contains0_any _ _ _ r _ Hrow.out).mono ?_; rintro e w' ⟨rfl, rfl⟩)
        go_round
        case rel => exact ⟨i + 1, hlt, by go_num, HR3.out⟩
        case measure => simp [intOf]; omega
    · have HR2 : Hid (irrT m = true) := by
        show _ = _
        have := hr.out
        rw [drop_all _ i (by rw [HQ.out.1]; omega)] at this
        rw [HG.out, ← this]
        rfl
      clear hr
      go_wp2_with fail
      go_ret
      exact ⟨ret_bool HR2.out.symm, Hb1.out⟩
end Go.Proofs.Ytjkpndhfdlnpdaa
