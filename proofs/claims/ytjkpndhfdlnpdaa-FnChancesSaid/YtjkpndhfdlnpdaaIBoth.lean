/- IBoth: a part of the proofs of this seat. -/
import Derived.Test.YtjkpndhfdlnpdaaProg
import Derived.Test.YtjkpndhfdlnpdaaBothT
import Derived.Test.YtjkpndhfdlnpdaaIResting
namespace Go.Proofs.Ytjkpndhfdlnpdaa
open Go.RowKit
set_option linter.all false
theorem isNeg_any (x : Int) (w : World) : Calls Try.prog 107 #[.int .i64 x] w fun e w' => e = .returned (.bool (decide (x < 0))) ∧ w = w' := by
  go_enter Try.func107, Try.ntmps107
  go_wp2
  go_ret
  exact ⟨rfl, rfl⟩
set_option maxHeartbeats 800000 in
theorem indexNeg_any (ao : Option Addr) (n cap : Nat) (xs : List Int) (w : World) (h : Ints w ao n xs) (h0 : ∀ x ∈ xs, 0 ≤ x) :
    Calls Try.prog 128 #[.slice ao n cap, .func (.func 107) #[] #[]] w fun e w' => e = .returned (.int .i64 (-1)) ∧ w = w' := by
  have hm := h.2.1
  have H := Lib.hid h
  have H0 := Lib.hid h0
  clear h h0
  go_enter Try.func128, Try.ntmps128
  go_wp2_with fail
  go_loop [8] (fun v => ∃ k : Nat, k ≤ n ∧ v = .int .i64 k) (fun v => n - (intOf v).toNat)
  case atStart => exact ⟨0, Nat.zero_le _, rfl⟩
  case round =>
    obtain ⟨k, hk, rfl⟩ := hrel
    by_cases hlt : k < n
    · obtain ⟨b, o, x, rfl, hcell, hget⟩ := H.out.at_ hlt
      have hx := H0.out x (List.mem_of_getElem? hget.out)
      have hd : decide (x < 0) = false := by simp; omega
      clear hget
      go_wp2_with (go_at_call 107; refine (isNeg_any _ _).mono ?_; rintro e w' ⟨rfl, rfl⟩)
      go_round
      case rel => exact ⟨k + 1, hlt, by go_num⟩
      case measure => simp [intOf]; omega
    · go_wp2_with fail
      go_ret
      exact ⟨rfl, rfl⟩
theorem containsNeg_any (ao : Option Addr) (n cap : Nat) (xs : List Int) (w : World) (h : Ints w ao n xs) (h0 : ∀ x ∈ xs, 0 ≤ x) :
    Calls Try.prog 106 #[.slice ao n cap, .func (.func 107) #[] #[]] w fun e w' => e = .returned (.bool false) ∧ w = w' := by
  have H := Lib.hid h
  have H0 := Lib.hid h0
  clear h h0
  go_enter Try.func106, Try.ntmps106
  go_wp2_with (go_at_call 128; refine (indexNeg_any _ _ _ xs _ H.out H0.out).mono ?_; rintro e w' ⟨rfl, rfl⟩)
  go_ret
  exact ⟨rfl, rfl⟩
set_option maxRecDepth 20000 in
set_option maxHeartbeats 3200000 in
theorem iBoth0_any (p : Option Addr) (n c : Nat) (t : List (List Int)) (p' : Option Addr) (c' : Nat) (R : List Int) (w : World) (h : Intss w p n t) (h' : Ints w p' n R) (hn1 : 1 ≤ n) (hn4 : n ≤ 4)
    (hr : RowsLen t n) (hrn : ∀ x ∈ R, 0 ≤ x ∧ x ≤ 4000000) (hf : ∀ r ∈ t, ∀ x ∈ r, 0 ≤ x ∧ x ≤ 60) :
    Calls Try.prog 108 #[.slice p n c, .slice p' n c'] w fun e w' => e = .returned (.bool (bwA t R n (n - 0) 0)) ∧ Drew w w' := by
  have HT := Lib.hid h
  have HI := Lib.hid h'
  have HR := Lib.hid hr
  have HRN := Lib.hid hrn
  have HF := Lib.hid hf
  clear h h' hr hrn hf
  go_enter Try.func108, Try.ntmps108
  go_wp2_with fail
  go_loopw [11] (fun x wr => ∃ i : Nat, i ≤ n ∧ x = .int .i64 i ∧ Hid (bwA t R n (n - i) i = bwA t R n (n - 0) 0) ∧ Drew w wr) (fun x _ => n - (intOf x).toNat)
  case atStart => exact ⟨0, Nat.zero_le _, rfl, rfl, Drew.refl _⟩
  case round =>
    obtain ⟨i, hi, rfl, hr, q, rfl⟩ := hrel
    by_cases hlt : i < n
    · have HS := Lib.hid (bwA_step hlt hr.out)
      clear hr
      obtain ⟨b1, o1, a1, c1, r1, rfl, hc1, hrow1, hg1⟩ := HT.out.at_ hlt
      have hrl1 : r1.length = n := HR.out _ _ hg1.out
      obtain ⟨b3, o3, x3, rfl, hc3, hg3⟩ := HI.out.at_ (k := i) hlt
      have Hrow1 := Lib.hid hrow1
      have Hc1 := Lib.hid hc1
      have Hc3 := Lib.hid hc3
      have HRL1 := Lib.hid hrl1
      have ha := HRN.out x3 (List.mem_of_getElem? hg3.out)
      have HX3 : Hid (R.getD i 0 = x3) := by show _ = _; simp [List.getD, hg3.out]
      have HF1 := Lib.hid (HF.out r1 (List.mem_of_getElem? hg1.out))
      have hrl1a : r1.length ≤ n := by omega
      have hrl1b : n ≤ r1.length := by omega
      clear hrow1 hc3 hrl1
      go_wp2_with fail
      clear hc1
      go_loopw [18] (fun x wr => ∃ j : Nat, j ≤ n ∧ x = .int .i64 j ∧ Hid (bwI t R i (n - j) j = bwI t R i (n - 0) 0) ∧ Drew w wr) (fun x _ => n - (intOf x).toNat)
      case atStart => exact ⟨0, Nat.zero_le _, rfl, rfl, (by first | exact Drew.refl _ | exact Drew.mk _ _ | exact (Drew.mk _ _).drewN _)⟩
      case round =>
        obtain ⟨j, hj, rfl, hrj, q2, rfl⟩ := hrel
        by_cases hjn : j < n
        · have HSj := Lib.hid (bwI_step hjn hrj.out)
          clear hrj
          have hc1 := Hc1.out
          have hc3 := Hc3.out
          have hjr1 : j < r1.length := by have := HRL1.out; omega
          obtain ⟨b4, o4, y1, rfl, hc4, hg4⟩ := Hrow1.out.at_ hjr1
          obtain ⟨b5, o5, a5, c5, r5, e5, hc5, hrow5, hg5⟩ := HT.out.at_ hjn
          injection e5 with e5
          injection e5 with e6 e7
          subst e6
          subst e7
          have hir5 : i < r5.length := by have := HR.out _ _ hg5.out; omega
          obtain ⟨b6, o6, y2, rfl, hc6, hg6⟩ := hrow5.at_ hir5
          obtain ⟨b7, o7, x7, e8, hc7, hg7⟩ := HI.out.at_ (k := j) hjn
          injection e8 with e8
          injection e8 with e9 e10
          subst e9
          subst e10
          have ha7 := HRN.out x7 (List.mem_of_getElem? hg7.out)
          have hy1 := HF1.out y1 (List.mem_of_getElem? hg4.out)
          have hy2 := HF.out r5 (List.mem_of_getElem? hg5.out) y2 (List.mem_of_getElem? hg6.out)
          have HX7 : Hid (R.getD j 0 = x7) := by show _ = _; simp [List.getD, hg7.out]
          have HE1 := Lib.hid (en_get hg1.out hg4.out)
          have HE2 := Lib.hid (en_get hg5.out hg6.out)
          have hss := HSj.out
          rw [HX3.out, HX7.out, HE1.out, HE2.out] at hss
          have HSS := Lib.hid hss
          have p1 := prod_ok ha hy1
          have p2 := prod_ok ha7 hy2
          clear hss HSj hg5 hg6 hg7 hg4 hrow5 ha7 hy1 hy2
          by_cases heq : x3 * y1 = x7 * y2
          · have hne : (x3 * y1 != x7 * y2) = false := by simp [heq]
            have HR1 := Lib.hid (HSS.out.1 heq)
            clear heq HSS
            go_wp2_with fail
            go_quiet (fail)
            clear p1 p2
            go_wp2_with fail
            go_roundw
            case rel => exact ⟨j + 1, hjn, by go_num, HR1.out, (by first | exact Drew.refl _ | exact Drew.mk _ _ | exact (Drew.mk _ _).drewN _)⟩
            case measure => simp [intOf]; omega
          · have hne : (x3 * y1 != x7 * y2) = true := by simp [heq]
            have HR1 : Hid (bwA t R n (n - 0) 0 = false) := HS.out.2 (HSS.out.2 heq)
            clear heq HSS
            go_wp2_with fail
            go_quiet (fail)
            clear p1 p2
            go_wp2_with fail
            go_ret
            exact ⟨ret_bool HR1.out.symm, (by first | exact Drew.refl _ | exact Drew.mk _ _ | exact (Drew.mk _ _).drewN _)⟩
        · have HTT : Hid (bwI t R i (n - 0) 0 = true) := by have := hrj.out; rw [show n - j = 0 by omega] at this; exact this.symm
          have HR1 := Lib.hid (HS.out.1 HTT.out)
          clear hrj HS
          go_wp2_with fail
          go_roundw
          case rel => exact ⟨i + 1, hlt, by go_num, HR1.out, (by first | exact Drew.refl _ | exact Drew.mk _ _ | exact (Drew.mk _ _).drewN _)⟩
          case measure => simp [intOf]; omega
    · have HR1 : Hid (bwA t R n (n - 0) 0 = true) := by show _ = _; have := hr.out; rw [show n - i = 0 by omega] at this; exact this.symm
      clear hr
      go_wp2_with fail
      go_ret
      exact ⟨ret_bool HR1.out.symm, (by first | exact Drew.refl _ | exact Drew.mk _ _ | exact (Drew.mk _ _).drewN _)⟩
set_option maxHeartbeats 1600000 in
theorem iBoth_any (p : Option Addr) (n c : Nat) (t : List (List Int)) (w : World) (h : Intss w p n t) :
    Calls Try.prog 61 #[.slice p n c] w fun e w' => e = .returned (.bool (bothB t)) ∧ Below w.heap.size w w' := by
  have HL : Hid (t.length = n) := h.1
  have H := Lib.hid h
  clear h
  cases hok : restOk t
  · have hg : Hid (bothB t = false) := by show _ = _; simp [bothB, hok]
    go_enter Try.func61, Try.ntmps61
    go_wp2_with (go_at_call 53; refine (iResting_any _ _ _ t _ H.out).mono ?_; rintro e w1 ⟨v1, rfl, ho1, hb1⟩; obtain ⟨ao1, cap1, rfl, _⟩ := ho1.form; have Hb1 := Lib.hid hb1; clear ho1 hb1)
    go_ret
    exact ⟨ret_bool hg.out.symm, Hb1.out⟩
  have hc : isChance t = true := by simp only [restOk, Bool.and_eq_true] at hok; exact hok.1
  have hf := chance_facts hc
  have hn1 : 1 ≤ n := by have := HL.out; omega
  have hn4 : n ≤ 4 := by have := HL.out; omega
  have HRL : Hid ((restV t).length = n) := by show _ = _; rw [show restV t = redL (cofL t) by simp [restV, hok], redL_len, cofL_len, HL.out]
  have HRN := Lib.hid (restV_nonneg t)
  have HN0 : Hid (∀ x ∈ restV t, 0 ≤ x) := fun x hx => (restV_nonneg t x hx).1
  have HF : Hid (∀ r ∈ t, ∀ x ∈ r, 0 ≤ x ∧ x ≤ 60) := fun r hr => (hf.2.2.2.2 r hr).2.1
  have HR := Lib.hid (isMat_rowsLen (chance_mat hc) HL.out)
  have HG : Hid (bwA t (restV t) n (n - 0) 0 = bothB t) := by show _ = _; simp [bothB, hok, HL.out]
  clear hc hf
  go_enter Try.func61, Try.ntmps61
  go_wp2_with (first
    | (go_at_call 53; refine (iResting_any _ _ _ t _ H.out).mono ?_; rintro e w1 ⟨v1, rfl, ho1, hb1⟩; rw [HRL.out] at ho1; obtain ⟨ao1, cap1, rfl, hi1⟩ := ho1.form; have HI1 := Lib.hid hi1; have HT1 := Lib.hid (H.out.keep hb1); have Hb1 := Lib.hid hb1; clear ho1 hb1 hi1)
    | (go_at_call 106; refine (containsNeg_any _ _ _ (restV t) _ HI1.out HN0.out).mono ?_; rintro e w' ⟨rfl, rfl⟩)
    | (go_at_call 108; refine (iBoth0_any _ _ _ t _ _ (restV t) _ HT1.out HI1.out hn1 hn4 HR.out HRN.out HF.out).mono ?_; rintro e w2 ⟨rfl, hd2⟩; have Hb2 := Lib.hid (Hb1.out.trans (hd2.below _)); clear hd2))
  go_ret
  exact ⟨ret_bool HG.out, Hb2.out⟩
end Go.Proofs.Ytjkpndhfdlnpdaa
