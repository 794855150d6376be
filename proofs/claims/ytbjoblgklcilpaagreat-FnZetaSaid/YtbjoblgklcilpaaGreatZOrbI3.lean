/- OrbI3: a part of the proofs of this seat. -/
import Derived.BigQuiet
import Derived.Deep.RegionHeld3
import Derived.Test.YtbjoblgklcilpaaGreatProg
import Derived.Test.YtbjoblgklcilpaaGreatZG0b
namespace Go.Proofs.YtbjoblgklcilpaaGreat
open Go.RowKit
set_option linter.all false
theorem repL_eq (s : ByteArray) : ∀ c, (⟨(Lib.repeatL s.data.toList c).toArray⟩ : ByteArray) = repB s c := by
  have key : ∀ c, Lib.repeatL s.data.toList (c + 1) = Lib.repeatL s.data.toList c ++ s.data.toList := by
    intro c
    induction c with
    | zero => simp [Lib.repeatL]
    | succ c ih =>
      show s.data.toList ++ Lib.repeatL s.data.toList (c + 1) = (s.data.toList ++ Lib.repeatL s.data.toList c) ++ s.data.toList
      rw [ih, List.append_assoc]
  intro c
  induction c with
  | zero => rfl
  | succ c ih =>
    rw [key, repB, ← ih]
    apply ByteArray.ext
    simp
set_option maxRecDepth 20000 in
set_option maxHeartbeats 1600000 in
theorem iRoot_any (s : ByteArray) (w : World) (hw : isWd 3 s = true) (h0 : 0 < s.size) : Calls Tryz.prog 36 #[.string s] w fun e w' => ∃ n : Nat, Root s n ∧ e = .returned (.tuple #[.string (s.extract 0 n), .int .i64 ((s.size / n : Nat) : Int)]) ∧ Below w.heap.size w w' := by
  have h16 := (isWd_get hw).1
  have HW := Lib.hid hw
  have he := notEmpty h0
  have hs : s.size ≤ 1048576 := by omega
  clear hw
  go_enter Tryz.func36, Tryz.ntmps36
  go_wp2_with (go_at_call 64; refine (iIsWord_any _ _ _ hs).mono ?_; rw [HW.out]; rintro e w' ⟨rfl, rfl⟩)
  go_loopw [4] (fun x wr => ∃ n : Nat, 1 ≤ n ∧ n ≤ s.size ∧ x = .int .i64 (n : Int) ∧ (∀ j, 1 ≤ j → j < n → rtB s j = false) ∧ Below w.heap.size w wr) (fun x _ => s.size - (intOf x).toNat)
  case atStart => exact ⟨1, Nat.le_refl _, by omega, rfl, fun j h1 h2 => by omega, Below.refl _ _⟩
  case round =>
    obtain ⟨n, h1, hn, rfl, hall, hbl⟩ := hrel
    have HALL := Lib.hid hall
    have Hbl := Lib.hid hbl
    clear hall hbl
    have hle : (n : Int) ≤ (s.size : Int) := by omega
    by_cases hm : s.size % n = 0
    · have hmi : (((s.size : Int).tmod (n : Int)) == 0) = true := by have : (s.size : Int).tmod (n : Int) = ((s.size % n : Nat) : Int) := rfl; rw [this, hm]; rfl
      have hnz : ((n : Int) == 0) = false := by simp; omega
      have hn0 : ¬ n = 0 := by omega
      have hn1 : ¬ (n : Int) = 0 := by omega
      obtain ⟨q, hq⟩ : ∃ q : Nat, s.size / n = q := ⟨_, rfl⟩
      have hdv : (s.size : Int).tdiv (n : Int) = (q : Int) := by rw [← hq]; rfl
      have hsl : n ≤ s.size := hn
      have hex : (s.extract 0 n).size ≤ 100 := by rw [ByteArray.size_extract]; omega
      have hdb : q ≤ 100 := by rw [← hq]; exact Nat.le_trans (Nat.div_le_self _ _) (by omega)
      have hqw : IntKind.i64.wrap (q : Int) = q := by rw [IntKind.wrap_i64]; omega
      have hrl : (s.extract 0 n).size * q ≤ 140737488355328 := Nat.le_trans (Nat.mul_le_mul hex hdb) (by decide)
      have HRP := Lib.hid (repL_eq (s.extract 0 n) q)
      have HQ := Lib.hid hq
      have HM := Lib.hid hm
      clear hq hm
      cases ht : ((repB (s.extract 0 n) q).toList == s.toList)
      · have hr : rtB s n = false := by simp [rtB, HQ.out, ht]
        have hlt : n < s.size := by
          rcases Nat.lt_or_ge n s.size with h | h
          · exact h
          · obtain rfl : n = s.size := by omega
            rw [rtB_full h0] at hr; cases hr
        have HR := Lib.hid hr
        clear hr
        go_wp2_with fail
        refine region_T (S := fun _ => True) (t := 99) (by kernel_rfl) ?_
        try simp only [Act.put, List.setIfInBounds_toArray, List.set_cons_zero, List.set_cons_succ]
        refine anyT_take (i := 0) (v := ?v0a) rfl (by kernel_rfl) (by kernel_rfl) (by kernel_rfl) (by kernel_rfl) (fun _ _ _ h => h) (Or.inl ⟨by kernel_rfl, ?hy0a⟩) trivial ?rest0a
        case hy0a =>
          intro W hSw
          clear hSw
          go_simp
          try with_reducible rfl
        try simp only [Act.put, List.setIfInBounds_toArray, List.set_cons_zero, List.set_cons_succ]
        refine anyT_take (i := 1) (v := ?v1a) rfl (by kernel_rfl) (by kernel_rfl) (by kernel_rfl) (by kernel_rfl) (fun _ _ _ h => h) (Or.inl ⟨by kernel_rfl, ?hy1a⟩) trivial ?rest1a
        case hy1a =>
          intro W hSw
          clear hSw
          go_simp
          try with_reducible rfl
        try simp only [Act.put, List.setIfInBounds_toArray, List.set_cons_zero, List.set_cons_succ]
        refine anyT_take (i := 2) (v := ?v2a) rfl (by kernel_rfl) (by kernel_rfl) (by kernel_rfl) (by kernel_rfl) (fun _ _ _ h => h) (Or.inl ⟨by kernel_rfl, ?hy2a⟩) trivial ?rest2a
        case hy2a =>
          intro W hSw
          clear hSw
          go_simp
          try with_reducible rfl
        try simp only [Act.put, List.setIfInBounds_toArray, List.set_cons_zero, List.set_cons_succ]
        refine anyT_take (i := 3) (v := ?v3a) rfl (by kernel_rfl) (by kernel_rfl) (by kernel_rfl) (by kernel_rfl) (fun _ _ _ h => h) (Or.inl ⟨by kernel_rfl, ?hy3a⟩) trivial ?rest3a
        case hy3a =>
          intro W hSw
          clear hSw
          go_simp
          try with_reducible rfl
        try simp only [Act.put, List.setIfInBounds_toArray, List.set_cons_zero, List.set_cons_succ]
        refine anyT_take (i := 4) (v := ?v4a) rfl (by kernel_rfl) (by kernel_rfl) (by kernel_rfl) (by kernel_rfl) (fun _ _ _ h => h) (Or.inl ⟨by kernel_rfl, ?hy4a⟩) trivial ?rest4a
        case hy4a =>
          intro W hSw
          clear hSw
          go_simp
          try with_reducible rfl
        try simp only [Act.put, List.setIfInBounds_toArray, List.set_cons_zero, List.set_cons_succ]
        refine anyT_take (i := 5) (v := ?v5a) rfl (by kernel_rfl) (by kernel_rfl) (by kernel_rfl) (by kernel_rfl) (fun _ _ _ h => h) (Or.inl ⟨by kernel_rfl, ?hy5a⟩) trivial ?rest5a
        case hy5a =>
          intro W hSw
          clear hSw
          go_simp
          try with_reducible rfl
        try simp only [Act.put, List.setIfInBounds_toArray, List.set_cons_zero, List.set_cons_succ]
        refine anyT_take (i := 6) (v := ?v6a) rfl (by kernel_rfl) (by kernel_rfl) (by kernel_rfl) (by kernel_rfl) (fun _ _ _ h => h) (Or.inl ⟨by kernel_rfl, ?hy6a⟩) trivial ?rest6a
        case hy6a =>
          intro W hSw
          clear hSw
          go_simp
          try with_reducible rfl
        try simp only [Act.put, List.setIfInBounds_toArray, List.set_cons_zero, List.set_cons_succ]
        refine anyT_take (i := 7) (v := ?v7a) rfl (by kernel_rfl) (by kernel_rfl) (by kernel_rfl) (by kernel_rfl) (fun _ _ _ h => h) (Or.inl ⟨by kernel_rfl, ?hy7a⟩) trivial ?rest7a
        case hy7a =>
          intro W hSw
          clear hSw
          go_simp
          try with_reducible rfl
        try simp only [Act.put, List.setIfInBounds_toArray, List.set_cons_zero, List.set_cons_succ]
        refine anyT_take (i := 8) (v := ?v8a) rfl (by kernel_rfl) (by kernel_rfl) (by kernel_rfl) (by kernel_rfl) (fun _ _ _ h => h) (Or.inl ⟨by kernel_rfl, ?hy8a⟩) trivial ?rest8a
        case hy8a =>
          intro W hSw
          clear hSw
          go_simp
          try with_reducible rfl
        try simp only [Act.put, List.setIfInBounds_toArray, List.set_cons_zero, List.set_cons_succ]
        refine anyT_take (i := 9) (v := ?v9a) rfl (by kernel_rfl) (by kernel_rfl) (by kernel_rfl) (by kernel_rfl) (fun _ _ _ h => h) (Or.inl ⟨by kernel_rfl, ?hy9a⟩) trivial ?rest9a
        case hy9a =>
          intro W hSw
          clear hSw
          go_simp
          try with_reducible rfl
        try simp only [Act.put, List.setIfInBounds_toArray, List.set_cons_zero, List.set_cons_succ]
        refine anyT_take (i := 10) (v := ?v10a) rfl (by kernel_rfl) (by kernel_rfl) (by kernel_rfl) (by kernel_rfl) (fun _ _ _ h => h) (Or.inl ⟨by kernel_rfl, ?hy10a⟩) trivial ?rest10a
        case hy10a =>
          intro W hSw
          clear hSw
          go_simp
          try with_reducible rfl
        try simp only [Act.put, List.setIfInBounds_toArray, List.set_cons_zero, List.set_cons_succ]
        refine anyT_take (i := 11) (v := ?v11a) rfl (by kernel_rfl) (by kernel_rfl) (by kernel_rfl) (by kernel_rfl) (fun _ _ _ h => h) (Or.inl ⟨by kernel_rfl, ?hy11a⟩) trivial ?rest11a
        case hy11a =>
          intro W hSw
          clear hSw
          go_simp
          try with_reducible rfl
        try simp only [Act.put, List.setIfInBounds_toArray, List.set_cons_zero, List.set_cons_succ]
        refine anyT_take (i := 12) (v := ?v12a) rfl (by kernel_rfl) (by kernel_rfl) (by kernel_rfl) (by kernel_rfl) (fun _ _ _ h => h) (Or.inl ⟨by kernel_rfl, ?hy12a⟩) trivial ?rest12a
        case hy12a =>
          intro W hSw
          clear hSw
          go_simp
          try with_reducible rfl
        try simp only [Act.put, List.setIfInBounds_toArray, List.set_cons_zero, List.set_cons_succ]
        refine anyT_take (i := 14) (v := ?v14a) rfl (by kernel_rfl) (by kernel_rfl) (by kernel_rfl) (by kernel_rfl) (fun _ _ _ h => h) (Or.inl ⟨by kernel_rfl, ?hy14a⟩) trivial ?rest14a
        case hy14a =>
          intro W hSw
          clear hSw
          go_simp
          try with_reducible rfl
        try simp only [Act.put, List.setIfInBounds_toArray, List.set_cons_zero, List.set_cons_succ]
        refine anyT_one (i := 13) (by kernel_rfl) rfl (fun K hK => ?_)
        go_simp
        go_at_call 65
        refine (Tryz.strings_Repeat (s.extract 0 n) q _ (by omega) hrl).mono ?_
        rintro e w2 ⟨rfl, hb2⟩
        rw [HRP.out]
        have HB2 := Lib.hid (step2 (below_drewN Hbl.out 1) hb2)
        clear hb2
        refine hK _ _ (fun _ => trivial) ?_
        clear hK K
        try simp only [Act.put, List.setIfInBounds_toArray, List.set_cons_zero, List.set_cons_succ]
        refine anyT_take (i := 15) (v := ?v15a) rfl (by kernel_rfl) (by kernel_rfl) (by kernel_rfl) (by kernel_rfl) (fun _ _ _ h => h) (Or.inl ⟨by kernel_rfl, ?hy15a⟩) trivial ?rest15a
        case hy15a =>
          intro W hSw
          clear hSw
          go_simp
          try with_reducible rfl
        try simp only [Act.put, List.setIfInBounds_toArray, List.set_cons_zero, List.set_cons_succ]
        refine anyT_take (i := 16) (v := ?v16a) rfl (by kernel_rfl) (by kernel_rfl) (by kernel_rfl) (by kernel_rfl) (fun _ _ _ h => h) (Or.inl ⟨by kernel_rfl, ?hy16a⟩) trivial ?rest16a
        case hy16a =>
          intro W hSw
          clear hSw
          go_simp
          try with_reducible rfl
        try simp only [Act.put, List.setIfInBounds_toArray, List.set_cons_zero, List.set_cons_succ]
        refine anyT_done (by kernel_rfl) ?_
        go_wp2_with fail
        go_roundw
        case rel =>
          refine ⟨n + 1, by omega, hlt, by go_num, fun j h2 h3 => ?_, HB2.out⟩
          by_cases e : j = n
          · rw [e]; exact HR.out
          · exact HALL.out j h2 (by omega)
        case measure => simp [intOf]; omega
      · have HR : Hid (rtB s n = true) := by show _ = _; simp [rtB, HQ.out, ht, HM.out]
        go_wp2_with fail
        refine region_T (S := fun _ => True) (t := 99) (by kernel_rfl) ?_
        try simp only [Act.put, List.setIfInBounds_toArray, List.set_cons_zero, List.set_cons_succ]
        refine anyT_take (i := 0) (v := ?v0b) rfl (by kernel_rfl) (by kernel_rfl) (by kernel_rfl) (by kernel_rfl) (fun _ _ _ h => h) (Or.inl ⟨by kernel_rfl, ?hy0b⟩) trivial ?rest0b
        case hy0b =>
          intro W hSw
          clear hSw
          go_simp
          try with_reducible rfl
        try simp only [Act.put, List.setIfInBounds_toArray, List.set_cons_zero, List.set_cons_succ]
        refine anyT_take (i := 1) (v := ?v1b) rfl (by kernel_rfl) (by kernel_rfl) (by kernel_rfl) (by kernel_rfl) (fun _ _ _ h => h) (Or.inl ⟨by kernel_rfl, ?hy1b⟩) trivial ?rest1b
        case hy1b =>
          intro W hSw
          clear hSw
          go_simp
          try with_reducible rfl
        try simp only [Act.put, List.setIfInBounds_toArray, List.set_cons_zero, List.set_cons_succ]
        refine anyT_take (i := 2) (v := ?v2b) rfl (by kernel_rfl) (by kernel_rfl) (by kernel_rfl) (by kernel_rfl) (fun _ _ _ h => h) (Or.inl ⟨by kernel_rfl, ?hy2b⟩) trivial ?rest2b
        case hy2b =>
          intro W hSw
          clear hSw
          go_simp
          try with_reducible rfl
        try simp only [Act.put, List.setIfInBounds_toArray, List.set_cons_zero, List.set_cons_succ]
        refine anyT_take (i := 3) (v := ?v3b) rfl (by kernel_rfl) (by kernel_rfl) (by kernel_rfl) (by kernel_rfl) (fun _ _ _ h => h) (Or.inl ⟨by kernel_rfl, ?hy3b⟩) trivial ?rest3b
        case hy3b =>
          intro W hSw
          clear hSw
          go_simp
          try with_reducible rfl
        try simp only [Act.put, List.setIfInBounds_toArray, List.set_cons_zero, List.set_cons_succ]
        refine anyT_take (i := 4) (v := ?v4b) rfl (by kernel_rfl) (by kernel_rfl) (by kernel_rfl) (by kernel_rfl) (fun _ _ _ h => h) (Or.inl ⟨by kernel_rfl, ?hy4b⟩) trivial ?rest4b
        case hy4b =>
          intro W hSw
          clear hSw
          go_simp
          try with_reducible rfl
        try simp only [Act.put, List.setIfInBounds_toArray, List.set_cons_zero, List.set_cons_succ]
        refine anyT_take (i := 5) (v := ?v5b) rfl (by kernel_rfl) (by kernel_rfl) (by kernel_rfl) (by kernel_rfl) (fun _ _ _ h => h) (Or.inl ⟨by kernel_rfl, ?hy5b⟩) trivial ?rest5b
        case hy5b =>
          intro W hSw
          clear hSw
          go_simp
          try with_reducible rfl
        try simp only [Act.put, List.setIfInBounds_toArray, List.set_cons_zero, List.set_cons_succ]
        refine anyT_take (i := 6) (v := ?v6b) rfl (by kernel_rfl) (by kernel_rfl) (by kernel_rfl) (by kernel_rfl) (fun _ _ _ h => h) (Or.inl ⟨by kernel_rfl, ?hy6b⟩) trivial ?rest6b
        case hy6b =>
          intro W hSw
          clear hSw
          go_simp
          try with_reducible rfl
        try simp only [Act.put, List.setIfInBounds_toArray, List.set_cons_zero, List.set_cons_succ]
        refine anyT_take (i := 7) (v := ?v7b) rfl (by kernel_rfl) (by kernel_rfl) (by kernel_rfl) (by kernel_rfl) (fun _ _ _ h => h) (Or.inl ⟨by kernel_rfl, ?hy7b⟩) trivial ?rest7b
        case hy7b =>
          intro W hSw
          clear hSw
          go_simp
          try with_reducible rfl
        try simp only [Act.put, List.setIfInBounds_toArray, List.set_cons_zero, List.set_cons_succ]
        refine anyT_take (i := 8) (v := ?v8b) rfl (by kernel_rfl) (by kernel_rfl) (by kernel_rfl) (by kernel_rfl) (fun _ _ _ h => h) (Or.inl ⟨by kernel_rfl, ?hy8b⟩) trivial ?rest8b
        case hy8b =>
          intro W hSw
          clear hSw
          go_simp
          try with_reducible rfl
        try simp only [Act.put, List.setIfInBounds_toArray, List.set_cons_zero, List.set_cons_succ]
        refine anyT_take (i := 9) (v := ?v9b) rfl (by kernel_rfl) (by kernel_rfl) (by kernel_rfl) (by kernel_rfl) (fun _ _ _ h => h) (Or.inl ⟨by kernel_rfl, ?hy9b⟩) trivial ?rest9b
        case hy9b =>
          intro W hSw
          clear hSw
          go_simp
          try with_reducible rfl
        try simp only [Act.put, List.setIfInBounds_toArray, List.set_cons_zero, List.set_cons_succ]
        refine anyT_take (i := 10) (v := ?v10b) rfl (by kernel_rfl) (by kernel_rfl) (by kernel_rfl) (by kernel_rfl) (fun _ _ _ h => h) (Or.inl ⟨by kernel_rfl, ?hy10b⟩) trivial ?rest10b
        case hy10b =>
          intro W hSw
          clear hSw
          go_simp
          try with_reducible rfl
        try simp only [Act.put, List.setIfInBounds_toArray, List.set_cons_zero, List.set_cons_succ]
        refine anyT_take (i := 11) (v := ?v11b) rfl (by kernel_rfl) (by kernel_rfl) (by kernel_rfl) (by kernel_rfl) (fun _ _ _ h => h) (Or.inl ⟨by kernel_rfl, ?hy11b⟩) trivial ?rest11b
        case hy11b =>
          intro W hSw
          clear hSw
          go_simp
          try with_reducible rfl
        try simp only [Act.put, List.setIfInBounds_toArray, List.set_cons_zero, List.set_cons_succ]
        refine anyT_take (i := 12) (v := ?v12b) rfl (by kernel_rfl) (by kernel_rfl) (by kernel_rfl) (by kernel_rfl) (fun _ _ _ h => h) (Or.inl ⟨by kernel_rfl, ?hy12b⟩) trivial ?rest12b
        case hy12b =>
          intro W hSw
          clear hSw
          go_simp
          try with_reducible rfl
        try simp only [Act.put, List.setIfInBounds_toArray, List.set_cons_zero, List.set_cons_succ]
        refine anyT_take (i := 14) (v := ?v14b) rfl (by kernel_rfl) (by kernel_rfl) (by kernel_rfl) (by kernel_rfl) (fun _ _ _ h => h) (Or.inl ⟨by kernel_rfl, ?hy14b⟩) trivial ?rest14b
        case hy14b =>
          intro W hSw
          clear hSw
          go_simp
          try with_reducible rfl
        try simp only [Act.put, List.setIfInBounds_toArray, List.set_cons_zero, List.set_cons_succ]
        refine anyT_one (i := 13) (by kernel_rfl) rfl (fun K hK => ?_)
        go_simp
        go_at_call 65
        refine (Tryz.strings_Repeat (s.extract 0 n) q _ (by omega) hrl).mono ?_
        rintro e w2 ⟨rfl, hb2⟩
        rw [HRP.out]
        have HB2 := Lib.hid (step2 (below_drewN Hbl.out 1) hb2)
        clear hb2
        refine hK _ _ (fun _ => trivial) ?_
        clear hK K
        try simp only [Act.put, List.setIfInBounds_toArray, List.set_cons_zero, List.set_cons_succ]
        refine anyT_take (i := 15) (v := ?v15b) rfl (by kernel_rfl) (by kernel_rfl) (by kernel_rfl) (by kernel_rfl) (fun _ _ _ h => h) (Or.inl ⟨by kernel_rfl, ?hy15b⟩) trivial ?rest15b
        case hy15b =>
          intro W hSw
          clear hSw
          go_simp
          try with_reducible rfl
        try simp only [Act.put, List.setIfInBounds_toArray, List.set_cons_zero, List.set_cons_succ]
        refine anyT_take (i := 16) (v := ?v16b) rfl (by kernel_rfl) (by kernel_rfl) (by kernel_rfl) (by kernel_rfl) (fun _ _ _ h => h) (Or.inl ⟨by kernel_rfl, ?hy16b⟩) trivial ?rest16b
        case hy16b =>
          intro W hSw
          clear hSw
          go_simp
          try with_reducible rfl
        try simp only [Act.put, List.setIfInBounds_toArray, List.set_cons_zero, List.set_cons_succ]
        refine anyT_done (by kernel_rfl) ?_
        go_simp
        go_wp2_with fail
        go_quiet (fail)
        go_wp2_with fail
        go_ret2
        exact ⟨n, ⟨h1, hn, HR.out, HALL.out⟩, by rw [HQ.out]; rfl, below_drewN HB2.out _⟩
    · have hr : rtB s n = false := by simp [rtB, hm]
      have hlt : n < s.size := by
        rcases Nat.lt_or_ge n s.size with h | h
        · exact h
        · obtain rfl : n = s.size := by omega
          rw [rtB_full h0] at hr; cases hr
      have HR := Lib.hid hr
      have hn0 : ¬ n = 0 := by omega
      have hn1 : ¬ (n : Int) = 0 := by omega
      obtain ⟨r, hr'⟩ : ∃ r : Nat, s.size % n = r := ⟨_, rfl⟩
      have hrm : (s.size : Int).tmod (n : Int) = (r : Int) := by rw [← hr']; rfl
      have hr0 : ((r : Int) == 0) = false := by simp; omega
      have hnz : ((n : Int) == 0) = false := by simp; omega
      clear hr' hr hm
      go_wp2_with fail
      go_quiet (fail)
      go_wp2_with fail
      go_roundw
      case rel =>
        refine ⟨n + 1, by omega, hlt, by go_num, fun j h2 h3 => ?_, below_drewN Hbl.out _⟩
        by_cases e : j = n
        · rw [e]; exact HR.out
        · exact HALL.out j h2 (by omega)
      case measure => simp [intOf]; omega
end Go.Proofs.YtbjoblgklcilpaaGreat
