/- impl.EqualMatrix: two tables are one. -/
import Derived.Test.YtbjoblgklcilpaaGreatDoorProg
import Derived.Test.YtbjoblgklcilpaaGreatDoorJG0a
import Derived.Test.YtbjoblgklcilpaaGreatDoorJThA
namespace Go.Proofs.YtbjoblgklcilpaaGreatDoor
open Go.RowKit
set_option linter.all false
set_option maxRecDepth 20000 in
set_option maxHeartbeats 1600000 in
theorem equalFunc_any (p : Option Addr) (n c : Nat) (a : List (List Int)) (p' : Option Addr) (n' c' : Nat) (b : List (List Int)) (w : World) (h : Intss w p n a) (h' : Intss w p' n' b) :
    Calls Tryz.prog 88 #[.slice p n c, .slice p' n' c', .func (.func 51) #[] #[]] w fun e w' => e = .returned (.bool (eqL a b)) ∧ Drew w w' := by
  have HL : Hid (a.length = n) := h.1
  have HL' : Hid (b.length = n') := h'.1
  have hm := h.2.1
  have H := Lib.hid h
  have H' := Lib.hid h'
  clear h h'
  by_cases hl : n = n'
  · subst hl
    have hl1 : ((n : Int) != (n : Int)) = false := by simp
    go_enter Tryz.func88, Tryz.ntmps88
    go_wp2_with fail
    go_loopw [17] (fun i wr => ∃ k : Nat, k ≤ n ∧ i = .int .i64 k ∧ Drew w wr ∧ Hid (eqL (a.drop k) (b.drop k) = eqL a b)) (fun i _ => n - (intOf i).toNat)
    case atStart => exact ⟨0, Nat.zero_le _, rfl, Drew.refl w, rfl⟩
    case round =>
      obtain ⟨k, hk, rfl, ⟨m, rfl⟩, hr⟩ := hrel
      by_cases hlt : k < n
      · obtain ⟨b1, o1, a1, c1, r, rfl, hc1, hrow1, hget1⟩ := H.out.at_ hlt
        obtain ⟨b2, o2, a2, c2, r', rfl, hc2, hrow2, hget2⟩ := H'.out.at_ hlt
        have hst := eqL_step (xs := a) (ys := b) (k := k) (by have := HL.out; omega) (by have := HL'.out; omega) hr.out
        have e1 : a[k]'(by have := HL.out; omega) = r := (List.getElem?_eq_some_iff.1 hget1.out).2
        have e2 : b[k]'(by have := HL'.out; omega) = r' := (List.getElem?_eq_some_iff.1 hget2.out).2
        rw [e1, e2] at hst
        have Hst := Lib.hid hst
        have HR1 := Lib.hid hrow1
        have HR2 := Lib.hid hrow2
        clear hst e1 e2 hr hget1 hget2 hrow1 hrow2
        by_cases he : r = r'
        · have HE := Lib.hid (eqL_true he)
          have hr1 := Lib.hid (Hst.out.1 he)
          clear he Hst
          go_wp2_with (go_at_call 51; refine (slicesEqual_any _ _ _ r _ _ _ r' _ (HR1.out.drewN m) (HR2.out.drewN m)).mono ?_; rw [HE.out]; rintro e w1 ⟨rfl, ⟨m1, rfl⟩⟩)
          go_roundw
          case rel => exact ⟨k + 1, hlt, by go_num, Drew.mk _ _, hr1.out⟩
          case measure => (simp [intOf] <;> omega)
        · have HE := Lib.hid (eqL_false he)
          have hr1 := Lib.hid (Hst.out.2 he)
          clear he Hst
          go_wp2_with (go_at_call 51; refine (slicesEqual_any _ _ _ r _ _ _ r' _ (HR1.out.drewN m) (HR2.out.drewN m)).mono ?_; rw [HE.out]; rintro e w1 ⟨rfl, ⟨m1, rfl⟩⟩)
          go_ret
          exact ⟨ret_bool hr1.out.symm, Drew.mk _ _⟩
      · have HE : Hid (eqL a b = true) := by
          show _ = _
          rw [← hr.out]; exact eqL_nil (by have := HL.out; omega) (by have := HL'.out; omega)
        clear hr
        go_wp2_with fail
        go_ret
        exact ⟨ret_bool HE.out.symm, Drew.mk _ _⟩
  · have hl1 : ((n : Int) != (n' : Int)) = true := by simp; omega
    have HE : Hid (eqL a b = false) := eqL_len (by have := HL.out; have := HL'.out; omega)
    clear hl
    go_enter Tryz.func88, Tryz.ntmps88
    go_wp2_with fail
    go_ret
    exact ⟨ret_bool HE.out.symm, Drew.refl w⟩
theorem iEqMat_any (p : Option Addr) (n c : Nat) (a : List (List Int)) (p' : Option Addr) (n' c' : Nat) (b : List (List Int)) (w : World) (h : Intss w p n a) (h' : Intss w p' n' b) :
    Calls Tryz.prog 73 #[.slice p n c, .slice p' n' c'] w fun e w' => e = .returned (.bool (eqL a b)) ∧ Drew w w' := by
  have H := Lib.hid h
  have H' := Lib.hid h'
  clear h h'
  go_enter Tryz.func73, Tryz.ntmps73
  go_wp2_with (go_at_call 88; refine (equalFunc_any _ _ _ a _ _ _ b _ H.out H'.out).mono ?_; rintro e w1 ⟨rfl, hd⟩)
  go_ret
  exact ⟨rfl, hd⟩
end Go.Proofs.YtbjoblgklcilpaaGreatDoor
