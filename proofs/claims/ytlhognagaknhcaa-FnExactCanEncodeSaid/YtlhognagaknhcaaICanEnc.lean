/- ICanEnc: a part of the proofs of this seat. -/
import Derived.Test.YtlhognagaknhcaaProg
import Derived.Test.YtlhognagaknhcaaCanEnc
import Derived.Test.YtlhognagaknhcaaILeast
import Derived.Test.YtlhognagaknhcaaIPowM
import Derived.Test.YtlhognagaknhcaaIIsSmall
namespace Go.Proofs.Ytlhognagaknhcaa
open Go.RowKit
set_option linter.all false
set_option maxHeartbeats 1600000 in
theorem iCanEnc_any (pm : Option Addr) (nm cm : Nat) (m : List (List Int)) (p q : Int) (w : World) (h : Intss w pm nm m) :
    Calls Try.prog 26 #[.slice pm nm cm, .int .i64 p, .int .i64 q] w fun e w' => e = .returned (.bool (canEnc m p q)) ∧ Below w.heap.size w w' := by
  have H := Lib.hid h
  clear h
  cases h1 : isSmallM m
  · have hg : Hid (canEnc m p q = false) := by show canEnc m p q = _; simp [canEnc, h1]
    go_enter Try.func26, Try.ntmps26
    go_wp2_with (first
          | (go_at_call 59; refine (iIsSmall_any _ _ _ m _ H.out).mono ?_; rintro e w' ⟨rfl, rfl⟩))
    go_ret
    exact ⟨ret_bool hg.out.symm, Below.refl _ _⟩
  by_cases d1 : p < 1
  · have hg : Hid (canEnc m p q = false) := by show canEnc m p q = _; simp [canEnc, inR_no (x := p) (lo := 1) (hi := 3) (.inl d1)]
    have hdd1 : decide (p < 1) = true := by simpa using d1
    go_enter Try.func26, Try.ntmps26
    go_wp2_with (first
          | (go_at_call 59; refine (iIsSmall_any _ _ _ m _ H.out).mono ?_; rintro e w' ⟨rfl, rfl⟩))
    go_ret
    exact ⟨ret_bool hg.out.symm, Below.refl _ _⟩
  have hdd1 : decide (p < 1) = false := by simpa using d1
  by_cases d2 : 3 < p
  · have hg : Hid (canEnc m p q = false) := by show canEnc m p q = _; simp [canEnc, inR_no (x := p) (lo := 1) (hi := 3) (.inr d2)]
    have hdd2 : decide (3 < p) = true := by simpa using d2
    go_enter Try.func26, Try.ntmps26
    go_wp2_with (first
          | (go_at_call 59; refine (iIsSmall_any _ _ _ m _ H.out).mono ?_; rintro e w' ⟨rfl, rfl⟩))
    go_ret
    exact ⟨ret_bool hg.out.symm, Below.refl _ _⟩
  have hdd2 : decide (3 < p) = false := by simpa using d2
  by_cases d3 : q < 1
  · have hg : Hid (canEnc m p q = false) := by show canEnc m p q = _; simp [canEnc, inR_no (x := q) (lo := 1) (hi := 4) (.inl d3)]
    have hdd3 : decide (q < 1) = true := by simpa using d3
    go_enter Try.func26, Try.ntmps26
    go_wp2_with (first
          | (go_at_call 59; refine (iIsSmall_any _ _ _ m _ H.out).mono ?_; rintro e w' ⟨rfl, rfl⟩))
    go_ret
    exact ⟨ret_bool hg.out.symm, Below.refl _ _⟩
  have hdd3 : decide (q < 1) = false := by simpa using d3
  by_cases d4 : 4 < q
  · have hg : Hid (canEnc m p q = false) := by show canEnc m p q = _; simp [canEnc, inR_no (x := q) (lo := 1) (hi := 4) (.inr d4)]
    have hdd4 : decide (4 < q) = true := by simpa using d4
    go_enter Try.func26, Try.ntmps26
    go_wp2_with (first
          | (go_at_call 59; refine (iIsSmall_any _ _ _ m _ H.out).mono ?_; rintro e w' ⟨rfl, rfl⟩))
    go_ret
    exact ⟨ret_bool hg.out.symm, Below.refl _ _⟩
  have hdd4 : decide (4 < q) = false := by simpa using d4
  have h2 : inR p 1 3 = true := inR_mk ⟨by omega, by omega⟩
  have h3 : inR q 1 4 = true := inR_mk ⟨by omega, by omega⟩
  have hp := inR_true h2
  cases ht : powM m q with
  | none =>
    have hg := Lib.hid (canEnc_none (p := p) ht)
    have hs : (powM m q).isSome = false := by simp [ht]
    clear ht
    go_enter Try.func26, Try.ntmps26
    go_wp2_with (first
          | (go_at_call 59; refine (iIsSmall_any _ _ _ m _ H.out).mono ?_; rintro e w' ⟨rfl, rfl⟩)
          | (go_at_call 60; refine (iPowM_any _ _ _ m _ _ H.out).mono ?_; rintro e w1 ⟨v, rfl, hown, hbl⟩; have Hbl := Lib.hid hbl; clear hown hbl))
    go_ret
    exact ⟨ret_bool hg.out.symm, Hbl.out⟩
  | some t =>
    have hg := Lib.hid (canEnc_some h1 h2 h3 ht)
    have hs : (powM m q).isSome = true := by simp [ht]
    have HG : Hid ((powM m q).getD [] = t) := by show (powM m q).getD [] = t; simp [ht]
    clear ht
    obtain rfl | rfl | rfl : p = 1 ∨ p = 2 ∨ p = 3 := by omega
    all_goals
      clear hp d1 d2 hdd1 hdd2
      go_enter Try.func26, Try.ntmps26
      go_wp2_with (first
          | (go_at_call 59; refine (iIsSmall_any _ _ _ m _ H.out).mono ?_; rintro e w' ⟨rfl, rfl⟩)
          | (go_at_call 60; refine (iPowM_any _ _ _ m _ _ H.out).mono ?_; rintro e w1 ⟨v, rfl, hown, hbl⟩; obtain ⟨ao, cap, rfl, hin⟩ := hown.form; rw [HG.out] at hin; have Hin := Lib.hid hin; have Hbl := Lib.hid hbl; clear hown hbl hin; rw [HG.out])
          | (go_at_call 24; refine (iLeast_any _ _ _ t _ _ Hin.out).mono ?_; rintro e w2 ⟨v2, rfl, hown, hb2⟩; have Hb2 := Lib.hid (step2 Hbl.out hb2); clear hown hb2))
      go_ret
      exact ⟨ret_bool hg.out.symm, Hb2.out⟩
end Go.Proofs.Ytlhognagaknhcaa
