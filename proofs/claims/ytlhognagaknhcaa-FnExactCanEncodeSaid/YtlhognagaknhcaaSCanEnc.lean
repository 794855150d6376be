/- SCanEnc: a part of the proofs of this seat. -/
import Derived.Test.YtlhognagaknhcaaProg
import Derived.Test.YtlhognagaknhcaaCanEnc
import Derived.Test.YtlhognagaknhcaaSLeast
import Derived.Test.YtlhognagaknhcaaSPowM
import Derived.Test.YtlhognagaknhcaaSIsSmall
import Derived.Test.YtlhognagaknhcaaBase
namespace Go.Proofs.Ytlhognagaknhcaa
open Go.RowKit
set_option linter.all false
set_option maxHeartbeats 1600000 in
theorem sCanEnc_any (pm : Option Addr) (nm cm : Nat) (m : List (List Int)) (p q : Int) (w : World) (h : Intss w pm nm m) :
    Calls Try.prog 25 #[.slice pm nm cm, .int .i64 p, .int .i64 q] w fun e w' => e = .returned (.bool (canEnc m p q)) ∧ Below w.heap.size w w' := by
  have H := Lib.hid h
  clear h
  cases h1 : isSmallM m
  · have hg : Hid (canEnc m p q = false) := by show canEnc m p q = _; simp [canEnc, h1]
    go_enter Try.func25, Try.ntmps25
    go_wp2_with (first
          | (go_at_call 57; refine (sIsSmall_any _ _ _ m _ H.out).mono ?_; rintro e w' ⟨rfl, rfl⟩) | (go_at_call 46; refine (l1In_any _ _ _ _).mono ?_; rintro e w' ⟨rfl, rfl⟩))
    go_ret
    exact ⟨ret_bool hg.out.symm, Below.refl _ _⟩
  cases h2 : inR p 1 3
  · have hg : Hid (canEnc m p q = false) := by show canEnc m p q = _; simp [canEnc, h2]
    go_enter Try.func25, Try.ntmps25
    go_wp2_with (first
          | (go_at_call 57; refine (sIsSmall_any _ _ _ m _ H.out).mono ?_; rintro e w' ⟨rfl, rfl⟩) | (go_at_call 46; refine (l1In_any _ _ _ _).mono ?_; rintro e w' ⟨rfl, rfl⟩))
    go_ret
    exact ⟨ret_bool hg.out.symm, Below.refl _ _⟩
  cases h3 : inR q 1 4
  · have hg : Hid (canEnc m p q = false) := by show canEnc m p q = _; simp [canEnc, h3]
    go_enter Try.func25, Try.ntmps25
    go_wp2_with (first
          | (go_at_call 57; refine (sIsSmall_any _ _ _ m _ H.out).mono ?_; rintro e w' ⟨rfl, rfl⟩) | (go_at_call 46; refine (l1In_any _ _ _ _).mono ?_; rintro e w' ⟨rfl, rfl⟩))
    go_ret
    exact ⟨ret_bool hg.out.symm, Below.refl _ _⟩
  have hp := inR_true h2
  cases ht : powM m q with
  | none =>
    have hg := Lib.hid (canEnc_none (p := p) ht)
    have hs : (powM m q).isSome = false := by simp [ht]
    clear ht
    go_enter Try.func25, Try.ntmps25
    go_wp2_with (first
          | (go_at_call 57; refine (sIsSmall_any _ _ _ m _ H.out).mono ?_; rintro e w' ⟨rfl, rfl⟩) | (go_at_call 46; refine (l1In_any _ _ _ _).mono ?_; rintro e w' ⟨rfl, rfl⟩)
          | (go_at_call 58; refine (sPowM_any _ _ _ m _ _ H.out).mono ?_; rintro e w1 ⟨v, rfl, hown, hbl⟩; have Hbl := Lib.hid hbl; clear hown hbl))
    go_ret
    exact ⟨ret_bool hg.out.symm, Hbl.out⟩
  | some t =>
    have hg := Lib.hid (canEnc_some h1 h2 h3 ht)
    have hs : (powM m q).isSome = true := by simp [ht]
    have HG : Hid ((powM m q).getD [] = t) := by show (powM m q).getD [] = t; simp [ht]
    clear ht
    obtain rfl | rfl | rfl : p = 1 ∨ p = 2 ∨ p = 3 := by omega
    all_goals
      clear hp
      go_enter Try.func25, Try.ntmps25
      go_wp2_with (first
          | (go_at_call 57; refine (sIsSmall_any _ _ _ m _ H.out).mono ?_; rintro e w' ⟨rfl, rfl⟩) | (go_at_call 46; refine (l1In_any _ _ _ _).mono ?_; rintro e w' ⟨rfl, rfl⟩)
          | (go_at_call 58; refine (sPowM_any _ _ _ m _ _ H.out).mono ?_; rintro e w1 ⟨v, rfl, hown, hbl⟩; obtain ⟨ao, cap, rfl, hin⟩ := hown.form; rw [HG.out] at hin; have Hin := Lib.hid hin; have Hbl := Lib.hid hbl; clear hown hbl hin; rw [HG.out])
          | (go_at_call 23; refine (sLeast_any _ _ _ t _ _ Hin.out).mono ?_; rintro e w2 ⟨v2, rfl, hown, hb2⟩; have Hb2 := Lib.hid (step2 Hbl.out hb2); clear hown hb2))
      go_ret
      exact ⟨ret_bool hg.out.symm, Hb2.out⟩
end Go.Proofs.Ytlhognagaknhcaa
