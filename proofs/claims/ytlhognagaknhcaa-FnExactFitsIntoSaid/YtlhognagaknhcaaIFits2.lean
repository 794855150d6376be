/- IFits2: a part of the proofs of this seat. -/
import Derived.Test.YtlhognagaknhcaaProg
import Derived.Test.YtlhognagaknhcaaIOrb
namespace Go.Proofs.Ytlhognagaknhcaa
open Go.RowKit
set_option linter.all false
set_option maxHeartbeats 1600000 in
theorem iFG_any (p : Option Addr) (n c : Nat) (xs : List Int) (p' : Option Addr) (n' c' : Nat) (ys : List Int) (w : World) (h : Ints w p n xs) (h' : Ints w p' n' ys) (hl : n ≤ n') :
    Calls Try.prog 69 #[.slice p n c, .slice p' n' c'] w fun e w' => e = .returned (.int .i64 (fgI 0 xs ys)) ∧ w = w' := by
  have hm := h.2.1
  have hm' := h'.2.1
  have HL : Hid (xs.length = n) := h.1
  have H := Lib.hid h
  have H' := Lib.hid h'
  clear h h'
  go_enter Try.func69, Try.ntmps69
  go_wp2_with fail
  go_loop [9] (fun v => ∃ k : Nat, k ≤ n ∧ v = .int .i64 k ∧ Hid (fgI k (xs.drop k) (ys.drop k) = fgI 0 xs ys)) (fun v => n - (intOf v).toNat)
  case atStart => exact ⟨0, Nat.zero_le _, rfl, rfl⟩
  case round =>
    obtain ⟨k, hk, rfl, hr⟩ := hrel
    by_cases hlt : k < n
    · have hlt' : k < n' := by omega
      obtain ⟨b1, o1, x, rfl, hcx, hgx⟩ := H.out.at_ hlt
      obtain ⟨b2, o2, y, rfl, hcy, hgy⟩ := H'.out.at_ hlt'
      have HS := Lib.hid (fgI_step hgx.out hgy.out hr.out)
      clear hgx hgy hr
      by_cases h1 : y < x
      · have hd : decide (y < x) = true := by simpa using h1
        have HR := Lib.hid (HS.out.1 h1)
        clear HS h1
        go_wp2_with fail
        go_ret
        exact ⟨ret_int HR.out.symm, rfl⟩
      · have hd : decide (y < x) = false := by simpa using h1
        have HR := Lib.hid (HS.out.2 h1)
        clear HS h1
        go_wp2_with fail
        go_round
        case rel => exact ⟨k + 1, hlt, by go_num, HR.out⟩
        case measure => simp [intOf]; omega
    · have HR := Lib.hid (fgI_end (by rw [HL.out]; omega) hr.out)
      clear hr
      go_wp2_with fail
      go_ret
      exact ⟨ret_int HR.out.symm, rfl⟩
set_option maxHeartbeats 1600000 in
theorem iFitsInto_any (pa : Option Addr) (na ca : Nat) (a : List (List Int)) (pb : Option Addr) (nb cb : Nat) (b : List (List Int)) (n : Int) (w : World) (ha : Intss w pa na a) (hb : Intss w pb nb b) :
    Calls Try.prog 32 #[.slice pa na ca, .slice pb nb cb, .int .i64 n] w fun e w' => e = .returned (.bool (fits a b n)) ∧ Below w.heap.size w w' := by
  have HA := Lib.hid ha
  have HB := Lib.hid hb
  clear ha hb
  have hlx := orbV_len a n
  have hly := orbV_len b n
  obtain ⟨X, hX⟩ : ∃ X, orbV a n = X := ⟨_, rfl⟩
  obtain ⟨Y, hY⟩ : ∃ Y, orbV b n = Y := ⟨_, rfl⟩
  have HG : Hid (fits a b n = (fitL X Y && (decide (0 < X.length) && decide (0 < Y.length)))) := by show _ = _; rw [← hX, ← hY]; rfl
  rw [hX] at hlx
  rw [hY] at hly
  have HX := Lib.hid hX
  have HY := Lib.hid hY
  have HLX := Lib.hid hlx
  have HLY := Lib.hid hly
  clear hX hY hlx hly
  have hnn := fun (wx : World) => run_neq_slice_nil_any (P := Try.prog) wx 24 3 none 0 0 0 0 Try.underlying24
  have hns := fun (wx : World) (q : Addr) (k c : Nat) => run_neq_slice_nil_any (P := Try.prog) wx 24 3 (some q) k c 0 0 Try.underlying24
  simp only [Option.isNone, Bool.not_true, Bool.not_false] at hnn hns
  go_enter Try.func32, Try.ntmps32
  go_wp2_with fail
  refine (iOrb_nil _ _ _ a _ _ HA.out).mono ?_
  rintro e w1 ⟨v1, rfl, ho1, hb1, hn1⟩
  rw [HX.out] at ho1 hn1
  have Ho1 := Lib.hid ho1
  have Hb1 := Lib.hid hb1
  have Hn1 := Lib.hid hn1
  clear ho1 hb1 hn1
  go_wp2_with fail
  refine (iOrb_nil _ _ _ b _ _ (HB.out.keep Hb1.out)).mono ?_
  rintro e w2 ⟨v2, rfl, ho2, hb2, hn2⟩
  rw [HY.out] at ho2 hn2
  have Ho2 := Lib.hid ho2
  have Hb2 := Lib.hid (step2 Hb1.out hb2)
  have Hn2 := Lib.hid hn2
  have Ho1' := Lib.hid (Ho1.out.keep hb2)
  clear ho2 hb2 hn2 Ho1
  by_cases hx : X = []
  · have e1 := Hn1.out hx
    subst e1
    have HR : Hid (fits a b n = false) := by show _ = _; rw [HG.out, hx]; simp
    clear hx
    go_wp2_with fail
    go_ret
    exact ⟨ret_bool HR.out.symm, Hb2.out⟩
  have hx0 : 0 < X.length := by cases X with
    | nil => exact absurd rfl hx
    | cons _ _ => simp
  obtain ⟨g1, c1, rfl⟩ := Ho1'.out.head hx0
  by_cases hy : Y = []
  · have e2 := Hn2.out hy
    subst e2
    have HR : Hid (fits a b n = false) := by show _ = _; rw [HG.out, hy]; simp
    clear hx hy
    go_wp2_with fail
    go_ret
    exact ⟨ret_bool HR.out.symm, Hb2.out⟩
  have hy0 : 0 < Y.length := by cases Y with
    | nil => exact absurd rfl hy
    | cons _ _ => simp
  obtain ⟨g2, c2, rfl⟩ := Ho2.out.head hy0
  have hll : X.length ≤ Y.length := by
    rcases HLX.out with h | h
    · exact absurd h hx
    · rcases HLY.out with h2 | h2
      · exact absurd h2 hy
      · omega
  have HR : Hid (fits a b n = decide (fgI 0 X Y < 0)) := by show _ = _; rw [HG.out, fgI_neg]; simp [hx0, hy0]
  clear hx hy
  go_wp2_with (go_at_call 69; refine (iFG_any _ _ _ X _ _ _ Y _ Ho1'.out.ints Ho2.out.ints hll).mono ?_; rintro e w' ⟨rfl, rfl⟩)
  go_ret
  exact ⟨ret_bool HR.out.symm, Hb2.out⟩
end Go.Proofs.Ytlhognagaknhcaa
