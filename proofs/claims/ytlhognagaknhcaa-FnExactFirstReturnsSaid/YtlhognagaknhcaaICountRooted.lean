/- ICountRooted: a part of the proofs of this seat. -/
import Derived.Test.YtlhognagaknhcaaProg
import Derived.Test.YtlhognagaknhcaaRooted
import Derived.Test.YtlhognagaknhcaaIPowM
namespace Go.Proofs.Ytlhognagaknhcaa
open Go.RowKit
set_option linter.all false
set_option maxHeartbeats 1600000 in
theorem iCountRooted_any (pm : Option Addr) (nm cm : Nat) (m : List (List Int)) (i n : Int) (w : World) (hm : Intss w pm nm m) :
    Calls Try.prog 94 #[.slice pm nm cm, .int .i64 i, .int .i64 n] w fun e w' => e = .returned (.int .i64 (rooted m i n)) ∧ Below w.heap.size w w' := by
  have hmm := hm.2.1
  have HM := Lib.hid hm
  have HLM : Hid (m.length = nm) := hm.1
  clear hm
  cases h1 : isMat m
  · have hg : Hid (rooted m i n = -1) := rooted_mat h1
    go_enter Try.func94, Try.ntmps94
    go_wp2_with (first | (go_at_call 90; refine (iIsMatrix_any _ _ _ m _ HM.out).mono ?_; rintro e w' ⟨rfl, rfl⟩))
    go_ret
    exact ⟨ret_int hg.out.symm, Below.refl _ _⟩
  by_cases h2 : i < 0
  · have hg : Hid (rooted m i n = -1) := rooted_i (inR_no (.inl h2))
    have hd2 : decide (i < 0) = true := by simpa using h2
    go_enter Try.func94, Try.ntmps94
    go_wp2_with (first | (go_at_call 90; refine (iIsMatrix_any _ _ _ m _ HM.out).mono ?_; rintro e w' ⟨rfl, rfl⟩))
    go_ret
    exact ⟨ret_int hg.out.symm, Below.refl _ _⟩
  have hd2 : decide (i < 0) = false := by simpa using h2
  by_cases h3 : (nm : Int) ≤ i
  · have hg : Hid (rooted m i n = -1) := rooted_i (inR_no (.inr (by rw [HLM.out]; omega)))
    have hd3 : decide ((nm : Int) ≤ i) = true := by simpa using h3
    go_enter Try.func94, Try.ntmps94
    go_wp2_with (first | (go_at_call 90; refine (iIsMatrix_any _ _ _ m _ HM.out).mono ?_; rintro e w' ⟨rfl, rfl⟩))
    go_ret
    exact ⟨ret_int hg.out.symm, Below.refl _ _⟩
  have hd3 : decide ((nm : Int) ≤ i) = false := by simpa using h3
  by_cases h4 : n < 1
  · have hg : Hid (rooted m i n = -1) := rooted_n (inR_no (.inl h4))
    have hd4 : decide (n < 1) = true := by simpa using h4
    go_enter Try.func94, Try.ntmps94
    go_wp2_with (first | (go_at_call 90; refine (iIsMatrix_any _ _ _ m _ HM.out).mono ?_; rintro e w' ⟨rfl, rfl⟩))
    go_ret
    exact ⟨ret_int hg.out.symm, Below.refl _ _⟩
  have hd4 : decide (n < 1) = false := by simpa using h4
  obtain ⟨k, rfl⟩ := Int.eq_ofNat_of_zero_le (show 0 ≤ i by omega)
  have hk : k < nm := by omega
  have H12 : Hid (isMat m = true ∧ inR (k : Int) 0 (m.length - 1) = true) := ⟨h1, inR_mk ⟨by omega, by rw [HLM.out]; omega⟩⟩
  clear h2 h3
  go_enter Try.func94, Try.ntmps94
  go_wp2_with (first | (go_at_call 90; refine (iIsMatrix_any _ _ _ m _ HM.out).mono ?_; rintro e w' ⟨rfl, rfl⟩))
  clear h1 hd2 hd3 hd4
  refine (iPowM_any _ _ _ m _ _ HM.out).mono ?_
  rintro e w1 ⟨v, rfl, hown, hbl⟩
  cases hp : powM m n with
  | none =>
    have hg : Hid (rooted m k n = -1) := rooted_none hp
    have Hbl := Lib.hid hbl
    clear hown hbl
    go_wp2_with fail
    go_ret
    exact ⟨ret_int hg.out.symm, Hbl.out⟩
  | some p =>
    have hpm := powM_mat hp
    have h3 : inR n 1 30 = true := by
      have h5 : inR n 0 30 = true := by
        cases h6 : inR n 0 30 with
        | true => rfl
        | false => rw [powM_none2 h6] at hp; cases hp
      exact inR_mk ⟨by omega, (inR_true h5).2⟩
    have hpl : p.length = nm := by rw [hpm.2.2, HLM.out]
    rw [hp] at hown
    have hown' : OIntss w1 w.heap.size v p.length p := hown
    rw [hpl] at hown'
    obtain ⟨ao, cap, rfl, hin⟩ := hown'.form
    obtain ⟨b, o, ai, ci, q, rfl, hc, hrow, hget⟩ := hin.at_ hk
    have hql : q.length = nm := by rw [(isMat_row hpm.2.1 hget.out).1, hpl]
    obtain ⟨b', o', x, rfl, hcx, hgetx⟩ := hrow.at_ (k := k) (by omega)
    have hg : Hid (rooted m k n = x) := rooted_some (r := m) H12.out.1 H12.out.2 h3 hp hget.out hgetx.out
    have Hbl := Lib.hid hbl
    have hkq : k < q.length := by omega
    clear hown hbl hown' hin hrow hpm hpl hql h3
    go_wp2_with fail
    go_ret
    exact ⟨ret_int hg.out.symm, Hbl.out⟩
end Go.Proofs.Ytlhognagaknhcaa
