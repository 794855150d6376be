/- SCountRooted: a part of the proofs of this seat. -/
import Derived.Test.YtlhognagaknhcaaProg
import Derived.Test.YtlhognagaknhcaaRooted
import Derived.Test.YtlhognagaknhcaaSPowM
namespace Go.Proofs.Ytlhognagaknhcaa
open Go.RowKit
set_option linter.all false
set_option maxHeartbeats 1600000 in
theorem sCountRooted_any (pm : Option Addr) (nm cm : Nat) (m : List (List Int)) (i n : Int) (w : World) (hm : Intss w pm nm m) :
    Calls Try.prog 92 #[.slice pm nm cm, .int .i64 i, .int .i64 n] w fun e w' => e = .returned (.int .i64 (rooted m i n)) ∧ Below w.heap.size w w' := by
  have hmm := hm.2.1
  have HM := Lib.hid hm
  have HLM : Hid (m.length = nm) := hm.1
  clear hm
  cases h1 : isMat m
  · have hg : Hid (rooted m i n = -1) := rooted_mat h1
    go_enter Try.func92, Try.ntmps92
    go_wp2_with (first | (go_at_call 88; refine (sIsMatrix_any _ _ _ m _ HM.out).mono ?_; rintro e w' ⟨rfl, rfl⟩))
    go_ret
    exact ⟨ret_int hg.out.symm, Below.refl _ _⟩
  cases h2 : inR i 0 ((nm : Int) - 1)
  · have hg : Hid (rooted m i n = -1) := rooted_i (by rw [HLM.out]; exact h2)
    go_enter Try.func92, Try.ntmps92
    go_wp2_with (first | (go_at_call 88; refine (sIsMatrix_any _ _ _ m _ HM.out).mono ?_; rintro e w' ⟨rfl, rfl⟩) | (go_at_call 46; refine (l1In_any _ _ _ _).mono ?_; rintro e w' ⟨rfl, rfl⟩))
    go_ret
    exact ⟨ret_int hg.out.symm, Below.refl _ _⟩
  cases h3 : inR n 1 30
  · have hg : Hid (rooted m i n = -1) := rooted_n h3
    go_enter Try.func92, Try.ntmps92
    go_wp2_with (first | (go_at_call 88; refine (sIsMatrix_any _ _ _ m _ HM.out).mono ?_; rintro e w' ⟨rfl, rfl⟩) | (go_at_call 46; refine (l1In_any _ _ _ _).mono ?_; rintro e w' ⟨rfl, rfl⟩))
    go_ret
    exact ⟨ret_int hg.out.symm, Below.refl _ _⟩
  have hi2 := inR_true h2
  obtain ⟨k, rfl⟩ := Int.eq_ofNat_of_zero_le hi2.1
  have hk : k < nm := by omega
  have H123 : Hid (isMat m = true ∧ inR (k : Int) 0 (m.length - 1) = true ∧ inR n 1 30 = true) := ⟨h1, by rw [HLM.out]; exact h2, h3⟩
  clear hi2
  go_enter Try.func92, Try.ntmps92
  go_wp2_with (first | (go_at_call 88; refine (sIsMatrix_any _ _ _ m _ HM.out).mono ?_; rintro e w' ⟨rfl, rfl⟩) | (go_at_call 46; refine (l1In_any _ _ _ _).mono ?_; rintro e w' ⟨rfl, rfl⟩))
  clear h1 h2 h3
  refine (sPowM_any _ _ _ m _ _ HM.out).mono ?_
  rintro e w1 ⟨v, rfl, hown, hbl⟩
  cases hp : powM m n with
  | none =>
    have hg : Hid (rooted m k n = -1) := rooted_none hp
    have Hbl := Lib.hid hbl
    clear hown hbl
    go_wp2_with fail
    go_ret
    exact ⟨ret_int hg.out.symm, Hbl.out⟩
  | some p =>
    have hpm := powM_mat hp
    have hpl : p.length = nm := by rw [hpm.2.2, HLM.out]
    rw [hp] at hown
    have hown' : OIntss w1 w.heap.size v p.length p := hown
    rw [hpl] at hown'
    obtain ⟨ao, cap, rfl, hin⟩ := hown'.form
    obtain ⟨b, o, ai, ci, q, rfl, hc, hrow, hget⟩ := hin.at_ hk
    have hql : q.length = nm := by rw [(isMat_row hpm.2.1 hget.out).1, hpl]
    obtain ⟨b', o', x, rfl, hcx, hgetx⟩ := hrow.at_ (k := k) (by omega)
    have hg : Hid (rooted m k n = x) := rooted_some (r := m) H123.out.1 H123.out.2.1 H123.out.2.2 hp hget.out hgetx.out
    have Hbl := Lib.hid hbl
    have hkq : k < q.length := by omega
    clear hown hbl hown' hin hrow hpm hpl hql
    go_wp2_with fail
    go_ret
    exact ⟨ret_int hg.out.symm, Hbl.out⟩
end Go.Proofs.Ytlhognagaknhcaa
