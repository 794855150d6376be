/- The words of the block graph: impl. and spec. give the same. -/
import Derived.Test.YtdmpokanfnlbgaaGreatDoorBG1b
import Derived.Test.YtdmpokanfnlbgaaGreatDoorBG0b
import Derived.Test.YtdmpokanfnlbgaaGreatDoorBIBlockW
namespace Go.Proofs.YtdmpokanfnlbgaaGreatDoor
open Go.RowKit
set_option linter.all false
theorem occ_trans {s p f : ByteArray} (hp : 0 < p.size) (hf : 0 < f.size) (h1 : occ s p = true) (h2 : occ p f = true) : occ s f = true := by
  obtain ⟨j, hj, e1⟩ := (occ_iff hp).1 h1
  obtain ⟨i, hi, e2⟩ := (occ_iff hf).1 h2
  refine (occ_iff hf).2 ⟨j + i, by omega, ?_⟩
  unfold Lib.occAt at e1 e2 ⊢
  rw [List.isPrefixOf_iff_prefix] at e1 e2 ⊢
  obtain ⟨t, ht⟩ := e1
  obtain ⟨t', ht'⟩ := e2
  have hl : p.data.toList.length = p.size := Array.length_toList
  refine ⟨t' ++ t, ?_⟩
  have e : s.data.toList.drop (j + i) = (s.data.toList.drop j).drop i := by rw [List.drop_drop]
  rw [e, ← ht, List.drop_append_of_le_length (by omega), ← ht', List.append_assoc]
theorem has_eq {K : Nat} {F : List ByteArray} {s : ByteArray} (h0 : 0 < s.size) (hF : ∀ f ∈ F, 0 < f.size) : hasI F (pairsS K F) s = inL F (pairsS K F) s := by
  have hP : ∀ p ∈ pairsS K F, avB F p = true := fun p hp => (List.mem_filter.1 (pairsF_sub hp)).2
  generalize pairsS K F = P at hP
  unfold hasI inL
  by_cases h2 : s.size < 2
  · have h3 : ¬ 2 ≤ s.size := by omega
    rw [if_pos h2, if_neg h3]
    cases ha : P.any fun u => occ u s
    · simp
    · obtain ⟨p, hp, ho⟩ := List.any_eq_true.1 ha
      have hav : avB F s = true := by
        unfold avB
        rw [List.all_eq_true]
        intro f hf
        cases hq : occ s f
        · rfl
        · have h4 := occ_trans h0 (hF f hf) ho hq
          have h5 := List.all_eq_true.1 (hP p hp) f hf
          rw [h4] at h5
          exact h5
      have hne : P.isEmpty = false := by
        cases P with
        | nil => simp at hp
        | cons a b => rfl
      simp [hav, hne]
  · have h3 : 2 ≤ s.size := by omega
    rw [if_neg h2, if_pos h3]
    cases P with
    | nil => simp [hasT]
    | cons a b => simp
theorem langI_eq {K m : Nat} {F : List ByteArray} (hs : isSh (K : Int) F = true) (h1 : 1 ≤ m) (h6 : m ≤ 6) : langI K m F = lang (K : Int) F (m : Int) := by
  have hg := isSh_get hs
  have hi : inR (m : Int) 0 6 = true := by simp [inR]; omega
  unfold langI lang
  rw [hs, hi, states_eq (by omega)]
  simp only [Bool.and_self, if_true, Int.toNat_natCast]
  refine List.filter_congr fun s hs' => ?_
  obtain ⟨i, _, rfl⟩ := allW_mem hs'
  exact has_eq (by rw [wordN_size]; omega) (fun f hf => (hg.2.2 f hf).1)
theorem blk_eq (K : Int) (F : List ByteArray) (n : Int) : blkI K F n = blkW K F n := by
  unfold blkI blkW
  cases hs : isSh K F
  · simp
  cases hn : inR n 1 3
  · simp
  have hg := (isSh_get hs).1
  have hnn := inR_true hn
  obtain ⟨K, rfl⟩ : ∃ m : Nat, K = m := ⟨K.toNat, by omega⟩
  obtain ⟨m, rfl⟩ : ∃ m : Nat, n = m := ⟨n.toNat, by omega⟩
  have e1 := langI_eq (m := m) hs (by omega) (by omega)
  have e2 := langI_eq (m := m + 1) hs (by omega) (by omega)
  have e3 : (((m + 1 : Nat) : Int)) = (m : Int) + 1 := by omega
  rw [e3] at e2
  simp only [Int.toNat_natCast, e1, e2]
end Go.Proofs.YtdmpokanfnlbgaaGreatDoor
