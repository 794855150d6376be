/- All words of a length, in order. -/
import Derived.Test.YtgcemkpinmjaeaaTxtT
import Derived.Test.YtgcemkpinmjaeaaWordT
namespace Go.Proofs.Ytgcemkpinmjaeaa
open Go.RowKit
set_option linter.all false
def wdB (k : Nat) : Nat → Nat → List UInt8
  | 0, _ => []
  | n + 1, i => wdB k n (i / k) ++ [97 + UInt8.ofNat (i % k)]
def wordN (k n i : Nat) : ByteArray := ⟨(wdB k n i).toArray⟩
def allW (k n : Nat) : List ByteArray := (List.range (k ^ n)).map (wordN k n)
theorem wdB_len (k : Nat) : ∀ n i, (wdB k n i).length = n
  | 0, _ => rfl
  | n + 1, i => by rw [wdB, List.length_append, wdB_len k n]; rfl
theorem wordN_size (k n i : Nat) : (wordN k n i).size = n := by
  have h := wdB_len k n i
  simpa [wordN, ByteArray.size] using h
theorem allW_len (k n : Nat) : (allW k n).length = k ^ n := by simp [allW]
theorem allW_get {k n i : Nat} (h : i < k ^ n) : (allW k n)[i]? = some (wordN k n i) := by simp [allW, h]
theorem allW_zero (k : Nat) : allW k 0 = [⟨#[]⟩] := by simp [allW, wordN, wdB]
theorem abc_at {x : Nat} (h : x < 3) : (⟨#[97, 98, 99]⟩ : ByteArray).extract x (x + 1) = ⟨#[97 + UInt8.ofNat x]⟩ := by
  have h3 : x = 0 ∨ x = 1 ∨ x = 2 := by omega
  rcases h3 with rfl | rfl | rfl <;> decide +kernel
theorem word_snoc {k n j x : Nat} (hx : x < k) : wordN k (n + 1) (j * k + x) = wordN k n j ++ (⟨#[97 + UInt8.ofNat x]⟩ : ByteArray) := by
  have e1 : (j * k + x) / k = j := by
    rw [Nat.mul_comm, Nat.mul_add_div (by omega), Nat.div_eq_of_lt hx, Nat.add_zero]
  have e2 : (j * k + x) % k = x := by
    rw [Nat.mul_comm, Nat.mul_add_mod, Nat.mod_eq_of_lt hx]
  unfold wordN
  rw [wdB, e1, e2]
  apply ByteArray.ext
  simp
theorem pow_le_of {k n : Nat} (hk : k ≤ 3) (hn : n ≤ 8) : k ^ n ≤ 6561 :=
  Nat.le_trans (Nat.pow_le_pow_left hk n) (Nat.le_trans (Nat.pow_le_pow_right (by omega) hn) (by decide))
theorem idx_lt {k n j x : Nat} (hj : j < k ^ n) (hx : x < k) : j * k + x < k ^ (n + 1) := by
  rw [Nat.pow_succ]
  have h1 : (j + 1) * k ≤ k ^ n * k := Nat.mul_le_mul_right k hj
  rw [Nat.add_mul, Nat.one_mul] at h1
  omega
/-- What is still to be written of a word, its end first. -/
theorem wdB_step {k t i : Nat} {S R : List UInt8} (h : wdB k (t + 1) i ++ S = R) : wdB k t (i / k) ++ ([97 + UInt8.ofNat (i % k)] ++ S) = R := by
  rw [← h, wdB]
  simp
theorem wdB_bytes {k : Nat} (hk : 1 ≤ k) (hk3 : k ≤ 3) : ∀ n i, ∀ b ∈ wdB k n i, 97 ≤ b.toNat ∧ b.toNat < 97 + k
  | 0, _ => by simp [wdB]
  | n + 1, i => by
    intro b hb
    rw [wdB] at hb
    rcases List.mem_append.1 hb with hb | hb
    · exact wdB_bytes hk hk3 n _ b hb
    · simp at hb
      subst hb
      have hm : i % k < k := Nat.mod_lt _ (by omega)
      have h3 : i % k = 0 ∨ i % k = 1 ∨ i % k = 2 := by omega
      rcases h3 with h | h | h <;> rw [h] at hm ⊢ <;> refine ⟨by decide, ?_⟩
      · show (97 : Nat) < _; omega
      · show (98 : Nat) < _; omega
      · show (99 : Nat) < _; omega
theorem bl_list {s : ByteArray} {j : Nat} (h : j < s.size) : ∃ b, s.data.toList[j]? = some b ∧ bl s j = b.toNat := by
  have hl : j < s.data.toList.length := by rw [Array.length_toList]; exact h
  refine ⟨s.data.toList[j], List.getElem?_eq_getElem hl, ?_⟩
  rw [bl_get h]
  congr 1
theorem okW_of {k : Int} {s : ByteArray} : ∀ (m i : Nat), (∀ j, i ≤ j → j < i + m → 97 ≤ bl s j ∧ (bl s j : Int) - 97 < k) → okW k s i m = true
  | 0, _, _ => rfl
  | m + 1, i, h => by
    have h0 := h i (Nat.le_refl _) (by omega)
    have hr := okW_of m (i + 1) (fun j h1 h2 => h j (by omega) (by omega))
    simp [okW, h0.1, h0.2, hr]
theorem isWd_word {k n i : Nat} (hk : 1 ≤ k) (hk3 : k ≤ 3) (hn : n ≤ 16) : isWd k (wordN k n i) = true := by
  have hs := wordN_size k n i
  have h1 : inR (k : Int) 1 3 = true := inR_mk ⟨by omega, by omega⟩
  have h2 : okW k (wordN k n i) 0 (wordN k n i).size = true := by
    refine okW_of _ _ fun j _ hj => ?_
    obtain ⟨b, hb, e⟩ := bl_list (s := wordN k n i) (j := j) (by omega)
    have hm : b ∈ wdB k n i := by
      have h := List.mem_of_getElem? hb
      simpa [wordN] using h
    have := wdB_bytes hk hk3 n i b hm
    rw [e]
    omega
  unfold isWd
  rw [h1, h2]
  simp
  omega
end Go.Proofs.Ytgcemkpinmjaeaa
