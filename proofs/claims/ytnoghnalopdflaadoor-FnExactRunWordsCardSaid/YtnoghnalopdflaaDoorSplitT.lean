/- SplitT: a part of the proofs of this seat. -/
import Derived.Lib.SplitLaws
import Derived.Lib.CountLaws
import Derived.Lib.IndexLaws
import Derived.Lib.IndexBytes
import Derived.Test.YtnoghnalopdflaaDoorLensT
namespace Go.Proofs.YtnoghnalopdflaaDoor
open Go.RowKit
set_option linter.all false
/- The sizes of the pieces between the letters b are the runs. -/
def lensL : List UInt8 → Int → List Int
  | [], n => [n]
  | b :: l, n => if b = 98 then n :: lensL l 0 else lensL l (n + 1)
theorem lensL_none : ∀ (l : List UInt8) (n : Int), (∀ k : Nat, l[k]? ≠ some 98) → lensL l n = [n + l.length]
  | [], n, _ => by simp [lensL]
  | b :: l, n, h => by
    have hb : b ≠ 98 := fun e => h 0 (by simp [e])
    rw [lensL, if_neg hb, lensL_none l (n + 1) (fun k => by have := h (k + 1); simpa using this)]
    simp
    omega
theorem lensL_hit : ∀ (i : Nat) (l : List UInt8) (n : Int), l[i]? = some 98 → (∀ k : Nat, k < i → l[k]? ≠ some 98) → lensL l n = (n + i) :: lensL (l.drop (i + 1)) 0
  | 0, [], n, h, _ => by simp at h
  | 0, b :: l, n, h, _ => by
    simp at h
    subst h
    simp [lensL]
  | i + 1, [], n, h, _ => by simp at h
  | i + 1, b :: l, n, h, h2 => by
    have hb : b ≠ 98 := fun e => h2 0 (by omega) (by simp [e])
    rw [lensL, if_neg hb, lensL_hit i l (n + 1) (by simpa using h) (fun k hk => by have := h2 (k + 1) (by omega); simpa using this)]
    simp
    omega
theorem bl_toList {s : ByteArray} {i : Nat} (h : i < s.size) : s.data.toList[i]? = some s[i] := by
  rw [Array.getElem?_toList]
  exact Array.getElem?_eq_getElem h
theorem lensR_L (s : ByteArray) : ∀ (m i : Nat) (n : Int), i + m = s.size → lensR s i m n = lensL (s.data.toList.drop i) n
  | 0, i, n, h => by
    rw [List.drop_eq_nil_of_le (by show s.size ≤ i; omega)]
    rfl
  | m + 1, i, n, h => by
    have hi : i < s.size := by omega
    rw [drop_of_get (bl_toList hi)]
    have e : (bl s i = 98) ↔ (s[i] = 98) := by
      rw [bl_get hi]
      constructor
      · intro h; exact UInt8.toNat.inj h
      · intro h; rw [h]; rfl
    by_cases h98 : bl s i = 98
    · rw [lensR, if_pos h98, lensL, if_pos (e.1 h98), lensR_L s m (i + 1) 0 (by omega)]
    · rw [lensR, if_neg h98, lensL, if_neg (fun h => h98 (e.2 h)), lensR_L s m (i + 1) (n + 1) (by omega)]
theorem pieces : ∀ (k : Nat) (s : ByteArray), Lib.countB s ⟨#[98]⟩ = k → (Lib.splitB ⟨#[98]⟩ 0 k s).map (fun p => (p.size : Int)) = lensL s.data.toList 0
  | k, s, hk => by
    rcases Lib.indexB_cases s ⟨#[98]⟩ with h | ⟨i, h, hle⟩
    · rw [Lib.splitB_miss _ _ _ _ h]
      have h1 : Lib.indexByte s.data.toList 98 = -1 := by rw [← Lib.index_one]; exact h
      rw [lensL_none _ _ (Lib.indexByte_none h1)]
      show [(s.size : Int)] = [0 + ((s.size : Nat) : Int)]
      rw [Int.zero_add]
    · have h1 : Lib.indexByte s.data.toList 98 = (i : Int) := by rw [← Lib.index_one]; exact h
      obtain ⟨h2, h3⟩ := Lib.indexByte_some h1
      have hc := Lib.countB_hit s ⟨#[98]⟩ i (by decide) h
      have hsz : i + 1 ≤ s.size := hle
      match k, hk with
      | 0, hk => omega
      | k + 1, hk =>
        have hk2 : Lib.countB (s.extract (i + 1) s.size) ⟨#[98]⟩ = k := by
          have : (⟨#[98]⟩ : ByteArray).size = 1 := rfl
          rw [this] at hc
          omega
        rw [Lib.splitB_hit _ _ _ _ i h, List.map_cons]
        have ih := pieces k (s.extract (i + 1) s.size) hk2
        have hext : (s.extract (i + 1) s.size).data.toList = s.data.toList.drop (i + 1) := by
          rw [ByteArray.data_extract, Array.toList_extract, List.extract_eq_drop_take]
          exact List.take_of_length_le (by rw [List.length_drop]; exact Nat.le_refl _)
        rw [hext] at ih
        rw [lensL_hit i _ 0 h2 h3]
        congr 1
        · simp [ByteArray.size_extract]
          omega
theorem pieces_lens (s : ByteArray) : (Lib.splitB ⟨#[98]⟩ 0 (Lib.countB s ⟨#[98]⟩) s).map (fun p => (p.size : Int)) = lens s := by
  rw [pieces _ s rfl, lens, lensR_L s s.size 0 0 (by omega)]
  rfl
end Go.Proofs.YtnoghnalopdflaaDoor
