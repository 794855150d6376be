/- ToIntS: a part of the proofs of this seat. -/
import Derived.Test.YtlhognagaknhcaaProg
import Derived.Test.YtlhognagaknhcaaMem
namespace Go.Proofs.Ytlhognagaknhcaa
open Go.RowKit
set_option linter.all false
theorem take_set_step {xs L : List Int} {k : Nat} (hk : k < xs.length) (hL : L.length = xs.length) (h : L.take k = xs.take k) : (L.set k xs[k]).take (k + 1) = xs.take (k + 1) := by
  rw [List.take_succ_eq_append_getElem (by simp; omega), List.take_succ_eq_append_getElem hk]
  simp [List.take_set_of_le, h]

set_option maxHeartbeats 400000 in
theorem toIntS_any (ao : Option Addr) (n cap : Nat) (xs : List Int) (w : World) (h : Ints w ao n xs) :
    Calls Try.prog 51 #[.slice ao n cap] w fun e w' => ∃ g, e = .returned (.slice (some ⟨g, 0, none⟩) n n) ∧ OInts w' w.heap.size (.slice (some ⟨g, 0, none⟩) n n) n xs ∧ Below w.heap.size w w' := by
  obtain ⟨hn, hm, hc⟩ := h
  subst hn
  have hmk := make_ints xs.length hm
  have hmade := OInts.made w xs.length hm
  go_enter Try.func51, Try.ntmps51
  go_wp2
  go_loopw [4] (fun i wr => ∃ (k : Nat) (L : List Int), k ≤ xs.length ∧ i = .int .i64 k ∧ OInts wr w.heap.size (.slice (some ⟨w.heap.size, 0, none⟩) xs.length xs.length) xs.length L ∧ Hid (L.take k = xs.take k) ∧ Below w.heap.size w wr) (fun i _ => xs.length - (intOf i).toNat)
  case atStart => exact ⟨0, _, Nat.zero_le _, rfl, hmade, rfl, (Below.refl _ _).alloc (Nat.le_refl _) _⟩
  case round =>
    obtain ⟨k, L, hk, rfl, hown, hL, hb⟩ := hrel
    clear hmade hmk
    by_cases hlt : k < xs.length
    · obtain ⟨b, o, rfl, hcell⟩ := hc k hlt
      clear hc
      have hcell' := (hb.cell (p := ⟨b, o + k, none⟩) (World.block_lt_of_cell? w _ hcell)).trans hcell
      have hco := hown.cell k hlt
      have hfo := hown.frozen k
      have hown' := hown.set k (xs[k])
      have hL' : Hid _ := take_set_step hlt hown.len hL.out
      go_wp2
      go_roundw
      case rel => exact ⟨k + 1, _, hlt, by go_num, hown', hL', hb.setCell (Nat.le_refl _) _⟩
      case measure => simp [intOf]; omega
    · go_wp2
      go_ret
      have hl := hown.len
      have e : L = xs := by
        have := hL.out
        rw [List.take_of_length_le (by omega), List.take_of_length_le (by omega)] at this
        exact this
      subst e
      exact ⟨_, rfl, hown, hb⟩
end Go.Proofs.Ytlhognagaknhcaa
