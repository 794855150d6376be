/- ToIntSS: a part of the proofs of this seat. -/
import Derived.Test.YtlhognagaknhcaaProg
import Derived.Test.YtlhognagaknhcaaMem2
import Derived.Test.YtlhognagaknhcaaToIntS
namespace Go.Proofs.Ytlhognagaknhcaa
open Go.RowKit
set_option linter.all false
theorem take_set_step2 {α : Type} {xs L : List α} {k : Nat} {r : α} (hk : xs[k]? = some r) (hL : L.length = xs.length) (h : L.take k = xs.take k) : (L.set k r).take (k + 1) = xs.take (k + 1) := by
  obtain ⟨hk', rfl⟩ := List.getElem?_eq_some_iff.1 hk
  rw [List.take_succ_eq_append_getElem (by simp; omega), List.take_succ_eq_append_getElem hk']
  simp [List.take_set_of_le, h]

set_option maxHeartbeats 800000 in
theorem toIntSS_any (ao : Option Addr) (n cap : Nat) (xss : List (List Int)) (w : World) (h : Intss w ao n xss) :
    Calls Try.prog 16 #[.slice ao n cap] w fun e w' => ∃ g, e = .returned (.slice (some ⟨g, 0, none⟩) n n) ∧ OIntss w' w.heap.size (.slice (some ⟨g, 0, none⟩) n n) n xss ∧ Below w.heap.size w w' := by
  have hm := h.2.1
  have HL := Lib.hid h.1
  have H := Lib.hid h
  clear h
  have hmk := make_intss n hm
  have hmade := OIntss.made w n hm
  go_enter Try.func16, Try.ntmps16
  go_wp2
  go_loopw [4] (fun i wr => ∃ (k : Nat) (L : List (List Int)), k ≤ n ∧ i = .int .i64 k ∧ OIntss wr w.heap.size (.slice (some ⟨w.heap.size, 0, none⟩) n n) n L ∧ Hid (L.take k = xss.take k) ∧ Below w.heap.size w wr) (fun i _ => n - (intOf i).toNat)
  case atStart => exact ⟨0, _, Nat.zero_le _, rfl, hmade, rfl, (Below.refl _ _).alloc (Nat.le_refl _) _⟩
  case round =>
    obtain ⟨k, L, hk, rfl, hown, hL, hb⟩ := hrel
    clear hmade hmk
    by_cases hlt : k < n
    · obtain ⟨b, o, ai, ci, r, rfl, hcell, hrow, hget⟩ := H.out.at_ hlt
      have hcell' := (hb.cell (p := ⟨b, o + k, none⟩) (World.block_lt_of_cell? w _ hcell)).trans hcell
      have Hrow := Lib.hid (hrow.keep hb)
      clear hrow H hcell
      go_wp2_with fail
      refine (toIntS_any _ _ _ r _ Hrow.out).mono ?_
      rintro e w1 ⟨g, rfl, ho1, hb1⟩
      have hown1 := hown.keep hb1
      obtain ⟨u0, r0, hcu, _, _, _⟩ := hown1.cell k hlt
      have hfo := hown1.frozen k
      have hset := hown1.set k (ho1.mono hb.size) (by
        intro b' hb' i u' r' hik hc' hx' he
        have hlen := hown.len
        obtain ⟨u2, r2, hc2, _, ho2, _⟩ := hown.cell i (by rw [← hlen]; exact (List.getElem?_eq_some_iff.1 hx').1)
        have := (hb1.cell (p := ⟨w.heap.size, i, none⟩) (World.block_lt_of_cell? wr _ hc2)).trans hc2
        rw [hc'] at this
        injection this with this
        subst this
        have h3 := ho1.2.lt b' hb'
        have h4 := ho2.2.lt b' he
        omega)
      have hL' : Hid _ := take_set_step2 hget.out (hown.len.trans HL.out.symm) hL.out
      have hb2 := (hb.trans (hb1.mono hb.size)).setCell (p := ⟨w.heap.size, k, none⟩) (Nat.le_refl _) (.slice (some ⟨g, 0, none⟩) r.length r.length)
      clear hown hown1 ho1 hb1 hb
      go_wp2_with fail
      go_roundw
      case rel => exact ⟨k + 1, _, hlt, by go_num, hset, hL', hb2⟩
      case measure => simp [intOf]; omega
    · go_wp2_with fail
      go_ret
      have e : L = xss := by
        have := hL.out
        rw [List.take_of_length_le (by have := hown.len; omega), List.take_of_length_le (by have := HL.out; omega)] at this
        exact this
      subst e
      exact ⟨_, rfl, hown, hb⟩
end Go.Proofs.Ytlhognagaknhcaa
