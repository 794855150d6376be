/- INumbers: a part of the proofs of this seat. -/
import Derived.Test.YtnoghnalopdflaaDoorProg
import Derived.Test.YtnoghnalopdflaaDoorPWT
import Derived.Test.YtnoghnalopdflaaDoorIFormatS
namespace Go.Proofs.YtnoghnalopdflaaDoor
open Go.RowKit
set_option linter.all false
set_option maxRecDepth 20000 in
set_option maxHeartbeats 3200000 in
theorem iNumbers_any (ao : Option Addr) (n cap : Nat) (xs : List Int) (w : World) (h : Ints w ao n xs) (h1 : 1 ≤ n) (h6 : n ≤ 6) (hi : Idx 60 xs) :
    Calls Tryd.prog 67 #[.slice ao n cap, .string ⟨#[]⟩] w fun e w' => e = .returned (.string (txtP xs)) ∧ Below w.heap.size w w' := by
  have HL : Hid (xs.length = n) := h.1
  have H := Lib.hid h
  have HI := Lib.hid hi
  have Hem := Lib.hid (OStrs.empty w w.heap.size (Nat.le_refl _))
  have HDL : Hid ((decL xs).length = n) := by show _ = _; rw [decL, List.length_map, HL.out]
  have HJ : Hid ((joinB (decL xs) ⟨#[]⟩).size ≤ 1073741824) := by
    show _ ≤ _
    rw [joinB_txt]
    have := txtP_size xs hi
    have := HL.out
    omega
  have HRT : Hid (joinB (decL xs) ⟨#[]⟩ = txtP xs) := joinB_txt xs
  clear h hi
  go_enter Tryd.func67, Tryd.ntmps67
  go_wp2_with fail
  go_loopw [5, 11] (fun v x wr => ∃ k : Nat, k ≤ n ∧ x = .int .i64 k ∧ OStrs wr w.heap.size v k ((decL xs).take k) ∧ Below w.heap.size w wr) (fun _ x _ => n - (intOf x).toNat)
  case atStart => exact ⟨0, Nat.zero_le _, rfl, by simpa using Hem.out, belowA _ _⟩
  case round =>
    obtain ⟨k, hk, rfl, hown, hbl⟩ := hrel
    have HO := Lib.hid hown
    have HB := Lib.hid hbl
    by_cases hlt : k < n
    · obtain ⟨b, o, x, rfl, hcw, hs⟩ := H.out.at_ hlt
      have hxm := HI.out x (List.mem_of_getElem? hs.out)
      obtain ⟨u, rfl⟩ : ∃ u : Nat, x = (u : Int) := ⟨x.toNat, by omega⟩
      have hc := (HB.out.cell (World.block_lt_of_cell? w _ hcw)).trans hcw
      have HPT : Hid ((decL xs).take k ++ [decB u] = (decL xs).take (k + 1)) := push_take (by rw [decL, List.getElem?_map, hs.out]; rfl)
      have hds := decB_size (u := u) (by omega)
      clear hown hbl hs hcw Hem
      go_wp2_with (first
        | (go_at_call 52; refine (iFormatS_any u _ (by omega)).mono ?_; rintro e w1 ⟨rfl, rfl⟩)
        | (refine wpList_push_str wr (decB u) rfl (.tmp 15) (.tmp 18) rfl w.heap.size _ _ _ rfl HO.out (by omega) HB.out.size _ rfl rfl ?_; intro v2 w2 ho2 hb2; have HO2 := Lib.hid ho2; have HB2 := Lib.hid hb2; clear ho2 hb2))
      go_roundw
      case rel =>
        have h9 := HO2.out
        rw [HPT.out] at h9
        first | exact ⟨k + 1, hlt, by go_num, h9, HB.out.trans HB2.out⟩ | ((repeat apply Exists.intro); exact ⟨⟨k + 1, hlt, by go_num, h9, HB.out.trans HB2.out⟩, rfl⟩)
      case measure => (simp [intOf] <;> omega)
    · have e : k = n := by omega
      have HT : Hid ((decL xs).take k = decL xs) := by show _ = _; rw [List.take_of_length_le (by have := HDL.out; omega)]
      have hoo := HO.out
      rw [HT.out, e] at hoo
      obtain ⟨g, cg, rfl⟩ := hoo.head (by omega)
      have hcells : ∀ (j : Nat) x, (decL xs)[j]? = some x → wr.cell? ⟨g, 0 + j, none⟩ = some (.string x) := fun j x hj => by rw [Nat.zero_add]; exact hoo.cell hj
      have hcon := Tryd.strings_Join g 0 cg (decL xs) ⟨#[]⟩ wr hcells hoo.lt.2 (by have := HDL.out; omega) (by rw [HDL.out]; exact hoo.capLe rfl) (by rw [joinB_len]; have := HJ.out; omega)
      rw [HDL.out] at hcon
      have HC := Lib.hid hcon
      clear hcon hcells hoo HO hown hbl HT
      go_wp2_with (go_at_call 53; refine HC.out.mono ?_; rintro e w1 ⟨rfl, hb1⟩; have HB1 := Lib.hid (step2 HB.out hb1); clear hb1)
      go_ret
      exact ⟨ret_text HRT.out, HB1.out⟩
end Go.Proofs.YtnoghnalopdflaaDoor
