/- SJoin: a part of the proofs of this seat. -/
import Derived.Test.YtgcemkpinmjaeaaDoorProg
import Derived.Test.YtgcemkpinmjaeaaDoorTxtT
namespace Go.Proofs.YtgcemkpinmjaeaaDoor
open Go.RowKit
set_option linter.all false
set_option maxRecDepth 20000 in
set_option maxHeartbeats 3200000 in
theorem sJoin_any (ao : Option Addr) (n cap : Nat) (ss : List ByteArray) (sep : ByteArray) (w : World) (h : Strs w ao n ss) (hT : (joinB ss sep).size ≤ 1073741824) (hsep : sep.size ≤ 1048576) (hss : ∀ s ∈ ss, s.size ≤ 1048576) :
    Calls Tryd.prog 39 #[.slice ao n cap, .string sep] w fun e w' => e = .returned (.string (joinB ss sep)) ∧ Below w.heap.size w w' := by
  have HL : Hid (ss.length = n) := h.1
  have hm := h.2.1
  have H := Lib.hid h
  have HSS := Lib.hid hss
  obtain ⟨R, hR⟩ : ∃ R, Lib.join (ss.map (·.data.toList)) sep.data.toList = R := ⟨_, rfl⟩
  have hTl : R.length ≤ 1073741824 := by have h2 := hT; unfold joinB at h2; rw [hR] at h2; simpa [ByteArray.size] using h2
  have HJ : Hid (joinB ss sep = ⟨R.toArray⟩) := by show _ = _; unfold joinB; rw [hR]
  have H0 : Hid ([] ++ toCome sep 0 (ss.drop 0) = R) := by show _ = _; simp [toCome, hR]
  have Hem := Lib.hid (OB.empty w w.heap.size (Nat.le_refl _))
  clear h hT hR hss
  go_enter Tryd.func39, Tryd.ntmps39
  go_wp2_with fail
  go_loopw [5, 6] (fun v x wr => ∃ (k : Nat) (B : List UInt8), k ≤ n ∧ x = .int .i64 k ∧ OB wr w.heap.size v B ∧ Hid (k = 0 → B = []) ∧ Hid (B ++ toCome sep k (ss.drop k) = R) ∧ Below w.heap.size w wr) (fun _ x _ => n - (intOf x).toNat)
  case atStart => exact ⟨0, [], Nat.zero_le _, rfl, Hem.out, fun _ => rfl, H0.out, belowA _ _⟩
  case round =>
    obtain ⟨k, B, hk, rfl, hown, hz, hr, hbl⟩ := hrel
    obtain ⟨a5, c5, rfl⟩ := hown.form
    have HO := Lib.hid hown
    have HB := Lib.hid hbl
    have hbl2 := toCome_len hr.out
    have hblen := hown.1
    clear hown hbl Hem
    by_cases hlt : k < n
    · obtain ⟨b, o, s, rfl, hcw, hs⟩ := H.out.at_ hlt
      have hc := (HB.out.cell (World.block_lt_of_cell? w _ hcw)).trans hcw
      have Hcw := Lib.hid hcw
      clear hcw
      have hsz := HSS.out s (List.mem_of_getElem? hs.out)
      rcases Nat.eq_zero_or_pos k with h0 | h0
      · subst h0
        have hBn := hz.out rfl
        subst hBn
        have HN := Lib.hid (toCome_first hs.out hr.out)
        clear hs hr hz
        rw [show ((0 : Nat) : Int) = 0 from rfl] at *
        rw [Nat.add_zero] at hc
        have h0n : 0 < n := hlt
        go_wp2_with (refine wpList_app_str wr rfl (.tmp 19) (.tmp 23) rfl w.heap.size _ _ rfl HO.out s rfl (by simp; omega) HB.out.size ?_; intro v1 w1 ho1 hb1; have HO1 := Lib.hid ho1; have HB1 := Lib.hid hb1; clear ho1 hb1)
        go_roundw
        case rel => exact ⟨1, _, hlt, rfl, HO1.out, (by show (1 = 0 → _); omega), HN.out, HB.out.trans HB1.out⟩
        case measure => (simp [intOf] <;> omega)
      · have HN := Lib.hid (toCome_next h0 hs.out hr.out)
        have hd : decide ((0 : Int) < (k : Int)) = true := decide_eq_true (by omega)
        have hl2 := toCome_len HN.out
        have hsl : s.data.toList.length = s.size := Array.length_toList
        have hpl : sep.data.toList.length = sep.size := Array.length_toList
        have hl3 : B.length + sep.size + s.size ≤ 1073741824 := by rw [List.length_append, List.length_append, hsl, hpl] at hl2; omega
        have hc2 := Lib.hid hc
        clear hs hr hz hl2 hc hsl
        obtain ⟨B1, hB1⟩ : ∃ B1, B ++ sep.data.toList = B1 := ⟨_, rfl⟩
        have hb1l : B1.length = B.length + sep.size := by rw [← hB1, List.length_append, hpl]
        have hb1a : B1.length + s.size ≤ 1073741824 := by omega
        have HE1 := Lib.hid hB1
        rw [hB1] at HN
        clear hB1 hb1l
        have hcx := hc2.out
        go_wp2_with (first
          | (refine wpList_app_str wr rfl (.tmp 16) (.tmp 17) rfl w.heap.size _ _ rfl HO.out sep rfl (by omega) HB.out.size ?_; intro v1 w1 ho1 hb1; rw [HE1.out] at ho1; have HO1 := Lib.hid ho1; have HB1 := Lib.hid (HB.out.trans hb1); obtain ⟨a1, c1, rfl⟩ := ho1.form; have hcy := (HB1.out.cell (World.block_lt_of_cell? w _ Hcw.out)).trans Hcw.out; clear ho1 hb1)
          | (refine wpList_app_str _ rfl (.tmp 19) (.tmp 23) rfl w.heap.size _ _ rfl HO1.out s rfl (by omega) HB1.out.size ?_; intro v2 w2 ho2 hb2; have HO2 := Lib.hid ho2; have HB2 := Lib.hid (HB1.out.trans hb2); clear ho2 hb2))
        go_roundw
        case rel => exact ⟨k + 1, _, hlt, by go_num, HO2.out, (by show (k + 1 = 0 → _); omega), HN.out, HB2.out⟩
        case measure => (simp [intOf] <;> omega)
    · have HE := Lib.hid (toCome_end (by have := HL.out; omega) hr.out)
      have hcv := conv_u8 _ _ _ _ HO.out
      have HJ2 : Hid (joinB ss sep = ⟨B.toArray⟩) := by show _ = _; rw [HJ.out, HE.out]
      clear hr hz
      go_wp2_with fail
      go_ret
      exact ⟨ret_text HJ2.out.symm, HB.out⟩
end Go.Proofs.YtgcemkpinmjaeaaDoor
