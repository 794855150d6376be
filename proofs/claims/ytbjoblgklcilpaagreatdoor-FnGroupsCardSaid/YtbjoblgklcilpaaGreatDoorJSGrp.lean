/- SGrp: a part of the proofs of this seat. -/
import Derived.Test.YtbjoblgklcilpaaGreatDoorProg
import Derived.Test.YtbjoblgklcilpaaGreatDoorJG0a
import Derived.Test.YtbjoblgklcilpaaGreatDoorJG0b
namespace Go.Proofs.YtbjoblgklcilpaaGreatDoor
open Go.RowKit
set_option linter.all false
set_option maxRecDepth 20000 in
set_option maxHeartbeats 3200000 in
theorem sGroupText_any (ao : Option Addr) (n cap : Nat) (xs : List Int) (w : World) (h : Ints w ao n xs) (hn : n ≤ 1048576) (hx : ∀ x ∈ xs, x ≤ 9223372036854775807) :
    Calls Tryz.prog 55 #[.slice ao n cap] w fun e w' => e = .returned (.string (groupTxt xs)) ∧ Below w.heap.size w w' := by
  have HL : Hid (xs.length = n) := h.1
  have H := Lib.hid h
  have HX := Lib.hid hx
  have Hem := Lib.hid (OStrs.empty w w.heap.size (Nat.le_refl _))
  clear h hx
  go_enter Tryz.func55, Tryz.ntmps55
  go_wp2_with fail
  go_loopw [3, 4] (fun v x wr => ∃ (k : Nat) (ws : List ByteArray), k ≤ n ∧ ws.length ≤ k ∧ x = .int .i64 k ∧ OStrs wr w.heap.size v ws.length ws ∧ Hid (∀ s ∈ ws, s.size ≤ 22) ∧ Hid (grpF (xs.drop k) ws = groupTxt xs) ∧ Below w.heap.size w wr) (fun _ x _ => n - (intOf x).toNat)
  case atStart => exact ⟨0, [], Nat.zero_le _, Nat.le_refl _, rfl, Hem.out, (by show ∀ s ∈ _, _; intro s hs; simp at hs), (by show _ = _; rfl), belowA _ _⟩
  case round =>
    obtain ⟨k, ws, hk, hwk, rfl, hown, hsz, hr, hbl⟩ := hrel
    obtain ⟨a5, c5, rfl, hi5⟩ := hown.form
    have HI := Lib.hid hi5
    have HO := Lib.hid hown
    have HB := Lib.hid hbl
    clear hown hbl Hem hi5
    by_cases hlt : k < n
    · obtain ⟨b, o, x, rfl, hcw, hs⟩ := H.out.at_ hlt
      have hc := (HB.out.cell (World.block_lt_of_cell? w _ hcw)).trans hcw
      have hxm := HX.out x (List.mem_of_getElem? hs.out)
      have HST := Lib.hid (grp_step hs.out hr.out)
      have Hcw := Lib.hid hcw
      clear hs hr hcw
      by_cases h1 : x < 0
      · have HE := Lib.hid (HST.out.1 h1)
        have d1 : decide (x < 0) = true := decide_eq_true h1
        clear HST
        go_wp2_with fail
        go_ret
        exact ⟨ret_text HE.out.symm, HB.out⟩
      have d1 : decide (x < 0) = false := decide_eq_false h1
      by_cases h2 : x = 0
      · have HN := Lib.hid (HST.out.2.1 h2)
        have HS := Lib.hid (all_push (s := ⟨#[90]⟩) hsz.out (by decide))
        have d2 : (x == 0) = true := by simp [h2]
        clear HST h2 h1
        go_wp2_with (refine wpList_push_str wr _ rfl (.tmp 24) (.tmp 25) rfl w.heap.size _ _ _ rfl HO.out (by omega) HB.out.size _ rfl rfl ?_; intro v1 w1 ho1 hb1; have HO1 := Lib.hid ho1; have HB1 := Lib.hid hb1; clear ho1 hb1)
        go_roundw
        case rel => exact ⟨k + 1, _, hlt, by simp; omega, by go_num, by simpa using HO1.out, HS.out, HN.out, HB.out.trans HB1.out⟩
        case measure => (simp [intOf] <;> omega)
      have d2 : (x == 0) = false := by simp [h2]
      by_cases h3 : 1 < x
      · obtain ⟨u, rfl⟩ : ∃ u : Nat, x = (u : Int) := ⟨x.toNat, by omega⟩
        have HN := Lib.hid (HST.out.2.2.1 h3)
        rw [Int.toNat_natCast] at HN
        have hu : u ≤ 9223372036854775807 := by omega
        have HS := Lib.hid (all_push (s := zt u) hsz.out (zt_size (by omega)))
        have d3 : decide (1 < (u : Int)) = true := decide_eq_true h3
        have hds := decB_size (u := u) (by omega)
        clear HST h1 h2
        go_wp2_with (first
          | (go_at_call 78; refine (sFormat_any u _ hu).mono ?_; rintro e w1 ⟨rfl, hb1⟩; have HO1 := Lib.hid (HO.out.keep hb1); have HB1 := Lib.hid (step2 HB.out hb1); clear hb1)
          | (refine wpList_push_str _ (zt u) rfl (.tmp 33) (.tmp 40) rfl w.heap.size _ _ _ rfl HO1.out (by omega) HB1.out.size _ rfl rfl ?_; intro v2 w2 ho2 hb2; have HO2 := Lib.hid ho2; have HB2 := Lib.hid hb2; clear ho2 hb2))
        go_roundw
        case rel => exact ⟨k + 1, _, hlt, by simp; omega, by go_num, by simpa using HO2.out, HS.out, HN.out, HB1.out.trans HB2.out⟩
        case measure => (simp [intOf] <;> omega)
      · have h4 : x = 1 := by omega
        have HN := Lib.hid (HST.out.2.2.2 h4)
        have d3 : decide (1 < x) = false := decide_eq_false h3
        clear HST h4 h1 h2
        go_wp2_with fail
        go_roundw
        case rel => exact ⟨k + 1, _, hlt, by omega, by go_num, HO.out, hsz.out, HN.out, HB.out⟩
        case measure => (simp [intOf] <;> omega)
    · have HST := Lib.hid (grp_end (by have := HL.out; omega) hr.out)
      clear hr
      rcases Nat.eq_zero_or_pos ws.length with h0 | h0
      · have HE := Lib.hid (HST.out.1 h0)
        have d1 : ((ws.length : Int) == 0) = true := by simp [h0]
        clear HST
        go_wp2_with fail
        go_ret
        exact ⟨ret_text HE.out.symm, HB.out⟩
      · have HE := Lib.hid (HST.out.2 h0)
        have d1 : ((ws.length : Int) == 0) = false := by rw [beq_eq_false_iff_ne]; omega
        have hj : (joinB ws ⟨#[43]⟩).size ≤ 1073741824 := by
          have h5 := joinB_size (sep := ⟨#[43]⟩) hsz.out
          have h6 : (22 + (⟨#[43]⟩ : ByteArray).size) * ws.length ≤ 23 * 1048576 := Nat.mul_le_mul (by decide) (by omega)
          exact Nat.le_trans h5 (Nat.le_trans h6 (by decide))
        have HJ := Lib.hid hj
        clear HST hj
        go_wp2_with (go_at_call 79; refine (sJoin_any _ _ _ ws ⟨#[43]⟩ _ HI.out HJ.out (by decide) (fun s hs => Nat.le_trans (hsz.out s hs) (by omega))).mono ?_; rintro e w1 ⟨rfl, hb1⟩; have HB1 := Lib.hid (step2 HB.out hb1); clear hb1)
        go_ret
        exact ⟨ret_text HE.out.symm, HB1.out⟩
end Go.Proofs.YtbjoblgklcilpaaGreatDoor
