/- IArcs5: a part of the proofs of this seat. -/
import Derived.Test.YtnoghnalopdflaaDoorProg
import Derived.Test.YtnoghnalopdflaaDoorArcLit
namespace Go.Proofs.YtnoghnalopdflaaDoor
open Go.RowKit
set_option linter.all false
set_option maxRecDepth 20000 in
set_option maxHeartbeats 3200000 in
theorem iArcs5_any (p : Option Addr) (n c : Nat) (m : List (List Int)) (w : World) (h : Intss w p n m) (hmat : isMat m = true) (h60 : (arcsL m).length ≤ 60) :
    Calls Tryd.prog 108 #[.slice p n c] w fun e w' => ∃ v, e = .returned v ∧ OIntss w' w.heap.size v (arcsL m).length (arcsL m) ∧ Below w.heap.size w w' := by
  have HL : Hid (m.length = n) := h.1
  have H := Lib.hid h
  have HM := Lib.hid hmat
  have H60 := Lib.hid h60
  have HRL := Lib.hid (isMat_rowsLen hmat h.1)
  have hn9 : n ≤ 9 := by have := isMat_len hmat; have := HL.out; omega
  clear h hmat h60
  go_enter Tryd.func108, Tryd.ntmps108
  go_wp2_with fail
  go_loopw [3, 11] (fun v x wr => ∃ (i : Nat) (acc : List (List Int)), i ≤ n ∧ x = .int .i64 i ∧ OIntss wr w.heap.size v acc.length acc ∧ Hid (acc ++ arcsI i (m.drop i) = arcsL m) ∧ Below w.heap.size w wr) (fun _ x _ => n - (intOf x).toNat)
  case atStart => exact ⟨0, [], Nat.zero_le _, rfl, OIntss.empty w _ (Nat.le_refl _), rfl, (Below.refl _ _).alloc (Nat.le_refl _) _⟩
  case round =>
    obtain ⟨i, acc, hi, rfl, hown, heq, hbl⟩ := hrel
    by_cases hlt : i < n
    · obtain ⟨b1, o1, a1, c1, r, rfl, hca, hrow, hget⟩ := H.out.at_ hlt
      have HR := Lib.hid hget.out
      have HRn : Hid (r.length = n) := HRL.out _ _ hget.out
      rw [HRn.out] at hca hrow
      have Hrow := Lib.hid hrow
      have q1 := (hbl.cell (World.block_lt_of_cell? w _ hca)).trans hca
      have Hown := Lib.hid hown
      have Hbl := Lib.hid hbl
      have HEQ := Lib.hid (arcsI_step HR.out heq.out)
      clear hown hbl heq hca hrow hget
      go_wp2_with fail
      clear q1
      go_loopw [3, 18] (fun v x wr => ∃ (j : Nat) (acc : List (List Int)), j ≤ n ∧ x = .int .i64 j ∧ OIntss wr w.heap.size v acc.length acc ∧ Hid (acc ++ (arcsJ i j (r.drop j) ++ arcsI (i + 1) (m.drop (i + 1))) = arcsL m) ∧ Below w.heap.size w wr) (fun _ x _ => n - (intOf x).toNat)
      case atStart => exact ⟨0, _, Nat.zero_le _, rfl, Hown.out, HEQ, Hbl.out⟩
      case round =>
        obtain ⟨j, acc, hj, rfl, hown, heq, hbl⟩ := hrel
        clear Hown HEQ Hbl
        by_cases hjl : j < n
        · obtain ⟨b2, o2, x, rfl, hcx, hgx⟩ := Hrow.out.at_ (k := j) hjl
          have hxr := arcs_low HM.out HR.out hgx.out
          have HC := Lib.hid (arcsJ_step hgx.out heq.out)
          have q2 := (hbl.cell (World.block_lt_of_cell? w _ hcx)).trans hcx
          obtain ⟨cx, rfl⟩ : ∃ cx : Nat, x = cx := ⟨x.toNat, by omega⟩
          rw [Int.toNat_natCast] at HC
          have Hown := Lib.hid hown
          have Hbl := Lib.hid hbl
          clear hown hbl heq hcx hgx
          go_wp2_with fail
          clear q2
          go_loopw [3, 24] (fun v x wr => ∃ (k : Nat) (acc : List (List Int)), k ≤ cx ∧ x = .int .i64 k ∧ OIntss wr w.heap.size v acc.length acc ∧ Hid (acc ++ (List.replicate (cx - k) [(i : Int), (j : Int)] ++ (arcsJ i (j + 1) (r.drop (j + 1)) ++ arcsI (i + 1) (m.drop (i + 1)))) = arcsL m) ∧ Below w.heap.size w wr) (fun _ x _ => cx - (intOf x).toNat)
          case atStart => exact ⟨0, _, Nat.zero_le _, rfl, Hown.out, HC, Hbl.out⟩
          case round =>
            obtain ⟨k, acc, hk, rfl, hown, heq, hbl⟩ := hrel
            clear Hown HC Hbl
            by_cases hkc : k < cx
            · have HQ := Lib.hid (rep_step hkc heq.out)
              have hl := toCome_le HQ.out
              have hl2 : acc.length + 1 ≤ 60 := by have := H60.out; simp at hl; omega
              have Hown := Lib.hid hown
              have Hbl := Lib.hid hbl
              have HO := Lib.hid (OInts.lit2 wr wr.heap.size (i : Int) (j : Int) (Nat.le_refl _))
              have HB := Lib.hid (belowA wr (.cells #[.int .i64 (i : Int), .int .i64 (j : Int)] 3))
              clear hown hbl heq hl
              go_wp2_with (first | (at_builtin; refine wpList_push_fresh _ _ wr rfl (.tmp 26) (.tmp 30) rfl w.heap.size _ acc.length acc rfl Hown.out (by omega) Hbl.out.size HB.out _ _ HO.out _ ?_ rfl ?_; (simp); intro v4 w4 ho4 hb4 _; have Ho4 := Lib.hid ho4; have Hb4 := Lib.hid hb4; clear ho4 hb4))
              go_roundw
              case rel =>
                have h9 := Ho4.out
                rw [show acc.length + 1 = (acc ++ [[(i : Int), (j : Int)]]).length by simp] at h9
                first | exact ⟨k + 1, _, hkc, by go_num, h9, HQ, Hbl.out.trans Hb4.out⟩ | ((repeat apply Exists.intro); exact ⟨⟨k + 1, _, hkc, by go_num, h9, HQ, Hbl.out.trans Hb4.out⟩, rfl⟩)
              case measure => simp [intOf]; omega
            · have HQ := Lib.hid (rep_end (by omega) heq.out)
              have Hown := Lib.hid hown
              have Hbl := Lib.hid hbl
              clear hown hbl heq
              go_wp2_with fail
              go_roundw
              case rel => exact ⟨j + 1, acc, hjl, by go_num, Hown.out, HQ, Hbl.out⟩
              case measure => simp [intOf]; omega
        · have HQ := Lib.hid (arcsJ_end (by have := HRn.out; omega) heq.out)
          have Hown := Lib.hid hown
          have Hbl := Lib.hid hbl
          clear hown hbl heq
          go_wp2_with fail
          go_roundw
          case rel => exact ⟨i + 1, acc, hlt, by go_num, Hown.out, HQ, Hbl.out⟩
          case measure => simp [intOf]; omega
    · have HQ := Lib.hid (arcsI_end (by have := HL.out; omega) heq.out)
      have Hown := Lib.hid hown
      have Hbl := Lib.hid hbl
      clear hown hbl heq
      go_wp2_with fail
      go_ret
      have h9 := Hown.out
      rw [HQ.out] at h9
      exact ⟨_, rfl, h9, Hbl.out⟩
end Go.Proofs.YtnoghnalopdflaaDoor
