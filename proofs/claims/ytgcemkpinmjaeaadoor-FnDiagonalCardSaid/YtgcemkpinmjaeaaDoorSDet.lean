/- SDet: a part of the proofs of this seat. -/
import Derived.Test.YtgcemkpinmjaeaaDoorProg
import Derived.Test.YtgcemkpinmjaeaaDoorThA
import Derived.Test.YtgcemkpinmjaeaaDoorSMinor
namespace Go.Proofs.YtgcemkpinmjaeaaDoor
open Go.RowKit
set_option linter.all false
theorem sMinor0_any (p : Option Addr) (n c : Nat) (t : List (List Int)) (j m : Nat) (w : World) (h : Intss w p n t) (hr : RowsLen t m) (hj : j < m) (hm : m ≤ 1048576) (hn : n ≤ 1048576) :
    Calls Tryd.prog 48 #[.slice p n c, .int .i64 0, .int .i64 j] w fun e w' => ∃ v, e = .returned v ∧ OIntss w' w.heap.size v (minorT t 0 j).length (minorT t 0 j) ∧ Below w.heap.size w w' := by
  have := sMinor_any p n c t 0 j m w h hr hj hm hn
  simpa using this

set_option maxHeartbeats 1600000 in
theorem sDet_any (m : Nat) : ∀ (p : Option Addr) (n c : Nat) (t : List (List Int)) (w : World), n = m → m ≤ 9 → Intss w p n t → RowsLen t m →
    Calls Tryd.prog 34 #[.slice p n c] w fun e w' => e = .returned (.int .i64 (det m t)) ∧ Below w.heap.size w w' := by
  induction m with
  | zero =>
    intro p n c t w hn _ _ _
    subst hn
    go_enter Tryd.func34, Tryd.ntmps34
    go_wp2_with fail
    go_ret
    exact ⟨rfl, Below.refl _ _⟩
  | succ m ih =>
    intro p n c t w hn hm h hr
    subst hn
    have HL : Hid (t.length = m + 1) := h.1
    obtain ⟨b0, o0, a0, c0, r0, rfl, hc0, hrow0, hget0⟩ := h.at_ (k := 0) (by omega)
    rw [Nat.add_zero] at hc0
    have HR0 : Hid (r0.length = m + 1) := hr _ _ hget0.out
    have hl1 : r0.length ≤ m + 1 := by have := HR0.out; omega
    have hl2 : m + 1 ≤ r0.length := by have := HR0.out; omega
    have HD : Hid (det (m + 1) t = dloop (det m) t r0 0 0 1) := by
      show det (m + 1) t = _
      have e : t.getD 0 [] = r0 := by rw [List.getD, hget0.out]; rfl
      unfold det
      rw [e]
    have hne : ((m : Int) + 1 == 0) = false := by simp; omega
    have hn0 : 0 < m + 1 := by omega
    have H := Lib.hid h
    have HRL := Lib.hid hr
    have Hrow := Lib.hid hrow0
    have IH := Lib.hid ih
    have Hc0 := Lib.hid hc0
    clear h hr hrow0 ih hc0
    go_enter Tryd.func34, Tryd.ntmps34
    go_wp2_with fail
    go_loopw [3, 4, 5] (fun s g i wr => ∃ (j : Nat) (sv gv : Int), j ≤ m + 1 ∧ i = .int .i64 j ∧ s = .int .i64 sv ∧ g = .int .i64 gv ∧ -1 ≤ gv ∧ gv ≤ 1 ∧ Below w.heap.size w wr ∧ Hid (dloop (det m) t (r0.drop j) j sv gv = det (m + 1) t)) (fun _ _ i _ => (m + 1) - (intOf i).toNat)
    case atStart => exact ⟨0, 0, 1, Nat.zero_le _, rfl, rfl, rfl, by omega, by omega, Below.refl _ _, HD.out.symm⟩
    case round =>
      obtain ⟨j, sv, gv, hj, rfl, rfl, rfl, hg1, hg2, hbl, hd⟩ := hrel
      have hc0' := (hbl.cell (World.block_lt_of_cell? w _ Hc0.out)).trans Hc0.out
      by_cases hlt : j < m + 1
      · obtain ⟨b1, o1, x, rfl, hcx, hgetx⟩ := Hrow.out.at_ (k := j) (by omega)
        have hcx' := (hbl.cell (World.block_lt_of_cell? w _ hcx)).trans hcx
        have hjr : j < r0.length := by omega
        by_cases hx0 : x = 0
        · subst hx0
          have hd1 : Hid _ := dloop_zero hgetx.out hd.out
          clear hcx hd
          go_wp2_with fail
          go_roundw
          case rel => exact ⟨j + 1, sv, -gv, hlt, by go_num, rfl, rfl, by omega, by omega, hbl, hd1⟩
          case measure => simp [intOf]; omega
        · have hd1 : Hid _ := dloop_step hgetx.out hx0 hd.out
          have hne2 : (x != 0) = true := by simp [hx0]
          have Hbl := Lib.hid hbl.drew
          have Hcx0 := Lib.hid hcx
          clear hbl hcx hd hx0
          have HML : Hid ((minorT t 0 j).length = m) := by show (minorT t 0 j).length = m; rw [minorT_len (by have := HL.out; omega), HL.out]; omega
          go_wp2_with fail
          go_region_held3 (fun w' => w'.cell? ⟨b0, o0, none⟩ = some (.slice (some ⟨b1, o1, none⟩) r0.length c0) ∧ w'.cell? ⟨b1, o1 + j, none⟩ = some (.int .i64 x)) (first | go_keep | exact ⟨q1, q2⟩ | exact ⟨q3, q4⟩) (first
            | (go_at_call 48; refine (sMinor0_any _ _ _ t j (m + 1) _ (H.out.keep (Hbl.out.mono (Nat.le_refl _))) HRL.out (by omega) (by omega) (by omega)).mono ?_; rintro e w1 ⟨v1, rfl, ho1, hb1⟩; obtain ⟨ao1, cap1, rfl, hi1⟩ := ho1.form; have Hi1 := Lib.hid hi1; have Hb1 := Lib.hid (Hbl.out.trans (hb1.mono Hbl.out.size)); have q1 := (Hb1.out.cell (World.block_lt_of_cell? w _ Hc0.out)).trans Hc0.out; have q2 := (Hb1.out.cell (World.block_lt_of_cell? w _ Hcx0.out)).trans Hcx0.out; clear ho1 hb1 hi1)
            | (go_at_call 34; refine (IH.out _ _ _ (minorT t 0 j) _ HML.out (by omega) Hi1.out (minorT_rowsLen HRL.out (by omega))).mono ?_; rintro e w2 ⟨rfl, hb2⟩; have Hb2 := Lib.hid (Hb1.out.trans (hb2.mono Hb1.out.size)); have q3 := (Hb2.out.cell (World.block_lt_of_cell? w _ Hc0.out)).trans Hc0.out; have q4 := (Hb2.out.cell (World.block_lt_of_cell? w _ Hcx0.out)).trans Hcx0.out; clear hb2))
          go_wp2_with fail
          go_roundw
          case rel => exact ⟨j + 1, _, -gv, hlt, by go_num, rfl, rfl, by omega, by omega, Hb2.out, by simp only [wrap_i64_eq]; exact hd1⟩
          case measure => simp [intOf]; omega
      · go_wp2_with fail
        go_ret
        exact ⟨ret_int (dloop_end (by omega) hd.out), hbl⟩
end Go.Proofs.YtgcemkpinmjaeaaDoor
