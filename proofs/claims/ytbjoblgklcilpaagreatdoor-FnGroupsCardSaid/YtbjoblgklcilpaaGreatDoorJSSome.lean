/- SSome: a part of the proofs of this seat. -/
import Derived.Test.YtbjoblgklcilpaaGreatDoorProg
import Derived.Test.YtbjoblgklcilpaaGreatDoorJThA
import Derived.Test.YtbjoblgklcilpaaGreatDoorJG0a
namespace Go.Proofs.YtbjoblgklcilpaaGreatDoor
open Go.RowKit
set_option linter.all false
set_option maxHeartbeats 3200000 in
theorem sSome_any (p : Option Addr) (n c : Nat) (t : List (List Int)) (p1 : Option Addr) (n1 c1 : Nat) (rs : List Int) (p2 : Option Addr) (n2 c2 : Nat) (cs : List Int) (m : Nat) (w : World)
    (h : Intss w p n t) (h1 : Ints w p1 n1 rs) (h2 : Ints w p2 n2 cs) (hr : RowsLen t m) (hi1 : Idx n rs) (hi2 : Idx m cs) (hn1 : n1 ≤ 1048576) (hn2 : n2 ≤ 1048576) :
    Calls Tryz.prog 87 #[.slice p n c, .slice p1 n1 c1, .slice p2 n2 c2] w fun e w' => ∃ v, e = .returned v ∧ OIntss w' w.heap.size v n1 (someT t rs cs) ∧ Below w.heap.size w w' := by
  have H := Lib.hid h
  have H1 := Lib.hid h1
  have H2 := Lib.hid h2
  have HR := Lib.hid hr
  have HI1 := Lib.hid hi1
  have HI2 := Lib.hid hi2
  have HL1 : Hid (rs.length = n1) := h1.1
  have HL2 : Hid (cs.length = n2) := h2.1
  clear h h1 h2 hr hi1 hi2
  go_enter Tryz.func87, Tryz.ntmps87
  go_wp2_with fail
  go_loopw [7, 8] (fun v i wr => ∃ k : Nat, k ≤ n1 ∧ i = .int .i64 k ∧ OIntss wr w.heap.size v k ((someT t rs cs).take k) ∧ Below w.heap.size w wr) (fun _ i _ => n1 - (intOf i).toNat)
  case atStart => exact ⟨0, Nat.zero_le _, rfl, OIntss.empty w _ (Nat.le_refl _), (Below.refl _ _).alloc (Nat.le_refl _) _⟩
  case round =>
    obtain ⟨i, hi, rfl, hown, hbl⟩ := hrel
    obtain ⟨wo, rfl⟩ : ∃ wo : World, wo = wr := ⟨_, rfl⟩
    by_cases hlt : i < n1
    · obtain ⟨b1, o1, x, rfl, hcx, hgx⟩ := H1.out.at_ (k := i) (by have := HL1.out; omega)
      obtain ⟨a, rfl, ha⟩ := HI1.out.get hgx.out
      obtain ⟨b0, o0, a0, c0, r, rfl, hcr, hrow, hgr⟩ := H.out.at_ ha
      have HRL : Hid (r.length = m) := HR.out _ _ hgr.out
      have HG := Lib.hid (someT_get (cs := cs) hgx.out hgr.out)
      have Hcx := Lib.hid hcx
      have Hcr := Lib.hid hcr
      have Hrow := Lib.hid hrow
      have Hown := Lib.hid hown
      have Hbl := Lib.hid hbl
      clear hown hbl hcx hcr hrow
      go_wp2_with fail
      go_loopw [9, 10] (fun v' x wx => ∃ j : Nat, j ≤ n2 ∧ x = .int .i64 j ∧ OInts wx wo.heap.size v' j ((pickRow r cs).take j) ∧ Below wo.heap.size wo wx) (fun _ x _ => n2 - (intOf x).toNat)
      case atStart => exact ⟨0, Nat.zero_le _, rfl, OInts.empty wo _ (Nat.le_refl _), (Below.refl _ _).alloc (Nat.le_refl _) _⟩
      case round =>
        obtain ⟨j, hj, rfl, hline, hbx⟩ := hrel
        have hbw := Hbl.out.trans (hbx.mono Hbl.out.size)
        by_cases hjn : j < n2
        · obtain ⟨b3, o3, y, rfl, hcy, hgy⟩ := H2.out.at_ (k := j) (by have := HL2.out; omega)
          obtain ⟨e, rfl, he⟩ := HI2.out.get hgy.out
          obtain ⟨b4, o4, z, rfl, hcz, hgz⟩ := Hrow.out.at_ (k := e) (by have := HRL.out; omega)
          have HE := Lib.hid (pickRow_get hgy.out hgz.out)
          have er : e < r.length := by have := HRL.out; omega
          have q1 := (hbw.cell (World.block_lt_of_cell? w _ Hcx.out)).trans Hcx.out
          have q2 := (hbw.cell (World.block_lt_of_cell? w _ Hcr.out)).trans Hcr.out
          have q3 := (hbw.cell (World.block_lt_of_cell? w _ hcy)).trans hcy
          have q4 := (hbw.cell (World.block_lt_of_cell? w _ hcz)).trans hcz
          obtain ⟨ao5, cap5, e5, _⟩ := hline.form
          subst e5
          have Hline : Hid (OInts wr.drew wo.heap.size (.slice ao5 j cap5) j ((pickRow r cs).take j)) := hline.drewN 1
          have Hbx : Hid (Below wo.heap.size wo wr.drew) := hbx.drew
          clear hline hbx hbw hcy hcz
          go_wp2_with fail
          go_region_law (first
            | (refine step_of_wp rfl (wp_push_one wr.drew _ (.tmp 25) (.tmp 39) rfl wo.heap.size _ _ _ rfl Hline.out (by omega) (by exact Hbx.out.size) _ rfl rfl ?_); intro v1 w1 ho1 hb1; have Ho1 := Lib.hid ho1; have Hb1 := Lib.hid hb1; clear ho1 hb1))
          all_goals (go_wp2_with fail)
          all_goals refine ⟨?_, ?_⟩
          all_goals first
            | (have ho1 := Ho1.out; rw [push_take HE.out] at ho1; exact ⟨j + 1, hjn, by go_num, ho1, Hbx.out.trans Hb1.out⟩)
            | (simp [intOf]; omega)
        · have hjn' : j = n2 := by omega
          subst hjn'
          rw [List.take_of_length_le (by rw [pickRow_len]; have := HL2.out; omega)] at hline
          obtain ⟨ao6, cap6, e6, _⟩ := hline.form
          subst e6
          have Hline := Lib.hid hline
          have Hbx := Lib.hid hbx
          clear hline hbx hbw
          go_wp2_with (first | (at_builtin; refine wpList_push_fresh _ _ wo rfl _ _ rfl w.heap.size _ i _ rfl Hown.out (by omega) Hbl.out.size Hbx.out _ _ Hline.out _ (by rfl) rfl ?_; intro v3 w3 ho3 hb3 _))
          go_roundw
          case rel =>
            rw [push_take HG.out] at ho3
            exact ⟨i + 1, hlt, by go_num, ho3, Hbl.out.trans hb3⟩
          case measure => simp [intOf]; omega
    · go_wp2_with fail
      go_ret
      have : i = n1 := by omega
      subst this
      rw [List.take_of_length_le (by rw [someT_len]; have := HL1.out; omega)] at hown
      exact ⟨_, rfl, hown, hbl⟩
end Go.Proofs.YtbjoblgklcilpaaGreatDoor
