/- LawStrs: a part of the proofs of this seat. -/
import Derived.Deep.RegionLaw
import Derived.Test.YtgcemkpinmjaeaaProg
import Derived.Test.YtgcemkpinmjaeaaTxtT
import Derived.Test.YtgcemkpinmjaeaaBase
namespace Go.Proofs.Ytgcemkpinmjaeaa
open Go.RowKit
set_option linter.all false
/- The laws' own functions over slices of strings. -/
def mkB (k : Nat) : ByteArray := (⟨#[109]⟩ : ByteArray) ++ decB k
theorem mkB_size {k : Nat} (h : k < 18446744073709551616) : (mkB k).size ≤ 21 := by
  have h1 := decB_size h
  have h2 : (mkB k).size = 1 + (decB k).size := by unfold mkB; rw [ByteArray.size_append]; rfl
  omega
def marksS (n : Nat) : List ByteArray := (List.range n).map fun i => mkB (i + 1)
theorem marksS_len (n : Nat) : (marksS n).length = n := by simp [marksS]
theorem marksS_get {n i : Nat} (h : i < n) : (marksS n)[i]? = some (mkB (i + 1)) := by simp [marksS, h]
set_option maxRecDepth 20000 in
set_option maxHeartbeats 3200000 in
theorem markText_any (j : Nat) (w : World) (hj : j ≤ 1099511627776) :
    Calls Try.prog 89 #[.int .i64 (1 + (j : Int))] w fun e w' => e = .returned (.string (mkB (j + 1))) ∧ Below w.heap.size w w' := by
  have h1 : decide (1 + (j : Int) ≤ 0) = false := decide_eq_false (by omega)
  go_enter Try.func89, Try.ntmps89
  go_wp2_with fail
  clear h1
  go_loopw [0, 3] (fun x o wr => ∃ (y : Nat) (s : ByteArray), y ≤ 1099511627777 ∧ x = .int .i64 y ∧ o = .string s ∧ Hid (dg y ++ s.data.toList = dg (j + 1)) ∧ Below w.heap.size w wr) (fun x _ _ => (intOf x).toNat)
  case atStart => exact ⟨j + 1, ⟨#[]⟩, by omega, by congr 1; omega, rfl, by show _ = _; simp, Below.refl _ _⟩
  case round =>
    obtain ⟨y, s, hy, rfl, rfl, hr, hbl⟩ := hrel
    have hsz := dig_size (by omega) hr.out
    have Hbl := Lib.hid hbl
    clear hbl
    by_cases hp : 0 < y
    · have hne : decide (0 < (y : Int)) = true := decide_eq_true (by omega)
      have HN := Lib.hid (dig_next hp hr.out)
      have HCS := catB_size (48 + UInt8.ofNat (y % 10)) s
      have hm10 : y % 10 < 10 := Nat.mod_lt _ (by omega)
      have hcv := fun z => conv_one wr z 5
      clear hr
      go_wp2_with fail
      go_roundw
      case rel => exact ⟨y / 10, catB (48 + UInt8.ofNat (y % 10)) s, by omega, by go_num, rfl, HN.out, step2 Hbl.out (belowA _ _)⟩
      case measure => (simp [intOf] <;> omega)
    · have hz : y = 0 := by omega
      subst hz
      have HE := Lib.hid (dig_done (u := j + 1) (by omega) hr.out)
      clear hr
      rw [show ((0 : Nat) : Int) = 0 from rfl]
      go_wp2_with fail
      go_ret
      exact ⟨ret_text (by rw [HE.out]; rfl), Hbl.out⟩
set_option maxRecDepth 20000 in
set_option maxHeartbeats 1600000 in
theorem eqStrS_same (ao : Option Addr) (n cap : Nat) (ao' : Option Addr) (cap' : Nat) (ss : List ByteArray) (w : World) (h : Strs w ao n ss) (h' : Strs w ao' n ss) :
    Calls Try.prog 11 #[.slice ao n cap, .slice ao' n cap'] w fun e w' => e = .returned (.bool true) ∧ Drew w w' := by
  have hm := h.2.1
  have H := Lib.hid h
  have H' := Lib.hid h'
  have hl1 : ((n : Int) != (n : Int)) = false := by simp
  clear h h'
  go_enter Try.func11, Try.ntmps11
  go_wp2_with fail
  go_loopw [5] (fun i wr => ∃ k : Nat, k ≤ n ∧ i = .int .i64 k ∧ Drew w wr) (fun i _ => n - (intOf i).toNat)
  case atStart => exact ⟨0, Nat.zero_le _, rfl, Drew.refl w⟩
  case round =>
    obtain ⟨k, hk, rfl, m, rfl⟩ := hrel
    by_cases hlt : k < n
    · obtain ⟨b, o, s, rfl, hc, hs⟩ := H.out.at_ hlt
      obtain ⟨b', o', s', rfl, hc', hs'⟩ := H'.out.at_ hlt
      have e : s = s' := Option.some.inj (hs.out.symm.trans hs'.out)
      subst e
      clear hs hs'
      go_wp2_with fail
      go_quiet (fail)
      go_wp2_with fail
      go_roundw
      case rel => exact ⟨k + 1, hlt, by go_num, (by first | exact Drew.refl _ | exact Drew.mk _ _ | exact (Drew.mk _ _).drewN _)⟩
      case measure => (simp [intOf] <;> omega)
    · go_wp2_with fail
      go_ret
      exact ⟨rfl, (by first | exact Drew.refl _ | exact Drew.mk _ _ | exact (Drew.mk _ _).drewN _)⟩
set_option maxRecDepth 20000 in
set_option maxHeartbeats 1600000 in
theorem markStrS_any (ao : Option Addr) (n cap : Nat) (ss : List ByteArray) (lo : Nat) (w : World) (h : OStrs w lo (.slice ao n cap) n ss) :
    Calls Try.prog 14 #[.slice ao n cap, .int .i64 1] w fun e w' => e = .returned (.int .i64 (1 + (n : Int))) ∧ OStrs w' lo (.slice ao n cap) n (marksS n) ∧ w.grownBy w' (Value.slice ao n cap).ownBlock := by
  have hm := h.1
  have HX := Lib.hid h.len
  rcases h.two with ⟨rfl, rfl⟩ | ⟨g, rfl⟩
  · have e : ss = [] := List.eq_nil_of_length_eq_zero HX.out
    subst e
    have H := Lib.hid h
    clear h
    go_enter Try.func14, Try.ntmps14
    go_wp2
    go_loop [1, 5] (fun s i => i = .int .i64 0 ∧ s = .int .i64 1) (fun _ _ => 0)
    case atStart => exact ⟨rfl, rfl⟩
    case round =>
      obtain ⟨rfl, rfl⟩ := hrel
      go_wp2
      go_ret
      exact ⟨ret_int (by simp), H.out, World.grownBy.refl _ _⟩
  · have H := Lib.hid h
    clear h
    go_enter Try.func14, Try.ntmps14
    go_wp2
    go_loopw [1, 5] (fun s i wr => ∃ j : Nat, j ≤ n ∧ i = .int .i64 j ∧ s = .int .i64 (1 + (j : Int)) ∧ OStrs wr lo (.slice (some ⟨g, 0, none⟩) n cap) n ((marksS n).take j ++ ss.drop j) ∧ w.grownBy wr (some g)) (fun _ i _ => n - (intOf i).toNat)
    case atStart => exact ⟨0, Nat.zero_le _, rfl, by simp, by simpa using H.out, World.grownBy.refl _ _⟩
    case round =>
      obtain ⟨j, hj, rfl, rfl, hown, hg⟩ := hrel
      clear H
      by_cases hlt : j < n
      · obtain ⟨x, hx⟩ : ∃ x, ss[j]? = some x := ⟨_, List.getElem?_eq_getElem (by have := HX.out; omega)⟩
        have HMG : Hid _ := mix_get (M := marksS n) (by rw [marksS_len]; omega) hx
        have HMS : Hid _ := mix_set (N := ss) (M := marksS n) hx (marksS_get hlt)
        have HO := Lib.hid hown
        have HG := Lib.hid hg
        clear hown hg hx
        go_wp2_with (go_at_call 89; refine (markText_any j _ (by omega)).mono ?_; rintro e w1 ⟨rfl, hb1⟩; have HO1 := Lib.hid (HO.out.keep hb1); have hc := HO1.out.cell HMG.out; have hf := HO1.out.frozen j; have HG1 : Hid (w.grownBy w1 (some g)) := HG.out.trans ⟨hb1.os, hb1.tape, hb1.output, hb1.size, fun k hk _ => hb1.block k hk⟩; clear hb1)
        go_roundw
        case rel =>
          have h2 := HO1.out.set j (mkB (j + 1))
          rw [HMS.out] at h2
          exact ⟨j + 1, hlt, by go_num, by go_num, h2, only_setCell HG1.out (p := ⟨g, j, none⟩) rfl _⟩
        case measure => (simp [intOf] <;> omega)
      · have e : j = n := by omega
        subst e
        rw [mix_end (marksS_len j) HX.out] at hown
        have Ho := Lib.hid hown
        clear hown
        go_wp2
        go_ret
        exact ⟨rfl, Ho.out, hg⟩
theorem OStrs.since {w w' : World} {lo n : Nat} {v : Value} {ss : List ByteArray} (h : OStrs w lo v n ss) (hw : Since lo w.heap.size w w') : OStrs w' lo v n ss := ⟨h.1, own_since h.2 hw⟩
theorem OStrs.within {w w' : World} {lo lo' hi n : Nat} {v : Value} {ss : List ByteArray} (h : OStrs w lo' v n ss) (hw : Within lo hi w w') (hl : hi ≤ lo') : OStrs w' lo' v n ss := ⟨h.1, own_within h.2 hw hl⟩
theorem markStrS_in (ao : Option Addr) (n cap : Nat) (ss : List ByteArray) (lo : Nat) (wb w : World) (h : OStrs wb lo (.slice ao n cap) n ss) (hs : Since lo wb.heap.size wb w) :
    Calls Try.prog 14 #[.slice ao n cap, .int .i64 1] w fun e w' => e = .returned (.int .i64 (1 + (n : Int))) ∧ Within lo wb.heap.size w w' ∧ OStrs w' lo (.slice ao n cap) n (marksS n) := by
  refine (markStrS_any ao n cap ss lo w (h.since hs)).mono ?_
  rintro e w' ⟨he, ho, hg⟩
  exact ⟨he, Within.grown hg (fun b hb => h.ownlt b hb), ho⟩
set_option maxRecDepth 20000 in
set_option maxHeartbeats 1600000 in
theorem heldStrS_any (ao : Option Addr) (n cap : Nat) (w : World) (h : Strs w ao n (marksS n)) :
    Calls Try.prog 15 #[.slice ao n cap, .int .i64 1] w fun e w' => e = .returned (.int .i64 (1 + (n : Int))) ∧ Below w.heap.size w w' := by
  have hm := h.2.1
  have H := Lib.hid h
  clear h
  go_enter Try.func15, Try.ntmps15
  go_wp2
  go_loopw [1, 5] (fun s i wr => ∃ j : Nat, j ≤ n ∧ i = .int .i64 j ∧ s = .int .i64 (1 + (j : Int)) ∧ Below w.heap.size w wr) (fun _ i _ => n - (intOf i).toNat)
  case atStart => exact ⟨0, Nat.zero_le _, rfl, by simp, Below.refl _ _⟩
  case round =>
    obtain ⟨j, hj, rfl, rfl, hbl⟩ := hrel
    have HB := Lib.hid hbl
    clear hbl
    by_cases hlt : j < n
    · obtain ⟨b, o, s, rfl, hcw, hs⟩ := H.out.at_ hlt
      have e : s = mkB (j + 1) := Option.some.inj (hs.out.symm.trans (marksS_get hlt))
      subst e
      have Hcw := Lib.hid hcw
      have hc0 : wr.drew.cell? ⟨b, o + j, none⟩ = some (.string (mkB (j + 1))) := (HB.out.cell (World.block_lt_of_cell? w _ hcw)).trans hcw
      clear hcw hs
      go_wp2_with fail
      go_region_law (first
        | (go_simp; go_at_call 89; refine (markText_any j _ (by omega)).mono ?_; rintro e w1 ⟨rfl, hb1⟩; have HB1 := Lib.hid (step2 HB.out.drew hb1); have hc1 := (HB1.out.cell (World.block_lt_of_cell? w _ Hcw.out)).trans Hcw.out; clear hb1))
      all_goals (go_wp2_with fail)
      all_goals go_roundw
      all_goals first
        | exact ⟨j + 1, hlt, by go_num, by go_num, HB1.out⟩
        | (simp [intOf] <;> omega)
    · go_wp2_with fail
      go_ret
      have : j = n := by omega
      subst this
      exact ⟨rfl, HB.out⟩
end Go.Proofs.Ytgcemkpinmjaeaa
