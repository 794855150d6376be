/- ArcLaw: a part of the proofs of this seat. -/
import Derived.StillTailTactics
import Derived.Test.YtobmljclokmbcaaProg
import Derived.Test.YtobmljclokmbcaaBlk
import Derived.Test.YtobmljclokmbcaaLawKit
namespace Go.Proofs.Ytobmljclokmbcaa
open Go.RowKit
set_option linter.all false
/- The laws' own functions over arcs. -/
theorem toArc_any (x y z : Int) (w : World) : Calls Try.prog 160 #[.agg #[.int .i64 x, .int .i64 y, .int .i64 z]] w fun e w' => e = .returned (.agg #[.int .i64 x, .int .i64 y, .int .i64 z]) ∧ Below w.heap.size w w' := by
  go_enter Try.func160, Try.ntmps160
  go_wp2_with fail
  refine bodyPost_ret (v := .agg #[.int .i64 x, .int .i64 y, .int .i64 z]) (by simp [results, Try.results160, go_sem]) rfl ?_
  exact ⟨rfl, below3 _ _ _ _⟩
set_option maxHeartbeats 800000 in
theorem eqArc_same (x y z : Int) (w : World) : Calls Try.prog 166 #[.agg #[.int .i64 x, .int .i64 y, .int .i64 z], .agg #[.int .i64 x, .int .i64 y, .int .i64 z]] w fun e w' => e = .returned (.bool true) ∧ Below w.heap.size w w' := by
  have e1 : (x != x) = false := by simp
  have e2 : (y != y) = false := by simp
  have e3 : (z != z) = false := by simp
  go_enter Try.func166, Try.ntmps166
  go_wp2_with fail
  go_ret
  exact ⟨rfl, below2 _ _ _⟩
set_option maxHeartbeats 800000 in
theorem toArcS_any (ao : Option Addr) (n cap : Nat) (xs : List Ar) (w : World) (h : Arcs w ao n xs) :
    Calls Try.prog 84 #[.slice ao n cap] w fun e w' => ∃ g, e = .returned (.slice (some ⟨g, 0, none⟩) n n) ∧ OArcs w' w.heap.size (.slice (some ⟨g, 0, none⟩) n n) n xs ∧ Below w.heap.size w w' := by
  have hm := h.2.1
  have H := Lib.hid h
  have hmk := make_arcs n hm
  have HO := Lib.hid (OArcs.made w n hm)
  clear h
  go_enter Try.func84, Try.ntmps84
  go_wp2_with fail
  go_loopw [4] (fun i wr => ∃ k : Nat, k ≤ n ∧ i = .int .i64 k ∧ OArcs wr w.heap.size (.slice (some ⟨w.heap.size, 0, none⟩) n n) n (xs.take k ++ List.replicate (n - k) (0, 0, 0)) ∧ Below w.heap.size w wr) (fun i _ => n - (intOf i).toNat)
  case atStart => exact ⟨0, Nat.zero_le _, rfl, by simpa using HO.out, below1 _ _⟩
  case round =>
    obtain ⟨k, hk, rfl, hown, hbl⟩ := hrel
    have HOw := Lib.hid hown
    have HB := Lib.hid hbl
    clear hown hbl HO hmk
    by_cases hlt : k < n
    · obtain ⟨b, o, x, y, z, rfl, c1, c2, c3, hx⟩ := (H.out.keep HB.out).at_ hlt
      have HX := Lib.hid hx.out
      clear hx
      go_wp2_with (go_at_call 160; refine (toArc_any x y z _).mono ?_; rintro e w1 ⟨rfl, hb1⟩; have Hb1 := Lib.hid hb1; have ho1 := HOw.out.keep hb1; rw [fill_open hlt] at ho1; have hat := at_mid (B := List.replicate (n - (k + 1)) ((0, 0, 0) : Ar)) (x := ((0, 0, 0) : Ar)) (take_len (k := k) (M := xs) (by have := H.out.1; omega)); have q1 := (ho1.cells hat).1; have q2 := (ho1.cells hat).2.1; have q3 := (ho1.cells hat).2.2; have f1 := ho1.frozen (k * 3); have f2 := ho1.frozen (k * 3 + 1); have f3 := ho1.frozen (k * 3 + 2); have HO1 := Lib.hid ho1; have Hat := Lib.hid hat; clear hb1 ho1 hat)
      go_roundw
      case rel =>
        have ho := HO1.out.put Hat.out x y z
        rw [set_mid (take_len (by have := H.out.1; omega)), fill_shut HX.out] at ho
        exact ⟨k + 1, hlt, by go_num, ho, Below.put3 (HB.out.trans (Hb1.out.mono HB.out.size)) (Nat.le_refl _) _ _ _ _⟩
      case measure => simp [intOf]; omega
    · have hkn : k = n := by omega
      subst hkn
      have ho := HOw.out
      rw [fill_end H.out.1] at ho
      have HO2 := Lib.hid ho
      clear ho
      go_wp2_with fail
      go_ret
      exact ⟨_, rfl, HO2.out, HB.out⟩
set_option maxHeartbeats 800000 in
set_option maxRecDepth 20000 in
theorem eqArcS_same (ao : Option Addr) (n cap : Nat) (ao' : Option Addr) (cap' : Nat) (xs : List Ar) (w : World) (h : Arcs w ao n xs) (h' : Arcs w ao' n xs) :
    Calls Try.prog 89 #[.slice ao n cap, .slice ao' n cap'] w fun e w' => e = .returned (.bool true) ∧ Below w.heap.size w w' := by
  have hm := h.2.1
  have H := Lib.hid h
  have H' := Lib.hid h'
  have hl1 : ((n : Int) != (n : Int)) = false := by simp
  clear h h'
  go_enter Try.func89, Try.ntmps89
  go_wp2_with fail
  go_loopw [5] (fun i wr => ∃ k : Nat, k ≤ n ∧ i = .int .i64 k ∧ Below w.heap.size w wr) (fun i _ => n - (intOf i).toNat)
  case atStart => exact ⟨0, Nat.zero_le _, rfl, Below.refl _ _⟩
  case round =>
    obtain ⟨k, hk, rfl, hbl⟩ := hrel
    have HB := Lib.hid hbl
    clear hbl
    by_cases hlt : k < n
    · obtain ⟨b, o, x, y, z, rfl, c1, c2, c3, hx⟩ := (H.out.keep HB.out).at_ hlt
      obtain ⟨b', o', x', y', z', rfl, d1, d2, d3, hx'⟩ := (H'.out.keep HB.out).at_ hlt
      have e := hx.out.symm.trans hx'.out
      simp only [Option.some.injEq, Prod.mk.injEq] at e
      obtain ⟨rfl, rfl, rfl⟩ := e
      clear hx hx'
      go_wp2_with fail
      go_still_tail 8, (by kernel_rfl)
      change wpList _ _ _ _ _ wr.drew
      go_wp2_with (go_at_call 166; refine (eqArc_same x y z _).mono ?_; rintro e w1 ⟨rfl, hb1⟩; have Hb1 := Lib.hid hb1; clear hb1)
      go_roundw
      case rel => exact ⟨k + 1, hlt, by go_num, (below_drewN HB.out 1).trans (Hb1.out.mono HB.out.size)⟩
      case measure => simp [intOf]; omega
    · go_wp2_with fail
      go_ret
      exact ⟨rfl, HB.out⟩
set_option maxHeartbeats 800000 in
theorem markArcS_any (ao : Option Addr) (n cap : Nat) (xs : List Ar) (k : Int) (lo : Nat) (w : World) (h : OArcs w lo (.slice ao n cap) n xs) (h0 : 0 ≤ k) (h1 : k ≤ 1099511627776) :
    Calls Try.prog 90 #[.slice ao n cap, .int .i64 k] w fun e w' => e = .returned (.int .i64 (k + 3 * (n : Int))) ∧ OArcs w' lo (.slice ao n cap) n (marksA k n) ∧ w.grownBy w' (Value.slice ao n cap).ownBlock := by
  have hm := h.1
  have HX := Lib.hid h.len
  rcases h.two with ⟨rfl, rfl⟩ | ⟨g, rfl⟩
  · have e : xs = [] := List.eq_nil_of_length_eq_zero HX.out
    subst e
    have H := Lib.hid h
    clear h
    go_enter Try.func90, Try.ntmps90
    go_wp2
    go_loop [1, 5] (fun s i => i = .int .i64 0 ∧ s = .int .i64 k) (fun _ _ => 0)
    case atStart => exact ⟨rfl, rfl⟩
    case round =>
      obtain ⟨rfl, rfl⟩ := hrel
      go_wp2
      go_ret
      exact ⟨ret_int (by simp), H.out, World.grownBy.refl _ _⟩
  · have H := Lib.hid h
    clear h
    go_enter Try.func90, Try.ntmps90
    go_wp2
    go_loopw [1, 5] (fun s i wr => ∃ j : Nat, j ≤ n ∧ i = .int .i64 j ∧ s = .int .i64 (k + 3 * (j : Int)) ∧ OArcs wr lo (.slice (some ⟨g, 0, none⟩) n cap) n ((marksA k n).take j ++ xs.drop j) ∧ w.grownBy wr (some g)) (fun _ i _ => n - (intOf i).toNat)
    case atStart => exact ⟨0, Nat.zero_le _, rfl, by simp, by simpa using H.out, World.grownBy.refl _ _⟩
    case round =>
      obtain ⟨j, hj, rfl, rfl, hown, hg⟩ := hrel
      clear H
      by_cases hlt : j < n
      · obtain ⟨a, ha⟩ : ∃ a, xs[j]? = some a := ⟨_, List.getElem?_eq_getElem (by have := HX.out; omega)⟩
        have hat := mix_get (M := marksA k n) (by rw [marksA_len]; omega) ha
        have q1 := (hown.cells hat).1
        have q2 := (hown.cells hat).2.1
        have q3 := (hown.cells hat).2.2
        have f1 := hown.frozen (j * 3)
        have f2 := hown.frozen (j * 3 + 1)
        have f3 := hown.frozen (j * 3 + 2)
        have HS := Lib.hid (hown.put hat (k + 3 * (j : Nat)) (k + 3 * (j : Nat) + 1) (k + 3 * (j : Nat) + 1 + 1))
        have HM : Hid _ := mix_set (N := xs) (M := marksA k n) ha (marksA_get (k := k) hlt)
        have HG := Lib.hid (grown_put3 hg j (.int .i64 (k + 3 * (j : Nat))) (.int .i64 (k + 3 * (j : Nat) + 1)) (.int .i64 (k + 3 * (j : Nat) + 1 + 1)))
        clear hown hg ha hat
        go_wp2_with fail
        go_roundw
        case rel =>
          have ho := HS.out
          rw [HM.out] at ho
          exact ⟨j + 1, hlt, by go_num, by go_num, ho, HG.out⟩
        case measure => simp [intOf]; omega
      · have e : j = n := by omega
        subst e
        rw [mix_end (marksA_len k j) HX.out] at hown
        have Ho := Lib.hid hown
        clear hown
        go_wp2
        go_ret
        exact ⟨rfl, Ho.out, hg⟩
set_option maxHeartbeats 800000 in
theorem heldArcS_any (ao : Option Addr) (n cap : Nat) (k : Int) (w : World) (h : Arcs w ao n (marksA k n)) (h0 : 0 ≤ k) (h1 : k ≤ 1099511627776) :
    Calls Try.prog 91 #[.slice ao n cap, .int .i64 k] w fun e w' => e = .returned (.int .i64 (k + 3 * (n : Int))) ∧ Below w.heap.size w w' := by
  have hm := h.2.1
  have H := Lib.hid h
  clear h
  go_enter Try.func91, Try.ntmps91
  go_wp2
  go_loop [1, 5] (fun s i => ∃ j : Nat, j ≤ n ∧ i = .int .i64 j ∧ s = .int .i64 (k + 3 * (j : Int))) (fun _ i => n - (intOf i).toNat)
  case atStart => exact ⟨0, Nat.zero_le _, rfl, by simp⟩
  case round =>
    obtain ⟨j, hj, rfl, rfl⟩ := hrel
    by_cases hlt : j < n
    · obtain ⟨b, o, x, y, z, rfl, c1, c2, c3, hget⟩ := H.out.at_ hlt
      have e := hget.out
      rw [marksA_get hlt] at e
      simp only [Option.some.injEq, Prod.mk.injEq] at e
      obtain ⟨rfl, rfl, rfl⟩ := e
      have n1 : ((k + 3 * (j : Int)) != (k + 3 * (j : Int))) = false := by simp
      have n2 : ((k + 3 * (j : Int) + 1) != (k + 3 * (j : Int) + 1)) = false := by simp
      have n3 : ((k + 3 * (j : Int) + 1 + 1) != (k + 3 * (j : Int) + 1 + 1)) = false := by simp
      clear hget
      go_wp2_with fail
      go_round
      case rel => exact ⟨j + 1, hlt, by go_num, by go_num⟩
      case measure => simp [intOf]; omega
    · go_wp2_with fail
      go_ret
      have : j = n := by omega
      subst this
      exact ⟨rfl, Below.refl _ _⟩
end Go.Proofs.Ytobmljclokmbcaa
