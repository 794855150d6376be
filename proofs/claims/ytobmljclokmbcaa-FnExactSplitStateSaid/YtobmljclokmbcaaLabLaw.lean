/- The laws' own functions over labelled graphs. -/
import Derived.Test.YtobmljclokmbcaaProg
import Derived.Test.YtobmljclokmbcaaArcLaw
import Derived.Test.YtobmljclokmbcaaBlk
namespace Go.Proofs.Ytobmljclokmbcaa
open Go.RowKit
set_option linter.all false
set_option maxHeartbeats 1600000 in
theorem toLabels_any (L S : Int) (ao : Option Addr) (n cap : Nat) (xs : List Ar) (w : World) (h : Arcs w ao n xs) :
    Calls Try.prog 10 #[.agg #[.int .i64 L, .int .i64 S, .slice ao n cap]] w fun e w' => ∃ g, e = .returned (.agg #[.int .i64 L, .int .i64 S, .slice (some ⟨g, 0, none⟩) n n]) ∧ OArcs w' w.heap.size (.slice (some ⟨g, 0, none⟩) n n) n xs ∧ Below w.heap.size w w' := by
  have HB3 := Lib.hid (below3 w (.cells #[.int .i64 L, .int .i64 S, .slice ao n cap] 24) (.cells #[.int .i64 0, .int .i64 0, .slice none 0 0] 28) (.cells #[.int .i64 L, .int .i64 S, .slice none 0 0] 28))
  have H3 := Lib.hid (h.keep HB3.out)
  have HK2 := Lib.hid ((Blk.new (w.alloc (.cells #[.int .i64 L, .int .i64 S, .slice ao n cap] 24)) 28 #[.int .i64 0, .int .i64 0, .slice none 0 0]).alloc (.cells #[.int .i64 L, .int .i64 S, .slice none 0 0] 28))
  have HK3 := Lib.hid (Blk.new ((w.alloc (.cells #[.int .i64 L, .int .i64 S, .slice ao n cap] 24)).alloc (.cells #[.int .i64 0, .int .i64 0, .slice none 0 0] 28)) 28 #[.int .i64 L, .int .i64 S, .slice none 0 0])
  have z2 : (w.alloc (.cells #[.int .i64 L, .int .i64 S, .slice ao n cap] 24)).heap.size = w.heap.size + 1 := by simp
  have z3 : ((w.alloc (.cells #[.int .i64 L, .int .i64 S, .slice ao n cap] 24)).alloc (.cells #[.int .i64 0, .int .i64 0, .slice none 0 0] 28)).heap.size = w.heap.size + 1 + 1 := by simp
  rw [z2] at HK2
  rw [z3] at HK3
  clear z2 z3
  clear h
  go_enter Try.func10, Try.ntmps10
  go_wp2_with fail
  generalize ((w.alloc (.cells #[.int .i64 L, .int .i64 S, .slice ao n cap] 24)).alloc (.cells #[.int .i64 0, .int .i64 0, .slice none 0 0] 28)).alloc (.cells #[.int .i64 L, .int .i64 S, .slice none 0 0] 28) = w3 at HB3 H3 HK2 HK3 ⊢
  refine (toArcS_any ao n cap xs w3 H3.out).mono ?_
  rintro e w4 ⟨g, rfl, ho, hb4⟩
  have k2 := HK2.out.keep hb4
  have k3 := HK3.out.keep hb4
  have HO := Lib.hid ho
  have HB4 := Lib.hid (HB3.out.trans (hb4.mono HB3.out.size))
  have hg := ho.lt
  have hsz := HB3.out.size
  have hlt2 := HK2.out.lt
  have hlt3 := HK3.out.lt
  have a0 := k3.c0
  have a1 := k3.c1
  have a2 := k3.c2
  have b0 := k2.c0
  have b1 := k2.c1
  have b2 := k2.c2
  have f0 := k3.frozen 2
  have f1 := k2.frozen 0
  have f2 := k2.frozen 1
  have f3 := k2.frozen 2
  clear ho hb4 k2 k3
  go_wp2_with fail
  refine bodyPost_ret (v := .agg #[.int .i64 L, .int .i64 S, .slice (some ⟨g, 0, none⟩) n n]) (by simp [results, Try.results10, go_sem, *]) rfl ?_
  exact ⟨g, rfl, ((((HO.out.mono HB3.out.size).setFar (own_ne (by show g ≠ w.heap.size + 1 + 1; omega)) _).setFar (own_ne (by show g ≠ w.heap.size + 1; omega)) _).setFar (own_ne (by show g ≠ w.heap.size + 1; omega)) _).setFar (own_ne (by show g ≠ w.heap.size + 1; omega)) _,
    below_lab (HB4.out.setCell (p := ⟨w.heap.size + 1 + 1, 2, none⟩) (by show w.heap.size ≤ w.heap.size + 1 + 1; omega) _) (by omega) _ _ _⟩
set_option maxHeartbeats 1600000 in
theorem eqLabels_same (L S : Int) (ao : Option Addr) (n cap : Nat) (ao' : Option Addr) (cap' : Nat) (xs : List Ar) (w : World) (h : Arcs w ao n xs) (h' : Arcs w ao' n xs) :
    Calls Try.prog 12 #[.agg #[.int .i64 L, .int .i64 S, .slice ao n cap], .agg #[.int .i64 L, .int .i64 S, .slice ao' n cap']] w fun e w' => e = .returned (.bool true) ∧ Below w.heap.size w w' := by
  have HB := Lib.hid (below2 w (.cells #[.int .i64 L, .int .i64 S, .slice ao n cap] 28) (.cells #[.int .i64 L, .int .i64 S, .slice ao' n cap'] 28))
  have H := Lib.hid (h.keep HB.out)
  have H' := Lib.hid (h'.keep HB.out)
  have e1 : (L != L) = false := by simp
  have e2 : (S != S) = false := by simp
  clear h h'
  go_enter Try.func12, Try.ntmps12
  go_wp2_with fail
  refine (eqArcS_same ao n cap ao' cap' xs _ H.out H'.out).mono ?_
  rintro e w1 ⟨rfl, hb1⟩
  go_wp2_with fail
  go_ret
  exact ⟨rfl, HB.out.trans (hb1.mono HB.out.size)⟩
set_option maxHeartbeats 1600000 in
theorem markLabels_in (L S : Int) (ao : Option Addr) (n cap : Nat) (xs : List Ar) (k : Int) (lo : Nat) (wb w : World) (h : OArcs wb lo (.slice ao n cap) n xs) (hs : Since lo wb.heap.size wb w) (h0 : 0 ≤ k) (h1 : k ≤ 1099511627776) :
    Calls Try.prog 13 #[.agg #[.int .i64 L, .int .i64 S, .slice ao n cap], .int .i64 k] w fun e w' => e = .returned (.int .i64 (k + 3 * (n : Int))) ∧ Within lo wb.heap.size w w' ∧ OArcs w' lo (.slice ao n cap) n (marksA k n) := by
  have HB := Lib.hid (below1 w (.cells #[.int .i64 L, .int .i64 S, .slice ao n cap] 28))
  have H := Lib.hid ((h.since hs).keep HB.out)
  have Hlt := Lib.hid h.ownlt
  have hs2 := hs.size
  have HW : Hid (∀ w', Below w.heap.size w w' → Within lo wb.heap.size w w') := by
    show ∀ w', _
    intro w' hb
    exact ⟨hb.os, hb.tape, hb.output, hb.size, fun k hk _ => hb.block k hk⟩
  clear h hs
  go_enter Try.func13, Try.ntmps13
  go_wp2_with fail
  refine (markArcS_any ao n cap xs k lo _ H.out h0 h1).mono ?_
  rintro e w1 ⟨rfl, ho, hg⟩
  go_wp2_with fail
  go_ret
  exact ⟨rfl, (HW.out _ HB.out).trans (Within.grown hg fun b hb => Hlt.out b hb), ho⟩
set_option maxHeartbeats 1600000 in
theorem heldLabels_any (L S : Int) (ao : Option Addr) (n cap : Nat) (k : Int) (w : World) (h : Arcs w ao n (marksA k n)) (h0 : 0 ≤ k) (h1 : k ≤ 1099511627776) :
    Calls Try.prog 14 #[.agg #[.int .i64 L, .int .i64 S, .slice ao n cap], .int .i64 k] w fun e w' => e = .returned (.int .i64 (k + 3 * (n : Int))) ∧ Below w.heap.size w w' := by
  have HB := Lib.hid (below1 w (.cells #[.int .i64 L, .int .i64 S, .slice ao n cap] 28))
  have H := Lib.hid (h.keep HB.out)
  have hn := h.2.1
  clear h
  go_enter Try.func14, Try.ntmps14
  go_wp2_with fail
  refine (heldArcS_any ao n cap k _ H.out h0 h1).mono ?_
  rintro e w1 ⟨rfl, hb1⟩
  have HB1 := Lib.hid (HB.out.trans (hb1.mono HB.out.size))
  clear hb1
  go_wp2_with fail
  go_ret
  exact ⟨rfl, HB1.out⟩
theorem szArcS_ok (left : Int) (ao : Option Addr) (n cap : Nat) (w : World) (hl : left ≤ 1048576) (hn : (n : Int) ≤ left) :
    Calls Try.prog 80 #[.slice ao n cap, .int .i64 left] w fun e w' => e = .returned (.int .i64 (left - n)) ∧ w = w' := by
  go_enter Try.func80, Try.ntmps80
  go_wp2_with fail
  go_ret
  exact ⟨rfl, rfl⟩
theorem szArcS_no (left : Int) (ao : Option Addr) (n cap : Nat) (w : World) (hl : 0 ≤ left) (hl2 : left ≤ 1048576) (hm : n ≤ 9223372036854775807) (hn : left < (n : Int)) :
    Calls Try.prog 80 #[.slice ao n cap, .int .i64 left] w fun e w' => e = .returned (.int .i64 (-1)) ∧ w = w' := by
  go_enter Try.func80, Try.ntmps80
  go_wp2_with fail
  go_ret
  exact ⟨rfl, rfl⟩
theorem szLabels_ok (L S left : Int) (ao : Option Addr) (n cap : Nat) (w : World) (hl : left ≤ 1048576) (hn : (n : Int) ≤ left) :
    Calls Try.prog 8 #[.agg #[.int .i64 L, .int .i64 S, .slice ao n cap], .int .i64 left] w fun e w' => e = .returned (.int .i64 (left - n)) ∧ Below w.heap.size w w' := by
  go_enter Try.func8, Try.ntmps8
  go_wp2_with fail
  refine (szArcS_ok left ao n cap _ hl hn).mono ?_
  rintro e w1 ⟨rfl, rfl⟩
  go_wp2_with fail
  go_ret
  exact ⟨rfl, below1 _ _⟩
theorem szLabels_no (L S left : Int) (ao : Option Addr) (n cap : Nat) (w : World) (hl : 0 ≤ left) (hl2 : left ≤ 1048576) (hm : n ≤ 9223372036854775807) (hn : left < (n : Int)) :
    Calls Try.prog 8 #[.agg #[.int .i64 L, .int .i64 S, .slice ao n cap], .int .i64 left] w fun e w' => e = .returned (.int .i64 (-1)) ∧ Below w.heap.size w w' := by
  go_enter Try.func8, Try.ntmps8
  go_wp2_with fail
  refine (szArcS_no left ao n cap _ hl hl2 hm hn).mono ?_
  rintro e w1 ⟨rfl, rfl⟩
  go_wp2_with fail
  go_ret
  exact ⟨rfl, below1 _ _⟩
end Go.Proofs.Ytobmljclokmbcaa
