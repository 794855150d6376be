/- D27b: a part of the proofs of this seat. -/
import Derived.BigQuiet
import Derived.Deep.RegionLaw
import Derived.Test.YtmkodbkbgpjgoaaProg
import Derived.Test.YtmkodbkbgpjgoaaED27
import Derived.Test.YtmkodbkbgpjgoaaEG0b
import Derived.Test.YtmkodbkbgpjgoaaESEnc
namespace Go.Proofs.Ytmkodbkbgpjgoaa
open Go.RowKit
set_option linter.all false
/- The draws of encoders, words, split states. -/
theorem l2Draw_27 (b lo : Nat) (w : World) (h : Cur w b lo) : Calls Try.prog 31 #[.pointer (some ⟨b, 0, none⟩), .int .i64 2, .int .i64 7] w fun e w' => ∃ s : ByteArray, s.size ≤ 7 ∧ e = .returned (.string s) ∧ Cur w' b lo ∧ w.grownBy w' (some b) := l2Draw_gen b lo 2 7 w h (by omega) (by omega) (by omega)
theorem l2Draw_35 (b lo : Nat) (w : World) (h : Cur w b lo) : Calls Try.prog 31 #[.pointer (some ⟨b, 0, none⟩), .int .i64 3, .int .i64 5] w fun e w' => ∃ s : ByteArray, s.size ≤ 5 ∧ e = .returned (.string s) ∧ Cur w' b lo ∧ w.grownBy w' (some b) := l2Draw_gen b lo 3 5 w h (by omega) (by omega) (by omega)
theorem encF_lenD {xs : List Ar} {s : ByteArray} : ∀ (k i : Nat) (p : Int), (encF xs s i k p).1.length = k
  | 0, _, _ => rfl
  | k + 1, i, p => by rw [encF, List.length_cons, encF_lenD k]
theorem encS_size (L S : Int) (xs : List Ar) (p : Int) (s : ByteArray) : (encS L S xs p s).size ≤ s.size := by
  unfold encS
  split
  · rw [strOf_size, encF_lenD]; exact Nat.le_refl _
  · exact Nat.zero_le _
def encD (w w' : World) (e : Ending) : Prop := ∃ (L S : Int) (v : Value) (xs : List Ar) (p : Int) (s : ByteArray), e = .returned (.tuple #[.agg #[.int .i64 L, .int .i64 S, v], .int .i64 p, .string s]) ∧ OArcs w' w.heap.size v xs.length xs ∧ xs.length ≤ 101 ∧ s.size ≤ 20 ∧ Below w.heap.size w w'
def prnD (w w' : World) (e : Ending) : Prop := ∃ (L S : Int) (v : Value) (xs : List Ar), e = .returned (.agg #[.int .i64 L, .int .i64 S, v]) ∧ OArcs w' w.heap.size v xs.length xs ∧ xs.length ≤ 101 ∧ Below w.heap.size w w'
def splD (w w' : World) (e : Ending) : Prop := ∃ (L S : Int) (v : Value) (xs : List Ar) (p q : Int), e = .returned (.tuple #[.agg #[.int .i64 L, .int .i64 S, v], .int .i64 p, .int .i64 q]) ∧ OArcs w' w.heap.size v xs.length xs ∧ xs.length ≤ 101 ∧ Below w.heap.size w w'
/-- The arcs, behind the stores into the result's block r. -/
theorem arcs_out {W : World} {r lo n : Nat} {v : Value} {xs : List Ar} (ho : OArcs W lo v n xs) (hr : r < lo) (u0 u1 u2 : Value) : OArcs (((W.setCell ⟨r, 0, none⟩ u0).setCell ⟨r, 1, none⟩ u1).setCell ⟨r, 2, none⟩ u2) r v n xs :=
  (((ho.mono (Nat.le_of_lt hr)).setFar (arcs_ne ho (.inl hr)) _).setFar (arcs_ne ho (.inl hr)) _).setFar (arcs_ne ho (.inl hr)) _
set_option maxRecDepth 20000 in
set_option maxHeartbeats 6400000 in
theorem drawEnc_any (ao : Option Addr) (n c : Nat) (w : World) (h : Bytes w ao n) :
    Calls Try.prog 5 #[.slice ao n c] w fun e w' => encD w w' e := by
  have HZ1 := Lib.hid (Blk.new w 26 #[.int .i64 0, .int .i64 0, .slice none 0 0])
  have HB1 := Lib.hid (belowA w (.cells #[.int .i64 0, .int .i64 0, .slice none 0 0] 26))
  have H1 := Lib.hid (h.keep HB1.out)
  clear h
  go_enter Try.func5, Try.ntmps5
  go_wp2_with fail
  generalize w.alloc (.cells #[.int .i64 0, .int .i64 0, .slice none 0 0] 26) = w1 at HZ1 HB1 H1 ⊢
  have hlr : w.heap.size < w1.heap.size := HZ1.out.lt
  refine (l1New_any ao n c _ H1.out).mono ?_
  rintro e w2 ⟨rfl, hc2, hb2⟩
  have HB2 := Lib.hid (HB1.out.trans (hb2.mono HB1.out.size))
  have HZ2 := Lib.hid (HZ1.out.keep hb2)
  generalize w1.heap.size = b at hlr hc2 ⊢
  have HC2 := Lib.hid hc2
  have hbl := hc2.lt.2
  clear hc2 hb2 HZ1 HB1 H1
  go_wp2_with fail
  refine (l27Draw_any b b _ HC2.out).mono ?_
  rintro e w3 ⟨L, S, v3, xs, rfl, ho3, hx3, hc3, hg3⟩
  obtain ⟨a3, c3, rfl, _⟩ := ho3.form
  have hne : some w.heap.size ≠ some b := some_ne (by omega)
  have HNE := Lib.hid hne
  have hl3 : w2.heap.size ≤ w3.heap.size := hg3.size
  have HNE6 : Hid (some w3.heap.size ≠ some b) := some_ne (by omega)
  have HX4 := Lib.hid (Blk.new w3 26 #[.int .i64 L, .int .i64 S, .slice a3 xs.length c3])
  have HC4 := Lib.hid (hc3.keep (belowA w3 (.cells #[.int .i64 L, .int .i64 S, .slice a3 xs.length c3] 26)))
  have HG4 := Lib.hid (hg3.trans (grown_alloc w3 (.cells #[.int .i64 L, .int .i64 S, .slice a3 xs.length c3] 26) (some b)))
  have HO4 := Lib.hid (ho3.alloc (.cells #[.int .i64 L, .int .i64 S, .slice a3 xs.length c3] 26))
  have HZ4 := Lib.hid ((HZ2.out.grown hg3 hne).alloc (.cells #[.int .i64 L, .int .i64 S, .slice a3 xs.length c3] 26))
  clear hne ho3 hc3 hg3 HC2
  go_wp2_with fail
  generalize w3.alloc (.cells #[.int .i64 L, .int .i64 S, .slice a3 xs.length c3] 26) = wo at HX4 HC4 HG4 HO4 HZ4 ⊢
  generalize w3.heap.size = g6 at HX4 HNE6 hl3 ⊢
  have k0 := HX4.out.c0
  have k1 := HX4.out.c1
  have k2 := HX4.out.c2
  go_region_with (first
    | (go_at_call 31; refine (l2Draw_27 b b _ HCy.out).mono ?_; rintro e wz ⟨s, hs, rfl, hcz, hgz⟩; have HGz := Lib.hid (HGy.out.trans hgz); have HXz := Lib.hid (HXy.out.grown hgz HNE6.out); have HZz := Lib.hid (HZy.out.grown hgz HNE.out); have HOz := Lib.hid (HOy.out.away hgz hbl); have k0 := HXz.out.c0; have k1 := HXz.out.c1; have k2 := HXz.out.c2; have z0 := HZz.out.c0; have z1 := HZz.out.c1; have z2 := HZz.out.c2; have f0 := HZz.out.frozen 0; have f1 := HZz.out.frozen 1; have f2 := HZz.out.frozen 2; clear hcz hgz)
    | (go_at_call 29; refine (l1Bit_any t _).mono ?_; rintro e w' ⟨rfl, rfl⟩; obtain ⟨P, hP⟩ : ∃ P : Int, IntKind.i64.wrap ((y : Int) - bit t) = P := ⟨_, rfl⟩)
    | (go_at_call 30; refine (l1Once_any b b 12 _ HCx.out (by omega) (by omega)).mono ?_; rintro e wy ⟨t, rfl, hcy, hgy⟩; have HCy := Lib.hid hcy; have HGy := Lib.hid (HGx.out.trans hgy); have HXy := Lib.hid (HXx.out.grown hgy HNE6.out); have HZy := Lib.hid (HZx.out.grown hgy HNE.out); have HOy := Lib.hid (HOx.out.away hgy hbl); have k0 := HXy.out.c0; have k1 := HXy.out.c1; have k2 := HXy.out.c2; clear hcy hgy)
    | (go_at_call 28; refine (l1Below_any b b 5 _ (HC4.out.drewN 1) (by omega) (by omega)).mono ?_; rintro e wx ⟨y, hy, rfl, hcx, hgx⟩; have hgx' : wo.grownBy wx (some b) := (grown_drewN (World.grownBy.refl wo _) 1).trans hgx; have HCx := Lib.hid hcx; have HGx := Lib.hid (HG4.out.trans hgx'); have HXx := Lib.hid (HX4.out.grown hgx' HNE6.out); have HZx := Lib.hid (HZ4.out.grown hgx' HNE.out); have HOx := Lib.hid (HO4.out.away hgx' hbl); have k0 := HXx.out.c0; have k1 := HXx.out.c1; have k2 := HXx.out.c2; clear hcx hgx hgx'))
  all_goals
    go_wp2_with fail
    refine bodyPost_ret (v := .tuple #[.agg #[.int .i64 L, .int .i64 S, .slice a3 xs.length c3], .int .i64 P, .string s]) (by simp [results, Try.results5, go_sem, *]) rfl ?_
    exact ⟨L, S, _, xs, P, s, rfl, arcs_out HOz.out (by omega) _ _ _, hx3, by omega, below_lab (HB2.out.trans (below_of_grown HGz.out (Nat.le_of_lt hlr) (by omega))) (Nat.le_refl _) _ _ _⟩
set_option maxRecDepth 20000 in
set_option maxHeartbeats 6400000 in
theorem drawPrune_any (ao : Option Addr) (n c : Nat) (w : World) (h : Bytes w ao n) :
    Calls Try.prog 11 #[.slice ao n c] w fun e w' => prnD w w' e := by
  have HZ1 := Lib.hid (Blk.new w 26 #[.int .i64 0, .int .i64 0, .slice none 0 0])
  have HB1 := Lib.hid (belowA w (.cells #[.int .i64 0, .int .i64 0, .slice none 0 0] 26))
  have H1 := Lib.hid (h.keep HB1.out)
  clear h
  go_enter Try.func11, Try.ntmps11
  go_wp2_with fail
  generalize w.alloc (.cells #[.int .i64 0, .int .i64 0, .slice none 0 0] 26) = w1 at HZ1 HB1 H1 ⊢
  have hlr : w.heap.size < w1.heap.size := HZ1.out.lt
  refine (l1New_any ao n c _ H1.out).mono ?_
  rintro e w2 ⟨rfl, hc2, hb2⟩
  have HB2 := Lib.hid (HB1.out.trans (hb2.mono HB1.out.size))
  have HZ2 := Lib.hid (HZ1.out.keep hb2)
  generalize w1.heap.size = b at hlr hc2 ⊢
  have HC2 := Lib.hid hc2
  have hbl := hc2.lt.2
  clear hc2 hb2 HZ1 HB1 H1
  go_wp2_with fail
  refine (l27Draw_any b b _ HC2.out).mono ?_
  rintro e w3 ⟨L, S, v3, xs, rfl, ho3, hx3, hc3, hg3⟩
  obtain ⟨a3, c3, rfl, _⟩ := ho3.form
  have HZ3 := Lib.hid (HZ2.out.grown hg3 (some_ne (by omega)))
  have z0 := HZ3.out.c0
  have z1 := HZ3.out.c1
  have z2 := HZ3.out.c2
  have f0 := HZ3.out.frozen 0
  have f1 := HZ3.out.frozen 1
  have f2 := HZ3.out.frozen 2
  have HO3 := Lib.hid ho3
  have HG3 := Lib.hid hg3
  clear ho3 hc3 hg3
  go_wp2_with fail
  refine bodyPost_ret (v := .agg #[.int .i64 L, .int .i64 S, .slice a3 xs.length c3]) (by simp [results, Try.results11, go_sem, *]) rfl ?_
  exact ⟨L, S, _, xs, rfl, arcs_out HO3.out (by omega) _ _ _, hx3, below_lab (HB2.out.trans (below_of_grown HG3.out (Nat.le_of_lt hlr) (by omega))) (Nat.le_refl _) _ _ _⟩
end Go.Proofs.Ytmkodbkbgpjgoaa
