/- IRuns: a part of the proofs of this seat. -/
import Derived.Test.YtnoghnalopdflaaDoorShelf
import Derived.Test.YtnoghnalopdflaaDoorProg
import Derived.Test.YtnoghnalopdflaaDoorLensT
import Derived.Test.YtnoghnalopdflaaDoorSplitT
import Derived.Test.YtnoghnalopdflaaDoorPushI
namespace Go.Proofs.YtnoghnalopdflaaDoor
open Go.RowKit
set_option linter.all false
/- impl.runs: the sizes of the pieces of strings.Split. -/
/-- The library's own variable holds a number. -/
def MaxL (w : World) : Prop := ∃ m, w.cell? ⟨0, 0, none⟩ = some (.int .i64 m)
theorem maxL_of {w : World} (h : w.ShapedOpen Tryd.prog) : MaxL w := Tryd.laysM146.s1_3 w h
theorem MaxL.keep {w w' : World} (h : MaxL w) (hb : Below w.heap.size w w') : MaxL w' := by
  obtain ⟨m, h⟩ := h
  exact ⟨m, (hb.cell (World.block_lt_of_cell? w _ h)).trans h⟩
theorem lensB_at {α : Type} (f : α → Int) {R acc : List Int} {L : List α} {i : Nat} {x : α} (hx : L[i]? = some x) (h : acc ++ (L.drop i).map f = R) : (acc ++ [f x]) ++ (L.drop (i + 1)).map f = R := by
  rw [drop_of_get hx] at h
  simpa using h
set_option maxRecDepth 20000 in
set_option maxHeartbeats 3200000 in
theorem iRuns_any (s : ByteArray) (w : World) (hs : s.size ≤ 1048576) (hm : MaxL w) : Calls Tryd.prog 89 #[.string s] w fun e w' => ∃ v, e = .returned v ∧ OInts w' w.heap.size v (lens s).length (lens s) ∧ Below w.heap.size w w' := by
  have HO := Lib.hid (OInts.empty w w.heap.size (Nat.le_refl _))
  have HB0 := Lib.hid ((Below.refl w.heap.size w).alloc (Nat.le_refl _) (.cells #[] 3))
  obtain ⟨m, hm1⟩ := hm.keep HB0.out
  have C := Tryd.strings_Split s ⟨#[98]⟩ m _ (by omega) hm1 (by decide)
  have hp := pieces_lens s
  have hlen := Lib.splitB_all ⟨#[98]⟩ (by decide) 0 _ s rfl
  have hcl := Lib.countB_le ⟨#[98]⟩ (by decide) s.size s (Nat.le_refl _)
  obtain ⟨c, hc⟩ : ∃ c, Lib.countB s ⟨#[98]⟩ = c := ⟨_, rfl⟩
  rw [hc] at C hp hlen hcl
  obtain ⟨L, hL⟩ : ∃ L, Lib.splitB ⟨#[98]⟩ 0 c s = L := ⟨_, rfl⟩
  rw [hL] at C hp hlen
  have hN : Hid (L.length = c + 1) := hlen
  have HP := Lib.hid hp
  clear hp hlen hc hL hm1 hm
  go_enter Tryd.func89, Tryd.ntmps89
  go_wp2_with fail
  refine C.mono ?_
  rintro e w' ⟨rfl, rfl⟩
  clear C
  obtain ⟨w2, hw2⟩ : ∃ w2, (w.alloc (.cells #[] 3)).alloc (.cells (L.map Value.string).toArray 9) = w2 := ⟨_, rfl⟩
  have HB2 : Hid (Below w.heap.size w w2) := by subst hw2; exact HB0.out.alloc (by simp) _
  have HO2 : Hid (OInts w2 w.heap.size (.slice (some ⟨w.heap.size, 0, none⟩) 0 0) 0 []) := by subst hw2; exact HO.out.alloc _
  have hsz2 : w2.heap.size = w.heap.size + 2 := by subst hw2; simp
  have HC : Hid (w2.heap[w.heap.size + 1]? = some (.cells (L.map Value.string).toArray 9)) := by
    subst hw2
    show _ = _
    have := heap_alloc_new (w.alloc (.cells #[] 3)) (.cells (L.map Value.string).toArray 9)
    simpa using this
  rw [hw2]
  clear hw2 HB0 HO
  go_wp2_with fail
  go_loopw [3, 5, 10] (fun ov pv iv wr => ∃ (i : Nat) (acc : List Int), i ≤ c + 1 ∧ acc.length = i ∧ iv = .int .i64 i ∧ OInts wr w.heap.size ov i acc ∧ Hid (acc ++ (L.drop i).map (fun p => (p.size : Int)) = lens s) ∧ Below w.heap.size w wr ∧ ov.ownBlock ≠ some (w.heap.size + 1) ∧ w.heap.size + 2 ≤ wr.heap.size ∧ Hid (wr.heap[w.heap.size + 1]? = some (.cells (L.map Value.string).toArray 9))) (fun _ _ x _ => c + 1 - (intOf x).toNat)
  case atStart => exact ⟨0, [], Nat.zero_le _, rfl, rfl, HO2.out, HP.out, HB2.out, by simp [Value.ownBlock], by omega, HC⟩
  case round =>
    obtain ⟨i, acc, hi, hal, rfl, ho, hr, hbl, hne, hsz, hcl2⟩ := hrel
    obtain ⟨aa, ca, rfl, _⟩ := ho.form
    have HOw := Lib.hid ho
    have HB := Lib.hid hbl
    have HNE := Lib.hid hne
    clear ho hbl hne HO2 HB2 HC
    by_cases hlt : i < c + 1
    · obtain ⟨x, hx⟩ : ∃ x, L[i]? = some x := ⟨_, List.getElem?_eq_getElem (by have := hN.out; omega)⟩
      have HC1 : wr.cell? ⟨w.heap.size + 1, i, none⟩ = some (.string x) := by
        simp [World.cell?, hcl2.out, hx]
      have HN := Lib.hid (lensB_at (fun p : ByteArray => (p.size : Int)) hx hr.out)
      clear hx hr
      go_wp2_with (refine wpList_push_ib wr (x.size : Int) rfl (.tmp 14) (.tmp 17) rfl w.heap.size _ _ _ rfl HOw.out (by omega) (by omega) (w.heap.size + 1) HNE.out (by omega) _ rfl rfl ?_; intro v2 w3 ho2 hb2 hne2 hcl3; have HO2 := Lib.hid ho2; have HB2 := Lib.hid hb2; have HNE2 := Lib.hid hne2; have HC2 := Lib.hid (hcl3.trans hcl2.out); obtain ⟨a2, c2, rfl, _⟩ := ho2.form; clear ho2 hb2 hne2 hcl3)
      go_roundw
      case rel => exact ⟨i + 1, acc ++ [(x.size : Int)], hlt, by simp; omega, by go_num, HO2.out, HN.out, HB.out.trans HB2.out, HNE2.out, by have := HB2.out.size; omega, HC2⟩
      case measure => simp [intOf]; omega
    · have HE : Hid (acc = lens s) := by
        show _ = _
        have h := hr.out
        rw [drop_all L i (by have := hN.out; omega)] at h
        simpa using h
      clear hr
      go_wp2_with fail
      go_ret
      exact ⟨_, rfl, by have h := HOw.out; rw [HE.out] at h; have hl := h.len; rw [hl]; exact h, HB.out⟩
end Go.Proofs.YtnoghnalopdflaaDoor
