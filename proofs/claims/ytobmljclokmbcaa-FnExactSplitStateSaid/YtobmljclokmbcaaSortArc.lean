/- SortArc: a part of the proofs of this seat. -/
import Derived.Test.YtobmljclokmbcaaSort
import Derived.StillTailTactics
import Derived.Test.YtobmljclokmbcaaProg
import Derived.Test.YtobmljclokmbcaaIComp
import Derived.Test.YtobmljclokmbcaaArcPush
namespace Go.Proofs.Ytobmljclokmbcaa
open Go.RowKit
set_option linter.all false
/- slices.SortFunc at a slice of arcs of the call's own, by compareArcs. -/
theorem ltA_iff {x y : Ar} : ltA x y = true ↔ x.1 < y.1 ∨ (x.1 = y.1 ∧ (x.2.2 < y.2.2 ∨ (x.2.2 = y.2.2 ∧ x.2.1 < y.2.1))) := by
  obtain ⟨a, b, c⟩ := x
  obtain ⟨d, e, f⟩ := y
  simp only [ltA]
  by_cases h1 : a = d
  · by_cases h2 : c = f
    · simp [h1, h2]
    · simp [h1, h2]
  · simp [h1]
theorem ltA_not {x y : Ar} : ltA x y = false ↔ ¬ (x.1 < y.1 ∨ (x.1 = y.1 ∧ (x.2.2 < y.2.2 ∨ (x.2.2 = y.2.2 ∧ x.2.1 < y.2.1)))) := by
  rw [← ltA_iff]; simp
theorem ltOf_A (x y : Ar) : ltOf cmpA x y = ltA x y := by
  have h := cmpA_lt (x := x) (y := y)
  unfold ltOf
  cases e : ltA x y
  · rw [e] at h
    have := of_decide_eq_true h
    simp; omega
  · rw [e] at h
    have := of_decide_eq_false h
    simp; omega
theorem ltOf_fun : ltOf cmpA = ltA := by funext x y; exact ltOf_A x y
theorem swoA : Go.Sort.SWO (ltOf cmpA) := by
  rw [ltOf_fun]
  refine ⟨fun x => ?_, fun x y z h1 h2 => ?_, fun x y z h1 h2 => ?_⟩
  · rw [ltA_not]; omega
  · rw [ltA_iff] at *; omega
  · rw [ltA_not] at *; omega
theorem totA (x y : Ar) (h1 : ltOf cmpA x y = false) (h2 : ltOf cmpA y x = false) : x = y := by
  rw [ltOf_fun] at h1 h2
  rw [ltA_not] at h1 h2
  obtain ⟨a, b, c⟩ := x
  obtain ⟨d, e, f⟩ := y
  simp only at h1 h2
  have e1 : a = d := by omega
  have e2 : c = f := by omega
  have e3 : b = e := by omega
  rw [e1, e2, e3]
def arE (x : Ar) : List Value := [.int .i64 x.1, .int .i64 x.2.1, .int .i64 x.2.2]
def sortA (xs : List Ar) : List Ar := xs.mergeSort fun x y => !(ltOf cmpA) y x
theorem flatA (xs : List Ar) : Go.Sort.flatK arE 3 xs.toArray = (arCells xs).toArray := by
  apply Array.ext_getElem?
  intro t
  by_cases ht : t < xs.length * 3
  · have hi : t / 3 < xs.length := by omega
    have hx : xs[t / 3]? = some xs[t / 3] := List.getElem?_eq_getElem hi
    obtain ⟨c1, c2, c3⟩ := arCells_get xs (t / 3) _ hx
    have h3 : t = t / 3 * 3 ∨ t = t / 3 * 3 + 1 ∨ t = t / 3 * 3 + 2 := by omega
    have e0 : (Go.Sort.flatK arE 3 xs.toArray)[t]? = some ((arE xs[t / 3])[t % 3]!) := by
      simp [Go.Sort.flatK, ht, hi]
    rw [e0, List.getElem?_toArray]
    rcases h3 with h | h | h
    · rw [(congrArg (fun k => (arCells xs)[k]?) h).trans c1, show t % 3 = 0 by omega]; rfl
    · rw [(congrArg (fun k => (arCells xs)[k]?) h).trans c2, show t % 3 = 1 by omega]; rfl
    · rw [(congrArg (fun k => (arCells xs)[k]?) h).trans c3, show t % 3 = 2 by omega]; rfl
  · rw [Array.getElem?_eq_none (by simp [Go.Sort.flatK]; omega), List.getElem?_toArray, List.getElem?_eq_none (by rw [arCells_len]; omega)]
set_option maxRecDepth 20000 in
set_option maxHeartbeats 3200000 in
theorem compare_grow (x y z a b c : Int) (w : World) : Calls Try.prog 88 #[.agg #[.int .i64 x, .int .i64 y, .int .i64 z], .agg #[.int .i64 a, .int .i64 b, .int .i64 c]] w fun e w' => e = .returned (.int .i64 (cmpA (x, y, z) (a, b, c))) ∧ ∃ q os, w' = Go.Sort.grow (w.drewN q) os := by
  have hk0 := (Blk.new w 97 #[.int .i64 x, .int .i64 y, .int .i64 z]).alloc (.cells #[.int .i64 a, .int .i64 b, .int .i64 c] 97)
  have hk1 := Blk.new (w.alloc (.cells #[.int .i64 x, .int .i64 y, .int .i64 z] 97)) 97 #[.int .i64 a, .int .i64 b, .int .i64 c]
  have z1 : (w.alloc (.cells #[.int .i64 x, .int .i64 y, .int .i64 z] 97)).heap.size = w.heap.size + 1 := by simp
  rw [z1] at hk1
  have a0 := hk0.c0
  have a1 := hk0.c1
  have a2 := hk0.c2
  have b0 := hk1.c0
  have b1 := hk1.c1
  have b2 := hk1.c2
  have HG : Hid (Go.Sort.grow (w.drewN 1) #[.cells #[.int .i64 x, .int .i64 y, .int .i64 z] 97, .cells #[.int .i64 a, .int .i64 b, .int .i64 c] 97, .cells #[.int .i64 (cmpI x a), .int .i64 (cmpI z c), .int .i64 (cmpI y b)] 3] = (((w.alloc (.cells #[.int .i64 x, .int .i64 y, .int .i64 z] 97)).alloc (.cells #[.int .i64 a, .int .i64 b, .int .i64 c] 97)).drewN 1).alloc (.cells #[.int .i64 (cmpI x a), .int .i64 (cmpI z c), .int .i64 (cmpI y b)] 3)) := by
    show _ = _
    simp only [Go.Sort.alloc_eq_grow]
    show _ = Go.Sort.grow (Go.Sort.grow (Go.Sort.grow (w.drewN 1) _) _) _
    rw [Go.Sort.grow_grow, Go.Sort.grow_grow]
    rfl
  clear hk0 hk1 z1
  go_enter Try.func88, Try.ntmps88
  go_wp2_with fail
  generalize (w.alloc (.cells #[.int .i64 x, .int .i64 y, .int .i64 z] 97)).alloc (.cells #[.int .i64 a, .int .i64 b, .int .i64 c] 97) = w1 at a0 a1 a2 b0 b1 b2 HG ⊢
  have HI : Hid (Ints (w1.drew.alloc (.cells #[.int .i64 (cmpI x a), .int .i64 (cmpI z c), .int .i64 (cmpI y b)] 3)) (some ⟨w1.drew.heap.size, 0, none⟩) 3 [cmpI x a, cmpI z c, cmpI y b]) := by
    have hk := Blk.new w1.drew 3 #[.int .i64 (cmpI x a), .int .i64 (cmpI z c), .int .i64 (cmpI y b)]
    refine ⟨rfl, by omega, fun i hi => ⟨_, 0, rfl, ?_⟩⟩
    rw [Nat.zero_add, hk.cell i]
    have h3 : i = 0 ∨ i = 1 ∨ i = 2 := by simp at hi; omega
    rcases h3 with rfl | rfl | rfl <;> rfl
  go_still_tail 15, (by kernel_rfl)
  still_call ((cmp_any x a _).mono fun _ _ h => ⟨h.1, h.2.symm⟩)
  repeat still_step
  still_call ((cmp_any z c _).mono fun _ _ h => ⟨h.1, h.2.symm⟩)
  repeat still_step
  still_call ((cmp_any y b _).mono fun _ _ h => ⟨h.1, h.2.symm⟩)
  repeat still_step
  refine wpStill_nil ?_
  change wpList _ _ _ _ _ w1.drew
  go_wp2_with fail
  refine (or_any _ _ _ _ _ _ HI.out).mono ?_
  rintro e w' ⟨rfl, rfl⟩
  go_wp2_with fail
  go_ret
  exact ⟨rfl, 1, _, HG.out.symm⟩
theorem cmpLays (g n : Nat) (w : World) : CmpLays Try.prog 88 #[] arE 3 cmpA g 0 n w := by
  intro m os dk hs x y
  obtain ⟨a, b, c⟩ := x
  obtain ⟨d, e, f⟩ := y
  exact compare_grow a b c d e f _
theorem heap_sortedV {w : World} {g n : Nat} {os : Array Obj} {cur : Array Value} {e : TypeId} {fr : Nat × Nat} (d : Array Value) (hb : w.heap[g]? = some (.cells cur e fr)) :
    (Go.Sort.grow (Go.Sort.putRow id (Go.Sort.ahead w n) g 0 d) os).heap[g]? = some (.cells (Go.Sort.putCells id 0 d cur) e fr) := by
  have hg : g < w.heap.size := (Array.getElem?_eq_some_iff.1 hb).1
  rw [Go.Sort.heap_grow_old _ _ (by simpa using hg)]
  simp [Go.Sort.putRow, Go.Sort.mapBlock, Go.Sort.ahead, Array.getElem?_modify, hb, Go.Sort.onCells]
theorem grownBy_sortedV {w : World} {g n : Nat} {os : Array Obj} (d : Array Value) : w.grownBy (Go.Sort.grow (Go.Sort.putRow id (Go.Sort.ahead w n) g 0 d) os) (some g) := by
  refine ⟨rfl, rfl, rfl, by simp, fun k hk hne => ?_⟩
  rw [Go.Sort.heap_grow_old _ _ (by simpa using hk)]
  have : g ≠ k := fun e => hne (by rw [e])
  simp [Go.Sort.putRow, Go.Sort.mapBlock, Go.Sort.ahead, Array.getElem?_modify, this]
theorem take_putCellsV (cur : Array Value) (ts : List Value) (h : ts.length ≤ cur.size) : (Go.Sort.putCells id 0 ts.toArray cur).toList.take ts.length = ts := by
  apply List.ext_getElem?
  intro j
  by_cases hj : j < ts.length
  · rw [List.getElem?_take_of_lt hj, Array.getElem?_toList]
    simp [Go.Sort.putCells, hj, show j < cur.size by omega]
  · rw [List.getElem?_take_eq_none (by omega), List.getElem?_eq_none (by omega)]
theorem sortA_len (xs : List Ar) : (sortA xs).length = xs.length := by simp [sortA]
set_option maxHeartbeats 1600000 in
theorem sortArc_any (lo g cap n : Nat) (xs : List Ar) (w : World) (h : OArcs w lo (.slice (some ⟨g, 0, none⟩) n cap) n xs) :
    Calls Try.prog 87 #[.slice (some ⟨g, 0, none⟩) n cap, .func (.func 88) #[] #[]] w fun e w' => e = .returned (.tuple #[]) ∧ OArcs w' lo (.slice (some ⟨g, 0, none⟩) n cap) n (sortA xs) ∧ w.grownBy w' (some g) := by
  have hl := h.len
  have hH : Go.Sort.HoldsK arE 3 w g 0 xs.toArray := by
    unfold Go.Sort.HoldsK
    rw [flatA]
    intro j hj
    have hj2 : j < (arCells xs).length := by simpa using hj
    have hc := h.2.cells (g := g) rfl j _ (List.getElem?_eq_getElem hj2)
    rw [Addr.add_lit] at hc
    refine ⟨?_, h.frozen _⟩
    rw [hc]
    simp [hj2]
  have hS := AnyQ.slices_SortFunc_total Try.sortArc 3 Try.isAgg97 Try.sizeOf97 arE (fun _ => rfl) (fun x v hv => by
      simp only [arE, List.mem_cons, List.not_mem_nil, or_false] at hv
      rcases hv with rfl | rfl | rfl <;> rfl) cmpA swoA 88 #[] g 0 cap xs.toArray w (enters_of Try.func88 (by kernel_rfl) rfl) (cmpLays g _ w) hH h.lt.2 (by have := h.1; simp; omega) totA
  have e1 : xs.toArray.size = n := by simpa using hl
  rw [e1] at hS
  refine hS.mono ?_
  rintro e w' ⟨rfl, m, os, hw⟩
  have e2 : (xs.toArray.toList.mergeSort fun x y => !(ltOf cmpA) y x) = sortA xs := rfl
  rw [e2] at hw
  unfold sortWorldK Go.Sort.putRowK at hw
  rw [flatA] at hw
  subst hw
  refine ⟨rfl, ?_, grownBy_sortedV _⟩
  rcases h.2.2 with ⟨e, _⟩ | ⟨g', cap', cur, e, hg, hh, hnc, hcap, hsz, ht⟩
  · cases e
  · injection e with e1 e2 e3
    injection e1 with e1
    injection e1 with e1
    subst e1
    subst e3
    refine ⟨h.1, by rw [arCells_len, sortA_len, hl], .inr ⟨g, cap, _, rfl, hg, heap_sortedV _ hh, hnc, hcap, by simp [Go.Sort.putCells, hsz], ?_⟩⟩
    have h3 : (arCells (sortA xs)).length = n * 3 := by rw [arCells_len, sortA_len, hl]
    rw [← h3]
    exact take_putCellsV cur _ (by rw [h3, hsz]; exact Nat.mul_le_mul_right _ hnc)
end Go.Proofs.Ytobmljclokmbcaa
