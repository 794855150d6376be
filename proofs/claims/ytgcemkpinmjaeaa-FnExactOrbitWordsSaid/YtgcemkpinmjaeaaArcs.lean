/- Words for memory: a slice of arcs (each of three numbers) that reads as a list. -/
import Derived.Test.YtgcemkpinmjaeaaProg
import Derived.Test.YtgcemkpinmjaeaaBase
namespace Go.Proofs.Ytgcemkpinmjaeaa
open Go.RowKit
set_option linter.all false
abbrev Ar := Int × Int × Int
def arV (x : Ar) : Value := .agg #[.int .i64 x.1, .int .i64 x.2.1, .int .i64 x.2.2]
def arCells : List Ar → List Value
  | [] => []
  | x :: r => .int .i64 x.1 :: .int .i64 x.2.1 :: .int .i64 x.2.2 :: arCells r
theorem arCells_len : ∀ xs : List Ar, (arCells xs).length = xs.length * 3
  | [] => rfl
  | x :: r => by simp only [arCells, List.length_cons, arCells_len r]; omega
theorem arCells_app : ∀ (xs ys : List Ar), arCells (xs ++ ys) = arCells xs ++ arCells ys
  | [], _ => rfl
  | x :: r, ys => by simp only [List.cons_append, arCells, arCells_app r ys]
theorem arCells_get : ∀ (xs : List Ar) (i : Nat) (x : Ar), xs[i]? = some x → (arCells xs)[i * 3]? = some (.int .i64 x.1) ∧ (arCells xs)[i * 3 + 1]? = some (.int .i64 x.2.1) ∧ (arCells xs)[i * 3 + 2]? = some (.int .i64 x.2.2)
  | [], _, _, h => by simp at h
  | y :: r, 0, x, h => by simp at h; subst h; exact ⟨rfl, rfl, rfl⟩
  | y :: r, i + 1, x, h => by
    have := arCells_get r i x (by simpa using h)
    rw [show (i + 1) * 3 = i * 3 + 3 by omega, show i * 3 + 3 + 1 = i * 3 + 1 + 3 by omega, show i * 3 + 3 + 2 = i * 3 + 2 + 3 by omega]
    exact this
theorem arCells_set1 : ∀ (xs : List Ar) (i : Nat) (x : Ar) (u : Int), xs[i]? = some x → (arCells xs).set (i * 3) (.int .i64 u) = arCells (xs.set i (u, x.2.1, x.2.2))
  | [], _, _, _, h => by simp at h
  | y :: r, 0, x, u, h => by simp at h; subst h; rfl
  | y :: r, i + 1, x, u, h => by
    have := arCells_set1 r i x u (by simpa using h)
    rw [show (i + 1) * 3 = i * 3 + 1 + 1 + 1 by omega]
    simp only [arCells, List.set_cons_succ, this]
theorem arCells_set2 : ∀ (xs : List Ar) (i : Nat) (x : Ar) (u : Int), xs[i]? = some x → (arCells xs).set (i * 3 + 1) (.int .i64 u) = arCells (xs.set i (x.1, u, x.2.2))
  | [], _, _, _, h => by simp at h
  | y :: r, 0, x, u, h => by simp at h; subst h; rfl
  | y :: r, i + 1, x, u, h => by
    have := arCells_set2 r i x u (by simpa using h)
    rw [show (i + 1) * 3 + 1 = i * 3 + 1 + 1 + 1 + 1 by omega]
    simp only [arCells, List.set_cons_succ, this]
theorem arCells_set3 : ∀ (xs : List Ar) (i : Nat) (x : Ar) (u : Int), xs[i]? = some x → (arCells xs).set (i * 3 + 2) (.int .i64 u) = arCells (xs.set i (x.1, x.2.1, u))
  | [], _, _, _, h => by simp at h
  | y :: r, 0, x, u, h => by simp at h; subst h; rfl
  | y :: r, i + 1, x, u, h => by
    have := arCells_set3 r i x u (by simpa using h)
    rw [show (i + 1) * 3 + 2 = i * 3 + 2 + 1 + 1 + 1 by omega]
    simp only [arCells, List.set_cons_succ, this]

/-- The slice value '.slice ao n cap' reads in w as the list xs of arcs. -/
def Arcs (w : World) (ao : Option Addr) (n : Nat) (xs : List Ar) : Prop :=
  xs.length = n ∧ n ≤ 1099511627776 ∧ ∀ i x, xs[i]? = some x → ∃ b o, ao = some ⟨b, o, none⟩ ∧ w.cell? ⟨b, o + i * 3, none⟩ = some (.int .i64 x.1) ∧ w.cell? ⟨b, o + i * 3 + 1, none⟩ = some (.int .i64 x.2.1) ∧ w.cell? ⟨b, o + i * 3 + 2, none⟩ = some (.int .i64 x.2.2)
theorem Arcs.keep {w w' : World} {ao : Option Addr} {n : Nat} {xs : List Ar} (h : Arcs w ao n xs) (hb : Below w.heap.size w w') : Arcs w' ao n xs := by
  refine ⟨h.1, h.2.1, fun i x hi => ?_⟩
  obtain ⟨b, o, e, h1, h2, h3⟩ := h.2.2 i x hi
  exact ⟨b, o, e, (hb.cell (p := ⟨b, _, none⟩) (World.block_lt_of_cell? w _ h1)).trans h1, (hb.cell (p := ⟨b, _, none⟩) (World.block_lt_of_cell? w _ h2)).trans h2, (hb.cell (p := ⟨b, _, none⟩) (World.block_lt_of_cell? w _ h3)).trans h3⟩
theorem Arcs.drewN {w : World} {ao : Option Addr} {n : Nat} {xs : List Ar} (h : Arcs w ao n xs) (k : Nat) : Arcs (w.drewN k) ao n xs := h
theorem Arcs.at_ {w : World} {ao : Option Addr} {n k : Nat} {xs : List Ar} (h : Arcs w ao n xs) (hk : k < n) :
    ∃ b o x y z, ao = some ⟨b, o, none⟩ ∧ w.cell? ⟨b, o + k * 3, none⟩ = some (.int .i64 x) ∧ w.cell? ⟨b, o + k * 3 + 1, none⟩ = some (.int .i64 y) ∧ w.cell? ⟨b, o + k * 3 + 2, none⟩ = some (.int .i64 z) ∧ Hid (xs[k]? = some (x, y, z)) := by
  have hl : k < xs.length := by rw [h.1]; exact hk
  obtain ⟨b, o, e, h1, h2, h3⟩ := h.2.2 k _ (List.getElem?_eq_getElem hl)
  exact ⟨b, o, _, _, _, e, h1, h2, h3, List.getElem?_eq_getElem hl⟩

/-- The slice value v is the call's own, and holds just the list xs of arcs. -/
def OArcs (w : World) (lo : Nat) (v : Value) (n : Nat) (xs : List Ar) : Prop :=
  n ≤ 1099511627776 ∧ w.ownsRow lo 107 3 v n (arCells xs)
section
variable {w w' : World} {lo n : Nat} {v : Value} {xs : List Ar}
theorem OArcs.len (h : OArcs w lo v n xs) : xs.length = n := by have := h.2.1; rw [arCells_len] at this; omega
theorem OArcs.keep (h : OArcs w lo v n xs) (hb : Below w.heap.size w w') : OArcs w' lo v n xs := ⟨h.1, own_keep h.2 hb⟩
theorem OArcs.grown {row : Option Nat} (h : OArcs w lo v n xs) (hg : w.grownBy w' row) (hne : v.ownBlock = none ∨ v.ownBlock ≠ row) : OArcs w' lo v n xs := ⟨h.1, h.2.kept hg hne⟩
theorem OArcs.alloc (h : OArcs w lo v n xs) (o : Obj) : OArcs (w.alloc o) lo v n xs := ⟨h.1, h.2.alloc o⟩
theorem OArcs.drewN (h : OArcs w lo v n xs) (k : Nat) : OArcs (w.drewN k) lo v n xs := h
theorem OArcs.mono {lo' : Nat} (h : OArcs w lo v n xs) (hl : lo' ≤ lo) : OArcs w lo' v n xs := by
  refine ⟨h.1, h.2.1, ?_⟩
  rcases h.2.2 with h2 | ⟨g, cap, cur, hv, hg, r⟩
  · exact .inl h2
  · exact .inr ⟨g, cap, cur, hv, Nat.le_trans hl hg, r⟩
theorem OArcs.ownlt (h : OArcs w lo v n xs) : ∀ k, v.ownBlock = some k → lo ≤ k ∧ k < w.heap.size := h.2.lt
/-- nil, or a slice at the head of a block. -/
theorem OArcs.form (h : OArcs w lo v n xs) : ∃ ao cap, v = .slice ao n cap ∧ Arcs w ao n xs := by
  have hl := h.len
  rcases h.2.2 with ⟨rfl, rfl⟩ | ⟨g, cap, cur, rfl, hg, hh, hnc, _, _, ht⟩
  · exact ⟨none, 0, rfl, hl, h.1, fun i x hi => by rw [List.eq_nil_of_length_eq_zero hl] at hi; simp at hi⟩
  · refine ⟨some ⟨g, 0, none⟩, cap, rfl, hl, h.1, fun i x hi => ⟨g, 0, rfl, ?_⟩⟩
    obtain ⟨c1, c2, c3⟩ := arCells_get xs i x hi
    have d1 := h.2.cells (g := g) rfl _ _ c1
    have d2 := h.2.cells (g := g) rfl _ _ c2
    have d3 := h.2.cells (g := g) rfl _ _ c3
    rw [Addr.add_lit, Nat.zero_add] at d1 d2 d3
    rw [Nat.zero_add]
    exact ⟨d1, d2, d3⟩
theorem OArcs.two {cap : Nat} {ao : Option Addr} (h : OArcs w lo (.slice ao n cap) n xs) : (ao = none ∧ n = 0) ∨ ∃ g, ao = some ⟨g, 0, none⟩ := by
  rcases h.2.2 with ⟨e, hn⟩ | ⟨g, c, cur, e, _⟩
  · injection e with e1
    exact .inl ⟨e1, hn⟩
  · injection e with e1
    exact .inr ⟨g, e1⟩
theorem OArcs.read {cap : Nat} {ao : Option Addr} (h : OArcs w lo (.slice ao n cap) n xs) : Arcs w ao n xs := by
  obtain ⟨ao', cap', e, hi⟩ := h.form
  injection e with e1
  subst e1
  exact hi
theorem OArcs.capLe {m cap : Nat} {ao : Option Addr} (h : OArcs w lo v n xs) (e : v = .slice ao m cap) : n ≤ cap := by
  rcases h.2.2 with ⟨rfl, rfl⟩ | ⟨g, c, cur, rfl, _, _, hnc, _⟩
  · exact Nat.zero_le _
  · injection e with _ _ e3
    omega
theorem OArcs.within {hi lo2 : Nat} (h : OArcs w lo v n xs) (hw : Within lo2 hi w w') (hl : hi ≤ lo) : OArcs w' lo v n xs := ⟨h.1, own_within h.2 hw hl⟩
theorem OArcs.since (h : OArcs w lo v n xs) (hw : Since lo w.heap.size w w') : OArcs w' lo v n xs := ⟨h.1, own_since h.2 hw⟩
theorem OArcs.none_ (w : World) (lo : Nat) : OArcs w lo (.slice none 0 0) 0 [] := ⟨by omega, by simp [arCells], .inl ⟨rfl, rfl⟩⟩
theorem OArcs.empty (w : World) (lo : Nat) (hlo : lo ≤ w.heap.size) : OArcs (w.alloc (.cells #[] 107)) lo (.slice (some ⟨w.heap.size, 0, none⟩) 0 0) 0 [] := by
  refine ⟨by omega, ?_⟩
  exact World.ownsRow_made (base := lo) (e := 107) (size := 3) w #[] 0 hlo (by unfold maxLen; omega) rfl
end
section
variable {w w' : World} {lo g n cap : Nat} {xs : List Ar}
theorem OArcs.lt (h : OArcs w lo (.slice (some ⟨g, 0, none⟩) n cap) n xs) : lo ≤ g ∧ g < w.heap.size := h.2.lt g rfl
theorem OArcs.frozen (h : OArcs w lo (.slice (some ⟨g, 0, none⟩) n cap) n xs) (k : Nat) : w.frozen? ⟨g, k, none⟩ = false := h.2.frozenAt k
theorem OArcs.cells (h : OArcs w lo (.slice (some ⟨g, 0, none⟩) n cap) n xs) {k : Nat} {x : Ar} (hk : xs[k]? = some x) : w.cell? ⟨g, k * 3, none⟩ = some (.int .i64 x.1) ∧ w.cell? ⟨g, k * 3 + 1, none⟩ = some (.int .i64 x.2.1) ∧ w.cell? ⟨g, k * 3 + 2, none⟩ = some (.int .i64 x.2.2) := by
  obtain ⟨b, o, e, h1, h2, h3⟩ := h.read.2.2 k x hk
  injection e with e
  injection e with e1 e2
  subst e1
  subst e2
  rw [Nat.zero_add] at h1 h2 h3
  exact ⟨h1, h2, h3⟩
theorem OArcs.set1 (h : OArcs w lo (.slice (some ⟨g, 0, none⟩) n cap) n xs) {k : Nat} {x : Ar} (hk : xs[k]? = some x) (u : Int) : OArcs (w.setCell ⟨g, k * 3, none⟩ (.int .i64 u)) lo (.slice (some ⟨g, 0, none⟩) n cap) n (xs.set k (u, x.2.1, x.2.2)) :=
  ⟨h.1, by rw [← arCells_set1 _ _ _ _ hk]; exact (h.2.stored _ _).1⟩
theorem OArcs.set2 (h : OArcs w lo (.slice (some ⟨g, 0, none⟩) n cap) n xs) {k : Nat} {x : Ar} (hk : xs[k]? = some x) (u : Int) : OArcs (w.setCell ⟨g, k * 3 + 1, none⟩ (.int .i64 u)) lo (.slice (some ⟨g, 0, none⟩) n cap) n (xs.set k (x.1, u, x.2.2)) :=
  ⟨h.1, by rw [← arCells_set2 _ _ _ _ hk]; exact (h.2.stored _ _).1⟩
theorem OArcs.set3 (h : OArcs w lo (.slice (some ⟨g, 0, none⟩) n cap) n xs) {k : Nat} {x : Ar} (hk : xs[k]? = some x) (u : Int) : OArcs (w.setCell ⟨g, k * 3 + 2, none⟩ (.int .i64 u)) lo (.slice (some ⟨g, 0, none⟩) n cap) n (xs.set k (x.1, x.2.1, u)) :=
  ⟨h.1, by rw [← arCells_set3 _ _ _ _ hk]; exact (h.2.stored _ _).1⟩
end
theorem info_arc : (Try.prog.info? 107).map (fun i => (i.zero, i.size, i.bytes)) = some (some (.agg #[.int .i64 0, .int .i64 0, .int .i64 0]), 3, 24) := by kernel_rfl

theorem arCells_zeros : ∀ n : Nat, arCells (List.replicate n (0, 0, 0)) = List.replicate (n * 3) (.int .i64 0)
  | 0 => rfl
  | n + 1 => by
    rw [show (n + 1) * 3 = n * 3 + 1 + 1 + 1 by omega]
    simp only [List.replicate_succ, arCells, arCells_zeros n]
theorem toList_made3 (n : Nat) : (madeCells #[.int .i64 0, .int .i64 0, .int .i64 0] (n * 3)).toList = arCells (List.replicate n (0, 0, 0)) := by
  rw [arCells_zeros]
  apply List.ext_getElem?
  intro j
  by_cases hj : j < n * 3
  · have h3 : j % 3 = 0 ∨ j % 3 = 1 ∨ j % 3 = 2 := by omega
    rcases h3 with h | h | h <;> simp [madeCells, hj, h]
  · simp [madeCells, hj]
theorem make_arcs (n : Nat) (hn : n ≤ 1099511627776) (w : World) :
    (Instr.makeSlice 36 (.int .i64 (n : Int)) (.int .i64 (n : Int))).run Try.prog w = .ok (.slice (some ⟨w.heap.size, 0, none⟩) n n) (w.alloc (.cells (madeCells #[.int .i64 0, .int .i64 0, .int .i64 0] (n * 3)) 107)) := by
  obtain ⟨i, hi, hzz⟩ := Option.map_eq_some_iff.1 info_arc
  simp only [Prod.mk.injEq] at hzz
  obtain ⟨hz, hs, hb⟩ := hzz
  have hr := run_make (P := Try.prog) w 36 107 i _ Try.underlying36 hi hz .i64 .i64 n n (by omega) (Int.le_refl _) (by rw [hb]; omega) (by omega)
  simp only [Int.toNat_natCast, hs] at hr
  exact hr
theorem OArcs.made (w : World) (n : Nat) (hn : n ≤ 1099511627776) : OArcs (w.alloc (.cells (madeCells #[.int .i64 0, .int .i64 0, .int .i64 0] (n * 3)) 107)) w.heap.size (.slice (some ⟨w.heap.size, 0, none⟩) n n) n (List.replicate n (0, 0, 0)) := by
  refine ⟨hn, ?_⟩
  have h := World.ownsRow_lit (base := w.heap.size) (e := 107) (size := 3) w (madeCells #[.int .i64 0, .int .i64 0, .int .i64 0] (n * 3)) n (Nat.le_refl _) (by unfold maxLen; omega) (by simp [madeCells])
  rw [toList_made3] at h
  exact h
theorem get_set {α : Type} {xs : List α} {k : Nat} {x y : α} (h : xs[k]? = some x) : (xs.set k y)[k]? = some y := by
  obtain ⟨hk, _⟩ := List.getElem?_eq_some_iff.1 h
  simp [hk]
theorem OArcs.put {w : World} {lo g n cap : Nat} {xs : List Ar} (h : OArcs w lo (.slice (some ⟨g, 0, none⟩) n cap) n xs) {k : Nat} {a : Ar} (hk : xs[k]? = some a) (x y z : Int) :
    OArcs (((w.setCell ⟨g, k * 3, none⟩ (.int .i64 x)).setCell ⟨g, k * 3 + 1, none⟩ (.int .i64 y)).setCell ⟨g, k * 3 + 2, none⟩ (.int .i64 z)) lo (.slice (some ⟨g, 0, none⟩) n cap) n (xs.set k (x, y, z)) := by
  have h1 := h.set1 hk x
  have h2 := h1.set2 (get_set hk) y
  rw [List.set_set] at h2
  have h3 := h2.set3 (get_set hk) z
  rw [List.set_set] at h3
  exact h3
theorem Below.put3 {B : Nat} {a w : World} (h : Below B a w) {g : Nat} (hg : B ≤ g) (k : Nat) (u1 u2 u3 : Value) : Below B a (((w.setCell ⟨g, k * 3, none⟩ u1).setCell ⟨g, k * 3 + 1, none⟩ u2).setCell ⟨g, k * 3 + 2, none⟩ u3) :=
  ((h.setCell (p := ⟨g, _, none⟩) hg u1).setCell (p := ⟨g, _, none⟩) hg u2).setCell (p := ⟨g, _, none⟩) hg u3
theorem grown_put3 {a w : World} {g : Nat} (h : a.grownBy w (some g)) (k : Nat) (u1 u2 u3 : Value) : a.grownBy (((w.setCell ⟨g, k * 3, none⟩ u1).setCell ⟨g, k * 3 + 1, none⟩ u2).setCell ⟨g, k * 3 + 2, none⟩ u3) (some g) :=
  only_setCell (only_setCell (only_setCell h (p := ⟨g, _, none⟩) rfl u1) (p := ⟨g, _, none⟩) rfl u2) (p := ⟨g, _, none⟩) rfl u3
/-- The marks: k, k + 1, .. -/
def marksA (k : Int) (n : Nat) : List Ar := (List.range n).map fun i => (k + 3 * (i : Nat), k + 3 * (i : Nat) + 1, k + 3 * (i : Nat) + 1 + 1)
theorem marksA_len (k : Int) (n : Nat) : (marksA k n).length = n := by simp [marksA]
theorem marksA_get {k : Int} {n i : Nat} (h : i < n) : (marksA k n)[i]? = some (k + 3 * (i : Nat), k + 3 * (i : Nat) + 1, k + 3 * (i : Nat) + 1 + 1) := by simp [marksA, h]
theorem OArcs.setFar {w : World} {lo n : Nat} {v : Value} {xs : List Ar} (h : OArcs w lo v n xs) {p : Addr} (hne : v.ownBlock ≠ some p.block) (u : Value) : OArcs (w.setCell p u) lo v n xs :=
  h.grown (only_setCell (World.grownBy.refl w (some p.block)) rfl u) (.inr hne)
theorem own_ne {g n c b : Nat} (h : g ≠ b) : (Value.slice (some ⟨g, 0, none⟩) n c).ownBlock ≠ some b := by
  intro e
  exact h (by injection e)
end Go.Proofs.Ytgcemkpinmjaeaa
