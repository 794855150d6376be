/-
  Words for memory: a slice of ints that reads as a list; what is kept of it. Nothing of the program stands here.
-/
import Derived.WalkKit
import Derived.WalkSpells
import Derived.WalkLawsBesides
import Derived.BigQuiet
import Derived.Deep.QuietTactic
import Derived.Deep.Draws
import Derived.Deep.OwnRows
import Derived.Deep.DeepCutAuto
import Derived.Deep.RegionHeld3
import Derived.Lib.Hide
import Derived.Test.YtlhognagaknhcaaProg
namespace Go.Proofs.Ytlhognagaknhcaa
open Go.RowKit
set_option linter.all false

/-- The slice value '.slice ao n cap' reads in w as the list xs. -/
def Ints (w : World) (ao : Option Addr) (n : Nat) (xs : List Int) : Prop :=
  xs.length = n ∧ n ≤ 1099511627776 ∧ ∀ i, i < xs.length → ∃ b o, ao = some ⟨b, o, none⟩ ∧ w.cell? ⟨b, o + i, none⟩ = some (.int .i64 (xs.getD i 0))

theorem Ints.keep {w w' : World} {ao : Option Addr} {n : Nat} {xs : List Int} (h : Ints w ao n xs) (hb : Below w.heap.size w w') : Ints w' ao n xs := by
  refine ⟨h.1, h.2.1, fun i hi => ?_⟩
  obtain ⟨b, o, e, hc⟩ := h.2.2 i hi
  exact ⟨b, o, e, (hb.cell (p := ⟨b, o + i, none⟩) (World.block_lt_of_cell? w _ hc)).trans hc⟩

theorem Ints.drewN {w : World} {ao : Option Addr} {n : Nat} {xs : List Int} (h : Ints w ao n xs) (k : Nat) : Ints (w.drewN k) ao n xs := h

theorem drop_all {α : Type} (xs : List α) (k : Nat) (h : xs.length ≤ k) : xs.drop k = [] := List.drop_eq_nil_of_le h

theorem below_drewN {B : Nat} {a w : World} (h : Below B a w) (n : Nat) : Below B a (w.drewN n) := ⟨h.os, h.tape, h.output, h.size, h.block⟩

/-- Only the tape has moved on. -/
def Drew (w w' : World) : Prop := ∃ m, w' = w.drewN m
theorem Drew.refl (w : World) : Drew w w := ⟨0, rfl⟩
theorem Drew.below {w w' : World} (h : Drew w w') (B : Nat) : Below B w w' := by
  obtain ⟨m, rfl⟩ := h
  exact below_drewN (Below.refl B w) m

/-- Two lists are one. -/
def eqL {α : Type} [DecidableEq α] (xs ys : List α) : Bool := decide (xs = ys)
theorem eqL_self {α : Type} [DecidableEq α] (xs : List α) : eqL xs xs = true := by simp [eqL]
theorem eqL_true {α : Type} [DecidableEq α] {xs ys : List α} (h : xs = ys) : eqL xs ys = true := by simp [eqL, h]
theorem eqL_false {α : Type} [DecidableEq α] {xs ys : List α} (h : xs ≠ ys) : eqL xs ys = false := by simp [eqL, h]
theorem eqL_len {α : Type} [DecidableEq α] {xs ys : List α} (h : xs.length ≠ ys.length) : eqL xs ys = false := eqL_false (by rintro rfl; exact h rfl)
theorem eqL_nil {α : Type} [DecidableEq α] {xs ys : List α} {k : Nat} (hx : xs.length ≤ k) (hy : ys.length ≤ k) : eqL (xs.drop k) (ys.drop k) = true := by
  rw [List.drop_eq_nil_of_le hx, List.drop_eq_nil_of_le hy]; simp [eqL]
theorem eqL_step {α : Type} [DecidableEq α] {xs ys : List α} {k : Nat} (hx : k < xs.length) (hy : k < ys.length) {b : Bool} (h : eqL (xs.drop k) (ys.drop k) = b) :
    (xs[k] = ys[k] → eqL (xs.drop (k + 1)) (ys.drop (k + 1)) = b) ∧ (xs[k] ≠ ys[k] → b = false) := by
  rw [List.drop_eq_getElem_cons hx, List.drop_eq_getElem_cons hy] at h
  simp only [eqL] at h ⊢
  subst h
  generalize List.drop (k + 1) xs = p
  generalize List.drop (k + 1) ys = q
  constructor
  · intro e; rw [e]; simp
  · intro e; simp [e]

theorem ret_int {k : IntKind} {a b : Int} (h : a = b) : Ending.returned (.int k a) = .returned (.int k b) := by rw [h]
theorem ret_bool {a b : Bool} (h : a = b) : Ending.returned (.bool a) = .returned (.bool b) := by rw [h]
theorem Drew.mk (w : World) (m : Nat) : Drew w (w.drewN m) := ⟨m, rfl⟩
theorem Drew.drewN {w w' : World} (h : Drew w w') (n : Nat) : Drew w (w'.drewN n) := by
  obtain ⟨m, rfl⟩ := h
  exact ⟨m + n, by simp⟩
theorem Drew.drew {w w' : World} (h : Drew w w') : Drew w w'.drew := h.drewN 1
theorem Drew.trans {a b c : World} (h : Drew a b) (k : Drew b c) : Drew a c := by
  obtain ⟨m, rfl⟩ := k
  exact h.drewN m

theorem info_int : (Try.prog.info? 3).map (fun i => (i.zero, i.size, i.bytes)) = some (some (.int .i64 0), 1, 8) := by kernel_rfl

/-- The slice value v is the call's own (its block lies from lo on), and holds just the list xs. -/
def OInts (w : World) (lo : Nat) (v : Value) (n : Nat) (xs : List Int) : Prop :=
  n ≤ 1099511627776 ∧ w.ownsRow lo 3 1 v n (xs.map (Value.int .i64))

theorem own_keep {w w' : World} {lo e size n : Nat} {v : Value} {xs : List Value} (h : w.ownsRow lo e size v n xs) (hb : Below w.heap.size w w') : w'.ownsRow lo e size v n xs := by
  refine ⟨h.1, ?_⟩
  rcases h.2 with h2 | ⟨g, cap, cur, hv, hg, hh, r⟩
  · exact .inl h2
  · refine .inr ⟨g, cap, cur, hv, hg, ?_, r⟩
    rw [hb.block g (Array.getElem?_eq_some_iff.1 hh).1]; exact hh

section
variable {w w' : World} {lo n : Nat} {v : Value} {xs : List Int}
theorem OInts.len (h : OInts w lo v n xs) : xs.length = n := by simpa using h.2.1
theorem OInts.keep (h : OInts w lo v n xs) (hb : Below w.heap.size w w') : OInts w' lo v n xs := ⟨h.1, own_keep h.2 hb⟩
theorem OInts.grown {row : Option Nat} (h : OInts w lo v n xs) (hg : w.grownBy w' row) (hne : v.ownBlock = none ∨ v.ownBlock ≠ row) : OInts w' lo v n xs := ⟨h.1, h.2.kept hg hne⟩
theorem OInts.alloc (h : OInts w lo v n xs) (o : Obj) : OInts (w.alloc o) lo v n xs := ⟨h.1, h.2.alloc o⟩
theorem OInts.drewN (h : OInts w lo v n xs) (k : Nat) : OInts (w.drewN k) lo v n xs := h
theorem OInts.mono {lo' : Nat} (h : OInts w lo v n xs) (hl : lo' ≤ lo) : OInts w lo' v n xs := by
  refine ⟨h.1, h.2.1, ?_⟩
  rcases h.2.2 with h2 | ⟨g, cap, cur, hv, hg, r⟩
  · exact .inl h2
  · exact .inr ⟨g, cap, cur, hv, Nat.le_trans hl hg, r⟩
/-- nil, or a slice at the head of a block. -/
theorem OInts.form (h : OInts w lo v n xs) : ∃ ao cap, v = .slice ao n cap ∧ Ints w ao n xs := by
  have hl := h.len
  rcases h.2.2 with ⟨rfl, rfl⟩ | ⟨g, cap, cur, rfl, hg, hh, hnc, _, _, ht⟩
  · exact ⟨none, 0, rfl, hl, h.1, fun i hi => by omega⟩
  · refine ⟨some ⟨g, 0, none⟩, cap, rfl, hl, h.1, fun i hi => ⟨g, 0, rfl, ?_⟩⟩
    have hc := h.2.cells (g := g) rfl i (.int .i64 (xs.getD i 0)) (by simp [List.getD, hi])
    rw [Addr.add_lit] at hc
    simpa using hc
end

section
variable {w w' : World} {lo g n cap : Nat} {xs : List Int}
theorem OInts.ints (h : OInts w lo (.slice (some ⟨g, 0, none⟩) n cap) n xs) : Ints w (some ⟨g, 0, none⟩) n xs := by
  obtain ⟨ao, c, e, hi⟩ := h.form
  injection e with e1 e2 e3
  subst e1
  exact hi
theorem OInts.lt (h : OInts w lo (.slice (some ⟨g, 0, none⟩) n cap) n xs) : lo ≤ g ∧ g < w.heap.size := h.2.lt g rfl
theorem OInts.cell (h : OInts w lo (.slice (some ⟨g, 0, none⟩) n cap) n xs) (k : Nat) (hk : k < n) : w.cell? ⟨g, k, none⟩ = some (.int .i64 (xs.getD k 0)) := by
  have hl := h.len
  obtain ⟨b, o, e, hc⟩ := h.ints.2.2 k (by omega)
  injection e with e
  injection e with e1 e2
  subst e1
  subst e2
  simpa using hc
theorem OInts.frozen (h : OInts w lo (.slice (some ⟨g, 0, none⟩) n cap) n xs) (k : Nat) : w.frozen? ⟨g, k, none⟩ = false := h.2.frozenAt k
theorem OInts.set (h : OInts w lo (.slice (some ⟨g, 0, none⟩) n cap) n xs) (k : Nat) (x : Int) : OInts (w.setCell ⟨g, k, none⟩ (.int .i64 x)) lo (.slice (some ⟨g, 0, none⟩) n cap) n (xs.set k x) := by
  refine ⟨h.1, ?_⟩
  rw [List.map_set]
  exact (h.2.stored k _).1
end

/-- What 'make([]int, n)' leaves. -/
theorem OInts.made (w : World) (n : Nat) (hn : n ≤ 1099511627776) : OInts (w.alloc (.cells (madeCells #[.int .i64 0] n) 3)) w.heap.size (.slice (some ⟨w.heap.size, 0, none⟩) n n) n (List.replicate n 0) := by
  refine ⟨hn, ?_⟩
  have h := World.ownsRow_lit (base := w.heap.size) (e := 3) (size := 1) w (madeCells #[.int .i64 0] n) n (Nat.le_refl _) (by unfold maxLen; omega) (by simp [madeCells])
  rw [toList_madeCells_one] at h
  simpa using h

theorem make_ints (n : Nat) (hn : n ≤ 1099511627776) (w : World) :
    (Instr.makeSlice 24 (.int .i64 (n : Int)) (.int .i64 (n : Int))).run Try.prog w = .ok (.slice (some ⟨w.heap.size, 0, none⟩) n n) (w.alloc (.cells (madeCells #[.int .i64 0] n) 3)) :=
  run_make_row' (P := Try.prog) 24 3 (.int .i64 0) 8 Try.underlying24 info_int rfl .i64 .i64 n (by omega) (by omega) w

theorem drop_of_get {α : Type} {xs : List α} {k : Nat} {x : α} (h : xs[k]? = some x) : xs.drop k = x :: xs.drop (k + 1) := by
  obtain ⟨hk, rfl⟩ := List.getElem?_eq_some_iff.1 h
  exact List.drop_eq_getElem_cons hk

theorem Ints.at_ {w : World} {ao : Option Addr} {n k : Nat} {xs : List Int} (h : Ints w ao n xs) (hk : k < n) :
    ∃ b o x, ao = some ⟨b, o, none⟩ ∧ w.cell? ⟨b, o + k, none⟩ = some (.int .i64 x) ∧ Hid (xs[k]? = some x) := by
  have hl : k < xs.length := by rw [h.1]; exact hk
  obtain ⟨b, o, e, hc⟩ := h.2.2 k hl
  exact ⟨b, o, xs.getD k 0, e, hc, by show xs[k]? = some _; simp [List.getD, hl]⟩

section
variable {P : Program} {f : FuncId} {args : Array Value} {w : World} {a n : Nat} {v : Value}
theorem quiet_D (h : Calls P f args (w.drewN n) fun e w' => e = .returned v ∧ Drew (w.drewN n) w') : Calls P f args (w.drewN n) fun e w'' => e = .returned v ∧ ∃ m, w'' = w.drewN m :=
  h.mono fun _ _ ⟨he, m, hm⟩ => ⟨he, n + m, by rw [hm, World.drewN_drewN]⟩
theorem quiet_Da (h : Calls P f args (w.drewN (a + n)) fun e w' => e = .returned v ∧ Drew (w.drewN (a + n)) w') : Calls P f args (w.drewN (a + n)) fun e w'' => e = .returned v ∧ ∃ m, w'' = w.drewN (a + m) :=
  h.mono fun _ _ ⟨he, m, hm⟩ => ⟨he, n + m, by rw [hm, World.drewN_drewN, Nat.add_assoc]⟩
theorem quiet_L (h : Calls P f args (w.drewN n) fun e w' => e = .returned v ∧ w.drewN n = w') : Calls P f args (w.drewN n) fun e w'' => e = .returned v ∧ ∃ m, w'' = w.drewN m :=
  h.mono fun _ _ ⟨he, hm⟩ => ⟨he, n, hm.symm⟩
theorem quiet_La (h : Calls P f args (w.drewN (a + n)) fun e w' => e = .returned v ∧ w.drewN (a + n) = w') : Calls P f args (w.drewN (a + n)) fun e w'' => e = .returned v ∧ ∃ m, w'' = w.drewN (a + m) :=
  h.mono fun _ _ ⟨he, hm⟩ => ⟨he, n, hm.symm⟩
end

theorem step2 {a b c : World} (h : Below a.heap.size a b) (k : Below b.heap.size b c) : Below a.heap.size a c := h.trans (k.mono h.size)
section
variable {P : Program} {f : FuncId} {args : Array Value} {w : World} {v : Value}
theorem ofL (h : Calls P f args w fun e w' => e = .returned v ∧ w = w') : Calls P f args w fun e w' => e = .returned v ∧ Below w.heap.size w w' :=
  h.mono fun _ _ ⟨he, hw⟩ => ⟨he, by subst hw; exact Below.refl _ _⟩
theorem ofD (h : Calls P f args w fun e w' => e = .returned v ∧ Drew w w') : Calls P f args w fun e w' => e = .returned v ∧ Below w.heap.size w w' :=
  h.mono fun _ _ ⟨he, hw⟩ => ⟨he, hw.below _⟩
theorem ofB (h : Calls P f args w fun e w' => e = .returned v ∧ Below w.heap.size w w') : Calls P f args w fun e w' => e = .returned v ∧ Below w.heap.size w w' := h
end
end Go.Proofs.Ytlhognagaknhcaa
