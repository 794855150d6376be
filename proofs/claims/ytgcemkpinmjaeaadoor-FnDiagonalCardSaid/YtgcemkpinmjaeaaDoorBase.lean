/- Base: parts of the proofs of this seat: Mem Mem2 Mem3 PushInt Push Steps PushOne PushAt Fill One SliceOps ReadInts Marks Since L1In TabIn WDot. -/
import Derived.WalkKit
import Derived.WalkSpells
import Derived.WalkLawsBesides
import Derived.BigQuiet
import Derived.Deep.QuietTactic
import Derived.Deep.Draws
import Derived.Deep.OwnRows
import Derived.Deep.DeepCutAuto
import Derived.Deep.RegionHeld3
import Derived.Lib.Hide
import Derived.Test.YtgcemkpinmjaeaaDoorProg
import Derived.Deep.RegionLaw
import Derived.Maps.AppendAt
namespace Go.Proofs.YtgcemkpinmjaeaaDoor
open Go.RowKit
set_option linter.all false

/-- The slice value '.slice ao n cap' reads in w as the list xs. -/
def Ints (w : World) (ao : Option Addr) (n : Nat) (xs : List Int) : Prop :=
  xs.length = n ∧ n ≤ 1099511627776 ∧ ∀ i, i < xs.length → ∃ b o, ao = some ⟨b, o, none⟩ ∧ w.cell? ⟨b, o + i, none⟩ = some (.int .i64 (xs.getD i 0))

theorem Ints.keep {w w' : World} {ao : Option Addr} {n : Nat} {xs : List Int} (h : Ints w ao n xs) (hb : Below w.heap.size w w') : Ints w' ao n xs := by
  refine ⟨h.1, h.2.1, fun i hi => ?_⟩
  obtain ⟨b, o, e, hc⟩ := h.2.2 i hi
  exact ⟨b, o, e, (hb.cell (p := ⟨b, o + i, none⟩) (World.block_lt_of_cell? w _ hc)).trans hc⟩

theorem Ints.drewN {w : World} {ao : Option Addr} {n : Nat} {xs : List Int} (h : Ints w ao n xs) (k : Nat) : Ints (w.drewN k) ao n xs := h

theorem drop_all {α : Type} (xs : List α) (k : Nat) (h : xs.length ≤ k) : xs.drop k = [] := List.drop_eq_nil_of_le h

theorem below_drewN {B : Nat} {a w : World} (h : Below B a w) (n : Nat) : Below B a (w.drewN n) := ⟨h.os, h.tape, h.output, h.size, h.block⟩

/-- Only the tape has moved on. -/
def Drew (w w' : World) : Prop := ∃ m, w' = w.drewN m
theorem Drew.refl (w : World) : Drew w w := ⟨0, rfl⟩
theorem Drew.below {w w' : World} (h : Drew w w') (B : Nat) : Below B w w' := by
  obtain ⟨m, rfl⟩ := h
  exact below_drewN (Below.refl B w) m

/-- Two lists are one. -/
def eqL {α : Type} [DecidableEq α] (xs ys : List α) : Bool := decide (xs = ys)
theorem eqL_self {α : Type} [DecidableEq α] (xs : List α) : eqL xs xs = true := by simp [eqL]
theorem eqL_true {α : Type} [DecidableEq α] {xs ys : List α} (h : xs = ys) : eqL xs ys = true := by simp [eqL, h]
theorem eqL_false {α : Type} [DecidableEq α] {xs ys : List α} (h : xs ≠ ys) : eqL xs ys = false := by simp [eqL, h]
theorem eqL_len {α : Type} [DecidableEq α] {xs ys : List α} (h : xs.length ≠ ys.length) : eqL xs ys = false := eqL_false (by rintro rfl; exact h rfl)
theorem eqL_nil {α : Type} [DecidableEq α] {xs ys : List α} {k : Nat} (hx : xs.length ≤ k) (hy : ys.length ≤ k) : eqL (xs.drop k) (ys.drop k) = true := by
  rw [List.drop_eq_nil_of_le hx, List.drop_eq_nil_of_le hy]; simp [eqL]
theorem eqL_step {α : Type} [DecidableEq α] {xs ys : List α} {k : Nat} (hx : k < xs.length) (hy : k < ys.length) {b : Bool} (h : eqL (xs.drop k) (ys.drop k) = b) :
    (xs[k] = ys[k] → eqL (xs.drop (k + 1)) (ys.drop (k + 1)) = b) ∧ (xs[k] ≠ ys[k] → b = false) := by
  rw [List.drop_eq_getElem_cons hx, List.drop_eq_getElem_cons hy] at h
  simp only [eqL] at h ⊢
  subst h
  generalize List.drop (k + 1) xs = p
  generalize List.drop (k + 1) ys = q
  constructor
  · intro e; rw [e]; simp
  · intro e; simp [e]

theorem ret_int {k : IntKind} {a b : Int} (h : a = b) : Ending.returned (.int k a) = .returned (.int k b) := by rw [h]
theorem ret_bool {a b : Bool} (h : a = b) : Ending.returned (.bool a) = .returned (.bool b) := by rw [h]
theorem Drew.mk (w : World) (m : Nat) : Drew w (w.drewN m) := ⟨m, rfl⟩
theorem Drew.drewN {w w' : World} (h : Drew w w') (n : Nat) : Drew w (w'.drewN n) := by
  obtain ⟨m, rfl⟩ := h
  exact ⟨m + n, by simp⟩
theorem Drew.drew {w w' : World} (h : Drew w w') : Drew w w'.drew := h.drewN 1
theorem Drew.trans {a b c : World} (h : Drew a b) (k : Drew b c) : Drew a c := by
  obtain ⟨m, rfl⟩ := k
  exact h.drewN m

theorem info_int : (Tryd.prog.info? 3).map (fun i => (i.zero, i.size, i.bytes)) = some (some (.int .i64 0), 1, 8) := by kernel_rfl

/-- The slice value v is the call's own (its block lies from lo on), and holds just the list xs. -/
def OInts (w : World) (lo : Nat) (v : Value) (n : Nat) (xs : List Int) : Prop :=
  n ≤ 1099511627776 ∧ w.ownsRow lo 3 1 v n (xs.map (Value.int .i64))

theorem own_keep {w w' : World} {lo e size n : Nat} {v : Value} {xs : List Value} (h : w.ownsRow lo e size v n xs) (hb : Below w.heap.size w w') : w'.ownsRow lo e size v n xs := by
  refine ⟨h.1, ?_⟩
  rcases h.2 with h2 | ⟨g, cap, cur, hv, hg, hh, r⟩
  · exact .inl h2
  · refine .inr ⟨g, cap, cur, hv, hg, ?_, r⟩
    rw [hb.block g (Array.getElem?_eq_some_iff.1 hh).1]; exact hh

section
variable {w w' : World} {lo n : Nat} {v : Value} {xs : List Int}
theorem OInts.len (h : OInts w lo v n xs) : xs.length = n := by simpa using h.2.1
theorem OInts.keep (h : OInts w lo v n xs) (hb : Below w.heap.size w w') : OInts w' lo v n xs := ⟨h.1, own_keep h.2 hb⟩
theorem OInts.grown {row : Option Nat} (h : OInts w lo v n xs) (hg : w.grownBy w' row) (hne : v.ownBlock = none ∨ v.ownBlock ≠ row) : OInts w' lo v n xs := ⟨h.1, h.2.kept hg hne⟩
theorem OInts.alloc (h : OInts w lo v n xs) (o : Obj) : OInts (w.alloc o) lo v n xs := ⟨h.1, h.2.alloc o⟩
theorem OInts.drewN (h : OInts w lo v n xs) (k : Nat) : OInts (w.drewN k) lo v n xs := h
theorem OInts.mono {lo' : Nat} (h : OInts w lo v n xs) (hl : lo' ≤ lo) : OInts w lo' v n xs := by
  refine ⟨h.1, h.2.1, ?_⟩
  rcases h.2.2 with h2 | ⟨g, cap, cur, hv, hg, r⟩
  · exact .inl h2
  · exact .inr ⟨g, cap, cur, hv, Nat.le_trans hl hg, r⟩
/-- nil, or a slice at the head of a block. -/
theorem OInts.form (h : OInts w lo v n xs) : ∃ ao cap, v = .slice ao n cap ∧ Ints w ao n xs := by
  have hl := h.len
  rcases h.2.2 with ⟨rfl, rfl⟩ | ⟨g, cap, cur, rfl, hg, hh, hnc, _, _, ht⟩
  · exact ⟨none, 0, rfl, hl, h.1, fun i hi => by omega⟩
  · refine ⟨some ⟨g, 0, none⟩, cap, rfl, hl, h.1, fun i hi => ⟨g, 0, rfl, ?_⟩⟩
    have hc := h.2.cells (g := g) rfl i (.int .i64 (xs.getD i 0)) (by simp [List.getD, hi])
    rw [Addr.add_lit] at hc
    simpa using hc
end

section
variable {w w' : World} {lo g n cap : Nat} {xs : List Int}
theorem OInts.ints (h : OInts w lo (.slice (some ⟨g, 0, none⟩) n cap) n xs) : Ints w (some ⟨g, 0, none⟩) n xs := by
  obtain ⟨ao, c, e, hi⟩ := h.form
  injection e with e1 e2 e3
  subst e1
  exact hi
theorem OInts.lt (h : OInts w lo (.slice (some ⟨g, 0, none⟩) n cap) n xs) : lo ≤ g ∧ g < w.heap.size := h.2.lt g rfl
theorem OInts.cell (h : OInts w lo (.slice (some ⟨g, 0, none⟩) n cap) n xs) (k : Nat) (hk : k < n) : w.cell? ⟨g, k, none⟩ = some (.int .i64 (xs.getD k 0)) := by
  have hl := h.len
  obtain ⟨b, o, e, hc⟩ := h.ints.2.2 k (by omega)
  injection e with e
  injection e with e1 e2
  subst e1
  subst e2
  simpa using hc
theorem OInts.frozen (h : OInts w lo (.slice (some ⟨g, 0, none⟩) n cap) n xs) (k : Nat) : w.frozen? ⟨g, k, none⟩ = false := h.2.frozenAt k
theorem OInts.set (h : OInts w lo (.slice (some ⟨g, 0, none⟩) n cap) n xs) (k : Nat) (x : Int) : OInts (w.setCell ⟨g, k, none⟩ (.int .i64 x)) lo (.slice (some ⟨g, 0, none⟩) n cap) n (xs.set k x) := by
  refine ⟨h.1, ?_⟩
  rw [List.map_set]
  exact (h.2.stored k _).1
end

/-- What 'make([]int, n)' leaves. -/
theorem OInts.made (w : World) (n : Nat) (hn : n ≤ 1099511627776) : OInts (w.alloc (.cells (madeCells #[.int .i64 0] n) 3)) w.heap.size (.slice (some ⟨w.heap.size, 0, none⟩) n n) n (List.replicate n 0) := by
  refine ⟨hn, ?_⟩
  have h := World.ownsRow_lit (base := w.heap.size) (e := 3) (size := 1) w (madeCells #[.int .i64 0] n) n (Nat.le_refl _) (by unfold maxLen; omega) (by simp [madeCells])
  rw [toList_madeCells_one] at h
  simpa using h

theorem make_ints (n : Nat) (hn : n ≤ 1099511627776) (w : World) :
    (Instr.makeSlice 26 (.int .i64 (n : Int)) (.int .i64 (n : Int))).run Tryd.prog w = .ok (.slice (some ⟨w.heap.size, 0, none⟩) n n) (w.alloc (.cells (madeCells #[.int .i64 0] n) 3)) :=
  run_make_row' (P := Tryd.prog) 26 3 (.int .i64 0) 8 Tryd.underlying26 info_int rfl .i64 .i64 n (by omega) (by omega) w

theorem drop_of_get {α : Type} {xs : List α} {k : Nat} {x : α} (h : xs[k]? = some x) : xs.drop k = x :: xs.drop (k + 1) := by
  obtain ⟨hk, rfl⟩ := List.getElem?_eq_some_iff.1 h
  exact List.drop_eq_getElem_cons hk

theorem Ints.at_ {w : World} {ao : Option Addr} {n k : Nat} {xs : List Int} (h : Ints w ao n xs) (hk : k < n) :
    ∃ b o x, ao = some ⟨b, o, none⟩ ∧ w.cell? ⟨b, o + k, none⟩ = some (.int .i64 x) ∧ Hid (xs[k]? = some x) := by
  have hl : k < xs.length := by rw [h.1]; exact hk
  obtain ⟨b, o, e, hc⟩ := h.2.2 k hl
  exact ⟨b, o, xs.getD k 0, e, hc, by show xs[k]? = some _; simp [List.getD, hl]⟩

section
variable {P : Program} {f : FuncId} {args : Array Value} {w : World} {a n : Nat} {v : Value}
theorem quiet_D (h : Calls P f args (w.drewN n) fun e w' => e = .returned v ∧ Drew (w.drewN n) w') : Calls P f args (w.drewN n) fun e w'' => e = .returned v ∧ ∃ m, w'' = w.drewN m :=
  h.mono fun _ _ ⟨he, m, hm⟩ => ⟨he, n + m, by rw [hm, World.drewN_drewN]⟩
theorem quiet_Da (h : Calls P f args (w.drewN (a + n)) fun e w' => e = .returned v ∧ Drew (w.drewN (a + n)) w') : Calls P f args (w.drewN (a + n)) fun e w'' => e = .returned v ∧ ∃ m, w'' = w.drewN (a + m) :=
  h.mono fun _ _ ⟨he, m, hm⟩ => ⟨he, n + m, by rw [hm, World.drewN_drewN, Nat.add_assoc]⟩
theorem quiet_L (h : Calls P f args (w.drewN n) fun e w' => e = .returned v ∧ w.drewN n = w') : Calls P f args (w.drewN n) fun e w'' => e = .returned v ∧ ∃ m, w'' = w.drewN m :=
  h.mono fun _ _ ⟨he, hm⟩ => ⟨he, n, hm.symm⟩
theorem quiet_La (h : Calls P f args (w.drewN (a + n)) fun e w' => e = .returned v ∧ w.drewN (a + n) = w') : Calls P f args (w.drewN (a + n)) fun e w'' => e = .returned v ∧ ∃ m, w'' = w.drewN (a + m) :=
  h.mono fun _ _ ⟨he, hm⟩ => ⟨he, n, hm.symm⟩
end

theorem step2 {a b c : World} (h : Below a.heap.size a b) (k : Below b.heap.size b c) : Below a.heap.size a c := h.trans (k.mono h.size)
section
variable {P : Program} {f : FuncId} {args : Array Value} {w : World} {v : Value}
theorem ofL (h : Calls P f args w fun e w' => e = .returned v ∧ w = w') : Calls P f args w fun e w' => e = .returned v ∧ Below w.heap.size w w' :=
  h.mono fun _ _ ⟨he, hw⟩ => ⟨he, by subst hw; exact Below.refl _ _⟩
theorem ofD (h : Calls P f args w fun e w' => e = .returned v ∧ Drew w w') : Calls P f args w fun e w' => e = .returned v ∧ Below w.heap.size w w' :=
  h.mono fun _ _ ⟨he, hw⟩ => ⟨he, hw.below _⟩
theorem ofB (h : Calls P f args w fun e w' => e = .returned v ∧ Below w.heap.size w w') : Calls P f args w fun e w' => e = .returned v ∧ Below w.heap.size w w' := h
end
end Go.Proofs.YtgcemkpinmjaeaaDoor

namespace Go.Proofs.YtgcemkpinmjaeaaDoor
open Go.RowKit
set_option linter.all false
theorem info_ints : (Tryd.prog.info? 26).map (fun i => (i.zero, i.size, i.bytes)) = some (some (.slice none 0 0), 1, 24) := by kernel_rfl

/-- The slice value '.slice ao n cap' reads in w as the list xss of lists. -/
def Intss (w : World) (ao : Option Addr) (n : Nat) (xss : List (List Int)) : Prop :=
  xss.length = n ∧ n ≤ 1099511627776 ∧ ∀ i r, xss[i]? = some r → ∃ b o ai ci, ao = some ⟨b, o, none⟩ ∧ w.cell? ⟨b, o + i, none⟩ = some (.slice ai r.length ci) ∧ Ints w ai r.length r ∧ r.length ≤ ci

theorem Intss.keep {w w' : World} {ao : Option Addr} {n : Nat} {xss : List (List Int)} (h : Intss w ao n xss) (hb : Below w.heap.size w w') : Intss w' ao n xss := by
  refine ⟨h.1, h.2.1, fun i r hi => ?_⟩
  obtain ⟨b, o, ai, ci, e, hc, hr, hl⟩ := h.2.2 i r hi
  exact ⟨b, o, ai, ci, e, (hb.cell (p := ⟨b, o + i, none⟩) (World.block_lt_of_cell? w _ hc)).trans hc, hr.keep hb, hl⟩

theorem Intss.drewN {w : World} {ao : Option Addr} {n : Nat} {xss : List (List Int)} (h : Intss w ao n xss) (k : Nat) : Intss (w.drewN k) ao n xss := h

theorem Intss.at_ {w : World} {ao : Option Addr} {n k : Nat} {xss : List (List Int)} (h : Intss w ao n xss) (hk : k < n) :
    ∃ b o ai ci r, ao = some ⟨b, o, none⟩ ∧ w.cell? ⟨b, o + k, none⟩ = some (.slice ai r.length ci) ∧ Ints w ai r.length r ∧ Hid (xss[k]? = some r) := by
  have hl : k < xss.length := by rw [h.1]; exact hk
  obtain ⟨b, o, ai, ci, e, hc, hr, _⟩ := h.2.2 k xss[k] (List.getElem?_eq_getElem hl)
  exact ⟨b, o, ai, ci, _, e, hc, hr, List.getElem?_eq_getElem hl⟩
theorem Intss.cap_ {w : World} {ao : Option Addr} {n k : Nat} {xss : List (List Int)} (h : Intss w ao n xss) (hk : k < n) :
    ∃ b o ai ci r, ao = some ⟨b, o, none⟩ ∧ w.cell? ⟨b, o + k, none⟩ = some (.slice ai r.length ci) ∧ Ints w ai r.length r ∧ Hid (xss[k]? = some r) ∧ r.length ≤ ci := by
  have hl : k < xss.length := by rw [h.1]; exact hk
  obtain ⟨b, o, ai, ci, e, hc, hr, hl2⟩ := h.2.2 k xss[k] (List.getElem?_eq_getElem hl)
  exact ⟨b, o, ai, ci, _, e, hc, hr, List.getElem?_eq_getElem hl, hl2⟩

theorem OInts.capLe {w : World} {lo n m cap : Nat} {v : Value} {ao : Option Addr} {xs : List Int} (h : OInts w lo v n xs) (e : v = .slice ao m cap) : n ≤ cap := by
  rcases h.2.2 with ⟨rfl, rfl⟩ | ⟨g, c, cur, rfl, _, _, hnc, _⟩
  · exact Nat.zero_le _
  · injection e with _ _ e3
    omega

/-- The slice value v and its rows are the call's own, and hold just xss; no two rows share a block. -/
def OIntss (w : World) (lo : Nat) (v : Value) (n : Nat) (xss : List (List Int)) : Prop :=
  n ≤ 1099511627776 ∧ xss.length = n ∧ ∃ vs : List Value, w.ownsRow lo 26 1 v n vs ∧
    (∀ (i : Nat) (u : Value) (r : List Int), vs[i]? = some u → xss[i]? = some r → OInts w lo u r.length r) ∧
    (∀ (i j : Nat) (u u' : Value), i ≠ j → vs[i]? = some u → vs[j]? = some u' → u.ownBlock = none ∨ u.ownBlock ≠ u'.ownBlock)

section
variable {w w' : World} {lo n : Nat} {v : Value} {xss : List (List Int)}
theorem OIntss.len (h : OIntss w lo v n xss) : xss.length = n := h.2.1
theorem OIntss.keep (h : OIntss w lo v n xss) (hb : Below w.heap.size w w') : OIntss w' lo v n xss := by
  obtain ⟨h1, h2, vs, ho, hr, hd⟩ := h
  exact ⟨h1, h2, vs, own_keep ho hb, fun i u r hu hr' => (hr i u r hu hr').keep hb, hd⟩
theorem OIntss.alloc (h : OIntss w lo v n xss) (o : Obj) : OIntss (w.alloc o) lo v n xss := h.keep ((Below.refl _ _).alloc (Nat.le_refl _) o)
theorem OIntss.drewN (h : OIntss w lo v n xss) (k : Nat) : OIntss (w.drewN k) lo v n xss := h
theorem OIntss.mono {lo' : Nat} (h : OIntss w lo v n xss) (hl : lo' ≤ lo) : OIntss w lo' v n xss := by
  obtain ⟨h1, h2, vs, ho, hr, hd⟩ := h
  refine ⟨h1, h2, vs, ⟨ho.1, ?_⟩, fun i u r hu hr' => (hr i u r hu hr').mono hl, hd⟩
  rcases ho.2 with h2 | ⟨g, cap, cur, hv, hg, r⟩
  · exact .inl h2
  · exact .inr ⟨g, cap, cur, hv, Nat.le_trans hl hg, r⟩
theorem OIntss.form (h : OIntss w lo v n xss) : ∃ ao cap, v = .slice ao n cap ∧ Intss w ao n xss := by
  obtain ⟨h1, h2, vs, ho, hr, hd⟩ := h
  have hvl : vs.length = n := by simpa using ho.1
  rcases ho.2 with ⟨rfl, rfl⟩ | ⟨g, cap, cur, rfl, hg, hh, hnc, _, _, ht⟩
  · exact ⟨none, 0, rfl, h2, h1, fun i r hi => by rw [List.eq_nil_of_length_eq_zero h2] at hi; simp at hi⟩
  · refine ⟨some ⟨g, 0, none⟩, cap, rfl, h2, h1, fun i r hi => ?_⟩
    have hil : i < n := by rw [← h2]; exact (List.getElem?_eq_some_iff.1 hi).1
    have hv : vs[i]? = some vs[i] := List.getElem?_eq_getElem (by omega)
    obtain ⟨ai, ci, e, hints⟩ := (hr i _ r hv hi).form
    have hcap := (hr i _ r hv hi).capLe e
    have hc := ho.cells (g := g) rfl i _ hv
    rw [Addr.add_lit, e] at hc
    exact ⟨g, 0, ai, ci, rfl, hc, hints, hcap⟩
end

section
variable {w w' : World} {lo g n cap : Nat} {xss : List (List Int)}
theorem OIntss.intss (h : OIntss w lo (.slice (some ⟨g, 0, none⟩) n cap) n xss) : Intss w (some ⟨g, 0, none⟩) n xss := by
  obtain ⟨ao, c, e, hi⟩ := h.form
  injection e with e1 e2 e3
  subst e1
  exact hi
theorem OIntss.lt (h : OIntss w lo (.slice (some ⟨g, 0, none⟩) n cap) n xss) : lo ≤ g ∧ g < w.heap.size := by
  obtain ⟨_, _, vs, ho, _⟩ := h
  exact ho.lt g rfl
theorem OIntss.frozen (h : OIntss w lo (.slice (some ⟨g, 0, none⟩) n cap) n xss) (k : Nat) : w.frozen? ⟨g, k, none⟩ = false := by
  obtain ⟨_, _, vs, ho, _⟩ := h
  exact ho.frozenAt k
/-- The cell of a row. -/
theorem OIntss.cell (h : OIntss w lo (.slice (some ⟨g, 0, none⟩) n cap) n xss) (k : Nat) (hk : k < n) :
    ∃ u r, w.cell? ⟨g, k, none⟩ = some u ∧ xss[k]? = some r ∧ OInts w lo u r.length r ∧ u.ownBlock ≠ some g := by
  obtain ⟨h1, h2, vs, ho, hr, hd⟩ := h
  have hvl : vs.length = n := by simpa using ho.1
  have hv : vs[k]? = some vs[k] := List.getElem?_eq_getElem (by omega)
  have hx : xss[k]? = some xss[k] := List.getElem?_eq_getElem (by omega)
  have hc := ho.cells (g := g) rfl k _ hv
  rw [Addr.add_lit] at hc
  refine ⟨_, _, by simpa using hc, hx, hr k _ _ hv hx, ?_⟩
  intro e
  rcases (hr k _ _ hv hx).2.2 with ⟨e2, _⟩ | ⟨g', cap', cur', e2, _, hh, _⟩
  · rw [e2] at e; simp [Value.ownBlock] at e
  · rw [e2] at e
    simp [Value.ownBlock] at e
    subst e
    rcases ho.2 with ⟨e3, _⟩ | ⟨g3, cap3, cur3, e3, _, hh3, _⟩
    · simp at e3
    · simp only [Value.slice.injEq, Option.some.injEq, Addr.mk.injEq, and_true, true_and] at e3
      obtain ⟨rfl, rfl⟩ := e3
      rw [hh] at hh3
      simp at hh3
/-- A row of the call's own is stored; it lies in a block of its own. -/
theorem OIntss.set (h : OIntss w lo (.slice (some ⟨g, 0, none⟩) n cap) n xss) (k : Nat) {u : Value} {r : List Int} (hu : OInts w lo u r.length r)
    (hnew : ∀ b, u.ownBlock = some b → ∀ i u' r', i ≠ k → w.cell? ⟨g, i, none⟩ = some u' → xss[i]? = some r' → u'.ownBlock ≠ some b) :
    OIntss (w.setCell ⟨g, k, none⟩ u) lo (.slice (some ⟨g, 0, none⟩) n cap) n (xss.set k r) := by
  obtain ⟨h1, h2, vs, ho, hr, hd⟩ := h
  have hvl : vs.length = n := by simpa using ho.1
  have hst := ho.stored k u
  have hg : ∀ {u' : Value} {r' : List Int}, OInts w lo u' r'.length r' → u'.ownBlock = none ∨ u'.ownBlock ≠ some g := by
    intro u' r' ho'
    rcases ho'.2.2 with ⟨rfl, _⟩ | ⟨g', cap', cur', rfl, _, hh, _⟩
    · exact .inl rfl
    · right
      intro e
      simp [Value.ownBlock] at e
      subst e
      rcases ho.2 with ⟨e3, _⟩ | ⟨g3, cap3, cur3, e3, _, hh3, _⟩
      · simp at e3
      · simp only [Value.slice.injEq, Option.some.injEq, Addr.mk.injEq, and_true, true_and] at e3
        obtain ⟨rfl, rfl⟩ := e3
        rw [hh] at hh3
        simp at hh3
  have hcell : ∀ i u', vs[i]? = some u' → w.cell? ⟨g, i, none⟩ = some u' := by
    intro i u' hv
    have hc := ho.cells (g := g) rfl i _ hv
    rw [Addr.add_lit] at hc
    simpa using hc
  refine ⟨h1, by simpa using h2, vs.set k u, hst.1, ?_, ?_⟩
  · intro i u' r' hv hx
    rw [List.getElem?_set] at hv hx
    by_cases e : k = i
    · rw [if_pos e] at hv hx
      split at hv <;> split at hx <;> simp_all
      obtain ⟨rfl⟩ := hv
      obtain ⟨rfl⟩ := hx
      exact hu.grown hst.2 (hg hu)
    · rw [if_neg e] at hv hx
      exact (hr i u' r' hv hx).grown hst.2 (hg (hr i u' r' hv hx))
  · have key : ∀ i u', i ≠ k → vs[i]? = some u' → u.ownBlock = none ∨ u.ownBlock ≠ u'.ownBlock := by
      intro i u' hik hv
      cases hb : u.ownBlock with
      | none => exact .inl rfl
      | some b =>
        right
        have hi : i < xss.length := by rw [h2, ← hvl]; exact (List.getElem?_eq_some_iff.1 hv).1
        exact fun e => hnew b hb i u' _ hik (hcell i u' hv) (List.getElem?_eq_getElem hi) e.symm
    intro i j u1 u2 hij h3 h4
    rw [List.getElem?_set] at h3 h4
    by_cases ei : k = i
    · rw [if_pos ei] at h3
      rw [if_neg (by omega)] at h4
      split at h3
      · injection h3 with h3
        subst h3
        exact key j u2 (by omega) h4
      · cases h3
    · rw [if_neg ei] at h3
      by_cases ej : k = j
      · rw [if_pos ej] at h4
        split at h4
        · injection h4 with h4
          subst h4
          rcases key i u1 (by omega) h3 with h5 | h5
          · cases hb : u1.ownBlock with
            | none => exact .inl rfl
            | some b => right; rw [h5]; simp
          · cases hb : u1.ownBlock with
            | none => exact .inl rfl
            | some b => right; rw [← hb]; exact fun e => h5 e.symm
        · cases h4
      · rw [if_neg ej] at h4
        exact hd i j u1 u2 hij h3 h4
end

/-- What 'make([][]int, n)' leaves: n nil rows. -/
theorem OIntss.made (w : World) (n : Nat) (hn : n ≤ 1099511627776) : OIntss (w.alloc (.cells (madeCells #[.slice none 0 0] n) 26)) w.heap.size (.slice (some ⟨w.heap.size, 0, none⟩) n n) n (List.replicate n []) := by
  have h := World.ownsRow_lit (base := w.heap.size) (e := 26) (size := 1) w (madeCells #[.slice none 0 0] n) n (Nat.le_refl _) (by unfold maxLen; omega) (by simp [madeCells])
  rw [toList_madeCells_one] at h
  refine ⟨hn, by simp, _, h, ?_, ?_⟩
  · intro i u r hu hr
    have e1 : u = .slice none 0 0 := by rw [List.getElem?_replicate] at hu; split at hu <;> simp_all
    have e2 : r = [] := by rw [List.getElem?_replicate] at hr; split at hr <;> simp_all
    subst e1
    subst e2
    exact ⟨by simp, by simp, .inl ⟨rfl, rfl⟩⟩
  · intro i j u u' _ hu _
    left
    rw [List.getElem?_replicate] at hu
    split at hu
    · injection hu with hu
      subst hu
      rfl
    · cases hu

theorem make_intss (n : Nat) (hn : n ≤ 1099511627776) (w : World) :
    (Instr.makeSlice 24 (.int .i64 (n : Int)) (.int .i64 (n : Int))).run Tryd.prog w = .ok (.slice (some ⟨w.heap.size, 0, none⟩) n n) (w.alloc (.cells (madeCells #[.slice none 0 0] n) 26)) :=
  run_make_row' (P := Tryd.prog) 24 26 (.slice none 0 0) 24 Tryd.underlying24 info_ints rfl .i64 .i64 n (by omega) (by omega) w
end Go.Proofs.YtgcemkpinmjaeaaDoor

namespace Go.Proofs.YtgcemkpinmjaeaaDoor
open Go.RowKit
set_option linter.all false
section
variable {w w' : World} {lo n : Nat} {v u : Value} {xss : List (List Int)} {r : List Int}

/-- Two values of which the blocks differ. -/
def Apart (u v : Value) : Prop := ∀ b, u.ownBlock = some b → v.ownBlock ≠ some b

theorem own_int_ne {lo' m : Nat} {vs : List Value} (hu : OInts w lo u r.length r) (hv : w.ownsRow lo' 26 1 v m vs) : u.ownBlock = none ∨ u.ownBlock ≠ v.ownBlock := by
  rcases hu.2.2 with ⟨rfl, _⟩ | ⟨g, cap, cur, rfl, _, hh, _⟩
  · exact .inl rfl
  · right
    rcases hv.2 with ⟨rfl, _⟩ | ⟨g', cap', cur', rfl, _, hh', _⟩
    · simp [Value.ownBlock]
    · intro e
      simp [Value.ownBlock] at e
      subst e
      rw [hh] at hh'
      simp at hh'

/-- What an append of one row leaves. -/
theorem OIntss.pushed {v' : Value} (h : OIntss w lo v n xss) (hn : n + 1 ≤ 1099511627776) (hu : OInts w lo u r.length r)
    (hfar : ∀ (i : Nat) (u' : Value) (r' : List Int), (∃ vs : List Value, w.ownsRow lo 26 1 v n vs ∧ vs[i]? = some u') → xss[i]? = some r' → OInts w lo u' r'.length r' → Apart u u')
    (hg : w.grownBy w' v.ownBlock) (hown : ∀ vs, w.ownsRow lo 26 1 v n vs → w'.ownsRow lo 26 1 v' (n + 1) (vs ++ [u])) :
    OIntss w' lo v' (n + 1) (xss ++ [r]) := by
  obtain ⟨h1, h2, vs, ho, hr, hd⟩ := h
  have hvl : vs.length = n := by simpa using ho.1
  have key : ∀ (i : Nat) (u' : Value), vs[i]? = some u' → Apart u u' := by
    intro i u' hv
    have hi : i < xss.length := by rw [h2, ← hvl]; exact (List.getElem?_eq_some_iff.1 hv).1
    exact hfar i u' _ ⟨vs, ho, hv⟩ (List.getElem?_eq_getElem hi) (hr i u' _ hv (List.getElem?_eq_getElem hi))
  refine ⟨hn, by simp [h2], vs ++ [u], hown vs ho, ?_, ?_⟩
  · intro i u' r' hv hx
    by_cases hi : i < n
    · rw [List.getElem?_append_left (by omega)] at hv hx
      have := hr i u' r' hv hx
      exact this.grown hg (own_int_ne this ho)
    · rw [List.getElem?_append_right (by omega)] at hv hx
      rw [hvl] at hv
      rw [h2] at hx
      have hz : i - n = 0 := by
        have := (List.getElem?_eq_some_iff.1 hv).1
        simp at this
        omega
      rw [hz] at hv hx
      simp at hv hx
      subst hv
      subst hx
      exact hu.grown hg (own_int_ne hu ho)
  · intro i j u1 u2 hij h3 h4
    by_cases hi : i < n
    · rw [List.getElem?_append_left (by omega)] at h3
      by_cases hj : j < n
      · rw [List.getElem?_append_left (by omega)] at h4
        exact hd i j u1 u2 hij h3 h4
      · rw [List.getElem?_append_right (by omega), hvl] at h4
        have hz : j - n = 0 := by
          have := (List.getElem?_eq_some_iff.1 h4).1
          simp at this
          omega
        rw [hz] at h4
        simp at h4
        subst h4
        cases hb : u1.ownBlock with
        | none => exact .inl rfl
        | some b => right; exact fun e => key i u1 h3 b (by rw [← e]) hb
    · rw [List.getElem?_append_right (by omega), hvl] at h3
      have hz : i - n = 0 := by
        have := (List.getElem?_eq_some_iff.1 h3).1
        simp at this
        omega
      rw [hz] at h3
      simp at h3
      subst h3
      have hj : j < n := by
        have := (List.getElem?_eq_some_iff.1 h4).1
        simp [hvl] at this
        omega
      rw [List.getElem?_append_left (by omega)] at h4
      cases hb : u.ownBlock with
      | none => exact .inl rfl
      | some b => right; exact fun e => key j u2 h4 b hb e.symm

/-- The row lies in a block that is newer than all that was there when the slice was looked at last. -/
theorem far_new {w0 : World} (h : OIntss w0 lo v n xss) (hb : Below w0.heap.size w0 w) (hu : ∀ b, u.ownBlock = some b → w0.heap.size ≤ b) :
    ∀ (i : Nat) (u' : Value) (r' : List Int), (∃ vs : List Value, w.ownsRow lo 26 1 v n vs ∧ vs[i]? = some u') → xss[i]? = some r' → OInts w lo u' r'.length r' → Apart u u' := by
  intro i u' r' ⟨vs, ho, hv⟩ _ _ b hbu hbu'
  obtain ⟨h1, h2, vs0, ho0, hr0, _⟩ := h
  have ho0' := own_keep ho0 hb
  have e : vs = vs0 := by
    rcases ho.2 with ⟨rfl, hn⟩ | ⟨g, cap, cur, rfl, _, hh, _, _, _, ht⟩
    · have l1 := ho.1
      have l2 := ho0.1
      rw [hn, Nat.zero_mul] at l1 l2
      rw [List.eq_nil_of_length_eq_zero l1, List.eq_nil_of_length_eq_zero l2]
    · rcases ho0'.2 with ⟨e, _⟩ | ⟨g', cap', cur', e, _, hh', _, _, _, ht'⟩
      · simp at e
      · simp only [Value.slice.injEq, Option.some.injEq, Addr.mk.injEq, and_true, true_and] at e
        obtain ⟨rfl, rfl⟩ := e
        rw [hh] at hh'
        simp at hh'
        subst hh'
        rw [← ht, ← ht']
  subst e
  have hi : i < xss.length := by rw [h2]; have := (List.getElem?_eq_some_iff.1 hv).1; have := ho0.1; simp at this; omega
  have := (hr0 i u' _ hv (List.getElem?_eq_getElem hi)).2.lt b hbu'
  have := hu b hbu
  omega
end

section
variable {w w' : World} {lo g n cap : Nat} {xss : List (List Int)}
/-- Row k, where it is not empty. -/
theorem OIntss.rowAt (h : OIntss w lo (.slice (some ⟨g, 0, none⟩) n cap) n xss) {k : Nat} {r : List Int} (hk : xss[k]? = some r) (hr : 0 < r.length) :
    ∃ gk ck, w.cell? ⟨g, k, none⟩ = some (.slice (some ⟨gk, 0, none⟩) r.length ck) ∧ OInts w lo (.slice (some ⟨gk, 0, none⟩) r.length ck) r.length r ∧ gk ≠ g ∧ lo ≤ gk := by
  have hkn : k < n := by rw [← h.len]; exact (List.getElem?_eq_some_iff.1 hk).1
  obtain ⟨u, r', hc, hx, ho, hne⟩ := h.cell k hkn
  rw [hk] at hx
  injection hx with hx
  subst hx
  rcases ho.2.2 with ⟨_, hz⟩ | ⟨gk, ck, cur, rfl, hlo, hh, rest⟩
  · omega
  · exact ⟨gk, ck, hc, ⟨ho.1, ho.2.1, .inr ⟨gk, ck, cur, rfl, hlo, hh, rest⟩⟩, fun e => hne (by simp [Value.ownBlock, e]), hlo⟩

/-- A number is stored into row k. -/
theorem OIntss.setIn (h : OIntss w lo (.slice (some ⟨g, 0, none⟩) n cap) n xss) {k : Nat} {r : List Int} (hk : xss[k]? = some r) {gk ck : Nat}
    (hc : w.cell? ⟨g, k, none⟩ = some (.slice (some ⟨gk, 0, none⟩) r.length ck)) (ho : OInts w lo (.slice (some ⟨gk, 0, none⟩) r.length ck) r.length r) (j : Nat) (x : Int) :
    OIntss (w.setCell ⟨gk, j, none⟩ (.int .i64 x)) lo (.slice (some ⟨g, 0, none⟩) n cap) n (xss.set k (r.set j x)) := by
  obtain ⟨h1, h2, vs, hv, hr, hd⟩ := h
  have hvl : vs.length = n := by simpa using hv.1
  have hkn : k < n := by rw [← h2]; exact (List.getElem?_eq_some_iff.1 hk).1
  have hvk : vs[k]? = some (.slice (some ⟨gk, 0, none⟩) r.length ck) := by
    have h3 : vs[k]? = some vs[k] := List.getElem?_eq_getElem (by omega)
    have h4 := hv.cells (g := g) rfl k _ h3
    rw [Addr.add_lit] at h4
    simp at h4
    rw [h4] at hc
    injection hc with hc
    rw [h3, hc]
  have hst := ho.2.stored j (.int .i64 x)
  have hset := ho.set j x
  refine ⟨h1, by simpa using h2, vs, ?_, ?_, hd⟩
  · refine hv.kept hst.2 ?_
    have := own_int_ne ho hv
    rcases this with e | e
    · simp [Value.ownBlock] at e
    · right
      intro e2
      exact e (by rw [e2]; rfl)
  · intro i u' r' hu' hr'
    rw [List.getElem?_set] at hr'
    by_cases e : k = i
    · subst e
      rw [hvk] at hu'
      injection hu' with hu'
      subst hu'
      rw [if_pos rfl] at hr'
      split at hr'
      · injection hr' with hr'
        subst hr'
        simpa using hset
      · cases hr'
    · rw [if_neg e] at hr'
      have h3 := hr i u' r' hu' hr'
      refine h3.grown hst.2 ?_
      rcases hd i k u' _ (by omega) hu' hvk with e2 | e2
      · exact .inl e2
      · right
        intro e3
        exact e2 (by rw [e3]; rfl)
end
end Go.Proofs.YtgcemkpinmjaeaaDoor

namespace Go.Proofs.YtgcemkpinmjaeaaDoor
open Go.RowKit
set_option linter.all false
theorem info_int_parts : ∃ i, Tryd.prog.info? 3 = some i ∧ i.zero = some (.int .i64 0) ∧ i.size = 1 ∧ i.bytes = 8 := info_parts info_int

theorem wpList_push_int {ops : Array Oper} {rest : List Oper} {o : Oper} {a : Act} {Q : Exit → Act → World → Prop} (w : World) (hgd : o.guard = none) (s x : Operand)
    (ho : o.op = .call { callee := .builtin .append, args := #[s, x], argTypes := #[26, 26] })
    (lo : Nat) (v : Value) (n : Nat) (xs : List Int) (hs : a.eval s = v) (h : OInts w lo v n xs) (hn : n + 1 ≤ 1099511627776)
    (tb : Nat) (y : Int) (hx : a.eval x = .slice (some ⟨tb, 0, none⟩) 1 1) (hc : w.cell? ⟨tb, 0, none⟩ = some (.int .i64 y))
    (hlo : lo ≤ w.heap.size)
    (K : ∀ v' w', OInts w' lo v' (n + 1) (xs ++ [y]) → w.grownBy w' v.ownBlock → wpList Tryd.prog ops Q rest (a.put o.dst v') w') : wpList Tryd.prog ops Q (o :: rest) a w := by
  obtain ⟨i0, hi, hz0, hz1, hz2⟩ := info_int_parts
  refine wpList_append_own w hgd s x 26 ho lo 3 i0 (.int .i64 0) 1 8 Tryd.underlying26 hi hz0 hz1 hz2 rfl (by decide) v n _ hs h.2 ⟨tb, 0, none⟩ 1 1 [.int .i64 y] hx rfl ?_ ?_ ?_ ?_ hlo ?_
  · intro j u' hj
    match j, hj with
    | 0, hj =>
      simp at hj
      subst hj
      simpa [Addr.add] using hc
  · intro u' hu'
    simp at hu'
    subst hu'
    rfl
  · unfold maxLen; omega
  · omega
  · intro v' w' hown hgrow _
    refine K v' w' ⟨hn, ?_⟩ hgrow
    rw [List.map_append]
    exact hown

theorem run_append_nil_src {P : Program} {w : World} {lo t ty e size n : Nat} {i : TypeInfo} {v : Value} {xs : List Value} (ht : P.underlying t = some (.slice e)) (hi : P.info? e = some i)
    (h : w.ownsRow lo e size v n xs) (c : Nat) : (Builtin.append_ #[t, t] ty #[v, .slice none 0 c]).run P w = .ok v w := by
  rcases h.2 with ⟨rfl, rfl⟩ | ⟨g, cap, cur, rfl, _, _, hnc, _⟩
  · simp [Builtin.append_, run_underlying ht, sizeOf, typeInfo, hi, Builtin.lenOf, Builtin.firstCells]
  · simp [Builtin.append_, run_underlying ht, sizeOf, typeInfo, hi, Builtin.lenOf, Builtin.firstCells, hnc, storeCells]

set_option maxRecDepth 8000 in
theorem wpList_app_ints {ops : Array Oper} {rest : List Oper} {o : Oper} {a : Act} {Q : Exit → Act → World → Prop} (w : World) (hgd : o.guard = none) (s x : Operand)
    (ho : o.op = .call { callee := .builtin .append, args := #[s, x], argTypes := #[26, 26] })
    (lo : Nat) (v : Value) (n : Nat) (xs : List Int) (hs : a.eval s = v) (h : OInts w lo v n xs)
    (ao : Option Addr) (m c : Nat) (ys : List Int) (hx : a.eval x = .slice ao m c) (hy : Ints w ao m ys) (hn : n + m ≤ 1099511627776)
    (hlo : lo ≤ w.heap.size)
    (K : ∀ v' w', OInts w' lo v' (n + m) (xs ++ ys) → w.grownBy w' v.ownBlock → wpList Tryd.prog ops Q rest (a.put o.dst v') w') : wpList Tryd.prog ops Q (o :: rest) a w := by
  obtain ⟨i0, hi, hz0, hz1, hz2⟩ := info_int_parts
  rcases ao with _ | ad
  · have hm : m = 0 := by
      rcases Nat.eq_zero_or_pos m with h0 | h0
      · exact h0
      · obtain ⟨b, o', e, _⟩ := hy.2.2 0 (by rw [hy.1]; exact h0)
        cases e
    subst hm
    have hyn : ys = [] := List.eq_nil_of_length_eq_zero hy.1
    subst hyn
    refine wpList_plain hgd fun K' hK => ?_
    have hrun := run_append_nil_src (ty := o.type) (lo := lo) Tryd.underlying26 hi h.2 c
    unfold Oper.wp execOp
    simp only [ho, resolve, invoke, builtin, Sem.run_bind, Sem.run_pure, Result.andThen_ok, List.map_toArray, List.map_cons, List.map_nil, hs, hx, hrun]
    exact hK _ _ (K v w (by simpa using h) (World.grownBy.refl w _))
  · have hcells : ∀ j u, (ys.map (Value.int .i64))[j]? = some u → w.cell? (ad.add j) = some u := by
      intro j u hu
      have hj : j < ys.length := by simpa using (List.getElem?_eq_some_iff.1 hu).1
      obtain ⟨b, o', e, hc⟩ := hy.2.2 j hj
      injection e with e
      subst e
      rw [Addr.add_lit, hc]
      simpa [List.getD, hj] using hu
    refine wpList_append_own w hgd s x 26 ho lo 3 i0 (.int .i64 0) 1 8 Tryd.underlying26 hi hz0 hz1 hz2 rfl (by decide) v n _ hs h.2 ad m c (ys.map (Value.int .i64)) hx (by simp [hy.1]) hcells (ints_oneCell _ _) ?_ ?_ hlo ?_
    · unfold maxLen; omega
    · omega
    · intro v' w' hown hgrow _
      refine K v' w' ⟨hn, ?_⟩ hgrow
      rw [List.map_append]
      exact hown

/-- An empty slice that the call makes ('[]int{}'). -/
theorem OInts.none_ (w : World) (lo : Nat) : OInts w lo (.slice none 0 0) 0 [] := ⟨by omega, by simp, .inl ⟨rfl, rfl⟩⟩
theorem OInts.empty (w : World) (lo : Nat) (hlo : lo ≤ w.heap.size) : OInts (w.alloc (.cells #[] 3)) lo (.slice (some ⟨w.heap.size, 0, none⟩) 0 0) 0 [] := by
  refine ⟨by omega, ?_⟩
  have h := World.ownsRow_made (base := lo) (e := 3) (size := 1) w #[] 0 hlo (by unfold maxLen; omega) rfl
  simpa using h
/-- The parts of a slice that reads as a list. -/
theorem Ints.take {w : World} {ao : Option Addr} {n k : Nat} {xs : List Int} (h : Ints w ao n xs) (hk : k ≤ n) : Ints w ao k (xs.take k) := by
  refine ⟨by rw [List.length_take, h.1]; omega, by have := h.2.1; omega, fun i hi => ?_⟩
  rw [List.length_take, h.1] at hi
  obtain ⟨b, o, e, hc⟩ := h.2.2 i (by rw [h.1]; omega)
  refine ⟨b, o, e, ?_⟩
  rw [hc]
  congr 2
  simp [List.getD, List.getElem?_take, show i < k by omega]
theorem Ints.drop {w : World} {ao : Option Addr} {n k cap : Nat} {xs : List Int} (h : Ints w ao n xs) (hk : k ≤ n) (hcap : n ≤ cap) : Ints w (if cap = k then ao else ao.map (·.add k)) (n - k) (xs.drop k) := by
  refine ⟨by rw [List.length_drop, h.1], by have := h.2.1; omega, fun i hi => ?_⟩
  rw [List.length_drop, h.1] at hi
  obtain ⟨b, o, e, hc⟩ := h.2.2 (k + i) (by rw [h.1]; omega)
  rw [if_neg (by omega), e]
  refine ⟨b, o + k, by simp [Addr.add_lit], ?_⟩
  rw [Nat.add_assoc, hc]
  congr 2
  simp [List.getD]
end Go.Proofs.YtgcemkpinmjaeaaDoor

namespace Go.Proofs.YtgcemkpinmjaeaaDoor
open Go.RowKit
set_option linter.all false
theorem own_unique {w : World} {lo lo' e size n : Nat} {v : Value} {xs ys : List Value} (h : w.ownsRow lo e size v n xs) (h' : w.ownsRow lo' e size v n ys) : xs = ys := by
  rcases h.2 with ⟨rfl, hn⟩ | ⟨g, cap, cur, rfl, _, hh, _, _, _, ht⟩
  · have l1 := h.1
    have l2 := h'.1
    rw [hn, Nat.zero_mul] at l1 l2
    rw [List.eq_nil_of_length_eq_zero l1, List.eq_nil_of_length_eq_zero l2]
  · rcases h'.2 with ⟨e, _⟩ | ⟨g', cap', cur', e, _, hh', _, _, _, ht'⟩
    · simp at e
    · simp only [Value.slice.injEq, Option.some.injEq, Addr.mk.injEq, and_true, true_and] at e
      obtain ⟨rfl, rfl⟩ := e
      rw [hh] at hh'
      simp at hh'
      subst hh'
      rw [← ht, ← ht']

theorem wpList_push_row {ops : Array Oper} {rest : List Oper} {o : Oper} {a : Act} {Q : Exit → Act → World → Prop} (w : World) (hgd : o.guard = none) (s x : Operand)
    (ho : o.op = .call { callee := .builtin .append, args := #[s, x], argTypes := #[24, 24] })
    (lo : Nat) (v : Value) (n : Nat) (xss : List (List Int)) (hs : a.eval s = v) (h : OIntss w lo v n xss) (hn : n + 1 ≤ 1099511627776)
    (tb : Nat) (u : Value) (r : List Int) (hx : a.eval x = .slice (some ⟨tb, 0, none⟩) 1 1) (hc : w.cell? ⟨tb, 0, none⟩ = some u) (hu : OInts w lo u r.length r)
    (hfar : ∀ (i : Nat) (u' : Value) (r' : List Int), (∃ vs : List Value, w.ownsRow lo 26 1 v n vs ∧ vs[i]? = some u') → xss[i]? = some r' → OInts w lo u' r'.length r' → Apart u u')
    (hlo : lo ≤ w.heap.size)
    (K : ∀ v' w', OIntss w' lo v' (n + 1) (xss ++ [r]) → w.grownBy w' v.ownBlock → wpList Tryd.prog ops Q rest (a.put o.dst v') w') : wpList Tryd.prog ops Q (o :: rest) a w := by
  obtain ⟨i0, hi, hz0, hz1, hz2⟩ := info_parts info_ints
  obtain ⟨h1, h2, vs, hv, hr, hd⟩ := h
  have hone : u.oneCell' = true := by
    rcases hu.2.2 with ⟨rfl, _⟩ | ⟨_, _, _, rfl, _⟩ <;> rfl
  refine wpList_append_own w hgd s x 24 ho lo 26 i0 (.slice none 0 0) 1 24 Tryd.underlying24 hi hz0 hz1 hz2 rfl (by decide) v n vs hs hv ⟨tb, 0, none⟩ 1 1 [u] hx rfl ?_ ?_ ?_ ?_ hlo ?_
  · intro j u' hj
    match j, hj with
    | 0, hj =>
      simp at hj
      subst hj
      simpa [Addr.add] using hc
  · intro u' hu'
    simp at hu'
    subst hu'
    exact hone
  · unfold maxLen; omega
  · omega
  · intro v' w' hown hgrow _
    refine K v' w' ?_ hgrow
    exact OIntss.pushed ⟨h1, h2, vs, hv, hr, hd⟩ hn hu hfar hgrow fun vs' hv' => by rw [own_unique hv' hv]; exact hown

theorem OIntss.ownlt {w : World} {lo n : Nat} {v : Value} {xss : List (List Int)} (h : OIntss w lo v n xss) : ∀ k, v.ownBlock = some k → lo ≤ k ∧ k < w.heap.size := by
  obtain ⟨_, _, vs, ho, _⟩ := h
  exact ho.lt
theorem OInts.ownlt {w : World} {lo n : Nat} {v : Value} {xs : List Int} (h : OInts w lo v n xs) : ∀ k, v.ownBlock = some k → lo ≤ k ∧ k < w.heap.size := h.2.lt
theorem OIntss.none_ (w : World) (lo : Nat) : OIntss w lo (.slice none 0 0) 0 [] :=
  ⟨by omega, rfl, [], ⟨by simp, .inl ⟨rfl, rfl⟩⟩, fun i u r h => by simp at h, fun i j u u' _ h => by simp at h⟩
theorem OIntss.empty (w : World) (lo : Nat) (hlo : lo ≤ w.heap.size) : OIntss (w.alloc (.cells #[] 26)) lo (.slice (some ⟨w.heap.size, 0, none⟩) 0 0) 0 [] :=
  ⟨by omega, rfl, [], World.ownsRow_made (base := lo) (e := 26) (size := 1) w #[] 0 hlo (by unfold maxLen; omega) rfl, fun i u r h => by simp at h, fun i j u u' _ h => by simp at h⟩

/-- A row that is newer than the world wr, in which the slice was looked at last, is pushed. -/
theorem wpList_push_fresh {ops : Array Oper} {rest : List Oper} {o : Oper} {a : Act} {Q : Exit → Act → World → Prop} (W : World) (u : Value) (wr : World) (hgd : o.guard = none) (s x : Operand)
    (ho : o.op = .call { callee := .builtin .append, args := #[s, x], argTypes := #[24, 24] })
    (lo : Nat) (v : Value) (n : Nat) (xss : List (List Int)) (hs : a.eval s = v) (h : OIntss wr lo v n xss) (hn : n + 1 ≤ 1099511627776) (hlo : lo ≤ wr.heap.size) (hW : Below wr.heap.size wr W)
    (m : Nat) (r : List Int) (hu : OInts W wr.heap.size u m r) (tb : Nat) (htb : tb = W.heap.size) (hx : a.eval x = .slice (some ⟨tb, 0, none⟩) 1 1)
    (K : ∀ v' w', OIntss w' lo v' (n + 1) (xss ++ [r]) → Below lo wr w' → (W.alloc (.cells #[u] 26)).grownBy w' v.ownBlock → wpList Tryd.prog ops Q rest (a.put o.dst v') w') : wpList Tryd.prog ops Q (o :: rest) a (W.alloc (.cells #[u] 26)) := by
  subst htb
  have hml := hu.len
  subst hml
  have hW2 : Below wr.heap.size wr (W.alloc (.cells #[u] 26)) := hW.alloc hW.size _
  refine wpList_push_row _ hgd s x ho lo v n xss hs (h.keep hW2) hn W.heap.size u r hx (World.cell?_alloc_new _ _ _ _) ((hu.alloc _).mono hlo) (far_new h hW2 fun b hb => (hu.ownlt b hb).1) (by simp; have := hW.size; omega) ?_
  intro v' w' hown hgrow
  exact K v' w' hown ((hW2.mono hlo).grown hgrow (by simp; have := hW.size; omega) fun k hk => (h.ownlt k hk).1) hgrow
end Go.Proofs.YtgcemkpinmjaeaaDoor

namespace Go.Proofs.YtgcemkpinmjaeaaDoor
open Go.RowKit
set_option linter.all false
/- The same laws for a region that draws its order. -/
theorem step_of_wp {P : Program} {ops : Array Oper} {o : Oper} {a : Act} {w : World} {K : Act → World → Prop} {Q : Exit → Act → World → Prop} {E : Prop} (hgd : o.guard = none) (h : o.wp P a w K Q) :
    if Region.wanted o (yielded ops a.tmps) = true then Oper.wp P o a w K Q else E := by
  have hw : Region.wanted o (yielded ops a.tmps) = true := by simp [Region.wanted, hgd]
  rw [if_pos hw]
  exact h

theorem wp_push_int {o : Oper} {a : Act} {K0 : Act → World → Prop} {Q : Exit → Act → World → Prop} (w : World) (s x : Operand)
    (ho : o.op = .call { callee := .builtin .append, args := #[s, x], argTypes := #[26, 26] })
    (lo : Nat) (v : Value) (n : Nat) (xs : List Int) (hs : a.eval s = v) (h : OInts w lo v n xs) (hn : n + 1 ≤ 1099511627776)
    (tb : Nat) (y : Int) (hx : a.eval x = .slice (some ⟨tb, 0, none⟩) 1 1) (hc : w.cell? ⟨tb, 0, none⟩ = some (.int .i64 y))
    (hlo : lo ≤ w.heap.size)
    (K : ∀ v' w', OInts w' lo v' (n + 1) (xs ++ [y]) → w.grownBy w' v.ownBlock → K0 (a.put o.dst v') w') : o.wp Tryd.prog a w K0 Q := by
  obtain ⟨i0, hi, hz0, hz1, hz2⟩ := info_int_parts
  refine wp_append_own w s x 26 ho lo 3 i0 (.int .i64 0) 1 8 Tryd.underlying26 hi hz0 hz1 hz2 rfl (by decide) v n _ hs h.2 ⟨tb, 0, none⟩ 1 1 [.int .i64 y] hx rfl ?_ ?_ ?_ ?_ hlo ?_
  · intro j u' hj
    match j, hj with
    | 0, hj =>
      simp at hj
      subst hj
      simpa [Addr.add] using hc
  · intro u' hu'
    simp at hu'
    subst hu'
    rfl
  · unfold maxLen; omega
  · omega
  · intro v' w' hown hgrow _
    refine K v' w' ⟨hn, ?_⟩ hgrow
    rw [List.map_append]
    exact hown

set_option maxRecDepth 8000 in
theorem wp_app_ints {o : Oper} {a : Act} {K0 : Act → World → Prop} {Q : Exit → Act → World → Prop} (w : World) (s x : Operand)
    (ho : o.op = .call { callee := .builtin .append, args := #[s, x], argTypes := #[26, 26] })
    (lo : Nat) (v : Value) (n : Nat) (xs : List Int) (hs : a.eval s = v) (h : OInts w lo v n xs)
    (ao : Option Addr) (m c : Nat) (ys : List Int) (hx : a.eval x = .slice ao m c) (hy : Ints w ao m ys) (hn : n + m ≤ 1099511627776)
    (hlo : lo ≤ w.heap.size)
    (K : ∀ v' w', OInts w' lo v' (n + m) (xs ++ ys) → w.grownBy w' v.ownBlock → K0 (a.put o.dst v') w') : o.wp Tryd.prog a w K0 Q := by
  obtain ⟨i0, hi, hz0, hz1, hz2⟩ := info_int_parts
  rcases ao with _ | ad
  · have hm : m = 0 := by
      rcases Nat.eq_zero_or_pos m with h0 | h0
      · exact h0
      · obtain ⟨b, o', e, _⟩ := hy.2.2 0 (by rw [hy.1]; exact h0)
        cases e
    subst hm
    have hyn : ys = [] := List.eq_nil_of_length_eq_zero hy.1
    subst hyn
    have hrun := run_append_nil_src (ty := o.type) (lo := lo) Tryd.underlying26 hi h.2 c
    unfold Oper.wp execOp
    simp only [ho, resolve, invoke, builtin, Sem.run_bind, Sem.run_pure, Result.andThen_ok, List.map_toArray, List.map_cons, List.map_nil, hs, hx, hrun]
    exact (K v w (by simpa using h) (World.grownBy.refl w _))
  · have hcells : ∀ j u, (ys.map (Value.int .i64))[j]? = some u → w.cell? (ad.add j) = some u := by
      intro j u hu
      have hj : j < ys.length := by simpa using (List.getElem?_eq_some_iff.1 hu).1
      obtain ⟨b, o', e, hc⟩ := hy.2.2 j hj
      injection e with e
      subst e
      rw [Addr.add_lit, hc]
      simpa [List.getD, hj] using hu
    refine wp_append_own w s x 26 ho lo 3 i0 (.int .i64 0) 1 8 Tryd.underlying26 hi hz0 hz1 hz2 rfl (by decide) v n _ hs h.2 ad m c (ys.map (Value.int .i64)) hx (by simp [hy.1]) hcells (ints_oneCell _ _) ?_ ?_ hlo ?_
    · unfold maxLen; omega
    · omega
    · intro v' w' hown hgrow _
      refine K v' w' ⟨hn, ?_⟩ hgrow
      rw [List.map_append]
      exact hown

theorem wp_push_row {o : Oper} {a : Act} {K0 : Act → World → Prop} {Q : Exit → Act → World → Prop} (w : World) (s x : Operand)
    (ho : o.op = .call { callee := .builtin .append, args := #[s, x], argTypes := #[24, 24] })
    (lo : Nat) (v : Value) (n : Nat) (xss : List (List Int)) (hs : a.eval s = v) (h : OIntss w lo v n xss) (hn : n + 1 ≤ 1099511627776)
    (tb : Nat) (u : Value) (r : List Int) (hx : a.eval x = .slice (some ⟨tb, 0, none⟩) 1 1) (hc : w.cell? ⟨tb, 0, none⟩ = some u) (hu : OInts w lo u r.length r)
    (hfar : ∀ (i : Nat) (u' : Value) (r' : List Int), (∃ vs : List Value, w.ownsRow lo 26 1 v n vs ∧ vs[i]? = some u') → xss[i]? = some r' → OInts w lo u' r'.length r' → Apart u u')
    (hlo : lo ≤ w.heap.size)
    (K : ∀ v' w', OIntss w' lo v' (n + 1) (xss ++ [r]) → w.grownBy w' v.ownBlock → K0 (a.put o.dst v') w') : o.wp Tryd.prog a w K0 Q := by
  obtain ⟨i0, hi, hz0, hz1, hz2⟩ := info_parts info_ints
  obtain ⟨h1, h2, vs, hv, hr, hd⟩ := h
  have hone : u.oneCell' = true := by
    rcases hu.2.2 with ⟨rfl, _⟩ | ⟨_, _, _, rfl, _⟩ <;> rfl
  refine wp_append_own w s x 24 ho lo 26 i0 (.slice none 0 0) 1 24 Tryd.underlying24 hi hz0 hz1 hz2 rfl (by decide) v n vs hs hv ⟨tb, 0, none⟩ 1 1 [u] hx rfl ?_ ?_ ?_ ?_ hlo ?_
  · intro j u' hj
    match j, hj with
    | 0, hj =>
      simp at hj
      subst hj
      simpa [Addr.add] using hc
  · intro u' hu'
    simp at hu'
    subst hu'
    exact hone
  · unfold maxLen; omega
  · omega
  · intro v' w' hown hgrow _
    refine K v' w' ?_ hgrow
    exact OIntss.pushed ⟨h1, h2, vs, hv, hr, hd⟩ hn hu hfar hgrow fun vs' hv' => by rw [own_unique hv' hv]; exact hown

theorem wp_push_fresh {o : Oper} {a : Act} {K0 : Act → World → Prop} {Q : Exit → Act → World → Prop} (W : World) (u : Value) (wr : World) (s x : Operand)
    (ho : o.op = .call { callee := .builtin .append, args := #[s, x], argTypes := #[24, 24] })
    (lo : Nat) (v : Value) (n : Nat) (xss : List (List Int)) (hs : a.eval s = v) (h : OIntss wr lo v n xss) (hn : n + 1 ≤ 1099511627776) (hlo : lo ≤ wr.heap.size) (hW : Below wr.heap.size wr W)
    (m : Nat) (r : List Int) (hu : OInts W wr.heap.size u m r) (tb : Nat) (htb : tb = W.heap.size) (hx : a.eval x = .slice (some ⟨tb, 0, none⟩) 1 1)
    (K : ∀ v' w', OIntss w' lo v' (n + 1) (xss ++ [r]) → Below lo wr w' → (W.alloc (.cells #[u] 26)).grownBy w' v.ownBlock → K0 (a.put o.dst v') w') : o.wp Tryd.prog a (W.alloc (.cells #[u] 26)) K0 Q := by
  subst htb
  have hml := hu.len
  subst hml
  have hW2 : Below wr.heap.size wr (W.alloc (.cells #[u] 26)) := hW.alloc hW.size _
  refine wp_push_row _ s x ho lo v n xss hs (h.keep hW2) hn W.heap.size u r hx (World.cell?_alloc_new _ _ _ _) ((hu.alloc _).mono hlo) (far_new h hW2 fun b hb => (hu.ownlt b hb).1) (by simp; have := hW.size; omega) ?_
  intro v' w' hown hgrow
  exact K v' w' hown ((hW2.mono hlo).grown hgrow (by simp; have := hW.size; omega) fun k hk => (h.ownlt k hk).1) hgrow
end Go.Proofs.YtgcemkpinmjaeaaDoor

namespace Go.Proofs.YtgcemkpinmjaeaaDoor
open Go.RowKit
set_option linter.all false
theorem push_one_grown {w w' : World} {lo n : Nat} {v : Value} {xs : List Int} (h : OInts w lo v n xs) (hlo : lo ≤ w.heap.size) (o : Obj) (hg : (w.alloc o).grownBy w' v.ownBlock) : Below lo w w' :=
  ((Below.refl lo w).alloc hlo o).grown hg (by simp; omega) (fun k hk => (h.ownlt k hk).1)

theorem wpList_push_one {ops : Array Oper} {rest : List Oper} {o : Oper} {a : Act} {Q : Exit → Act → World → Prop} (W : World) (y : Int) (hgd : o.guard = none) (s x : Operand)
    (ho : o.op = .call { callee := .builtin .append, args := #[s, x], argTypes := #[26, 26] })
    (lo : Nat) (v : Value) (n : Nat) (xs : List Int) (hs : a.eval s = v) (h : OInts W lo v n xs) (hn : n + 1 ≤ 1099511627776) (hlo : lo ≤ W.heap.size)
    (tb : Nat) (htb : tb = W.heap.size) (hx : a.eval x = .slice (some ⟨tb, 0, none⟩) 1 1)
    (K : ∀ v' w', OInts w' lo v' (n + 1) (xs ++ [y]) → Below lo W w' → wpList Tryd.prog ops Q rest (a.put o.dst v') w') : wpList Tryd.prog ops Q (o :: rest) a (W.alloc (.cells #[.int .i64 y] 3)) := by
  subst htb
  refine wpList_push_int _ hgd s x ho lo v n xs hs (h.alloc _) hn W.heap.size y hx (World.cell?_alloc_new _ _ _ _) (by simp; omega) ?_
  intro v' w' hown hg
  exact K v' w' hown (push_one_grown h hlo _ hg)

theorem wp_push_one {o : Oper} {a : Act} {K0 : Act → World → Prop} {Q : Exit → Act → World → Prop} (W : World) (y : Int) (s x : Operand)
    (ho : o.op = .call { callee := .builtin .append, args := #[s, x], argTypes := #[26, 26] })
    (lo : Nat) (v : Value) (n : Nat) (xs : List Int) (hs : a.eval s = v) (h : OInts W lo v n xs) (hn : n + 1 ≤ 1099511627776) (hlo : lo ≤ W.heap.size)
    (tb : Nat) (htb : tb = W.heap.size) (hx : a.eval x = .slice (some ⟨tb, 0, none⟩) 1 1)
    (K : ∀ v' w', OInts w' lo v' (n + 1) (xs ++ [y]) → Below lo W w' → K0 (a.put o.dst v') w') : o.wp Tryd.prog a (W.alloc (.cells #[.int .i64 y] 3)) K0 Q := by
  subst htb
  refine wp_push_int _ s x ho lo v n xs hs (h.alloc _) hn W.heap.size y hx (World.cell?_alloc_new _ _ _ _) (by simp; omega) ?_
  intro v' w' hown hg
  exact K v' w' hown (push_one_grown h hlo _ hg)
end Go.Proofs.YtgcemkpinmjaeaaDoor

namespace Go.Proofs.YtgcemkpinmjaeaaDoor
open Go.RowKit
set_option linter.all false
/- 'out = append(out, y)' beside other slices of the call's own: where the new value lies. -/
/-- v' lies where v lay, or in a block that is new. -/
def NewOr (s : Nat) (v v' : Value) : Prop := v'.ownBlock = v.ownBlock ∨ ∃ b, v'.ownBlock = some b ∧ s ≤ b
theorem NewOr.apart {s : Nat} {u v v' : Value} (h : NewOr s v v') (ha : Apart u v) (hu : ∀ b, u.ownBlock = some b → b < s) : Apart u v' := by
  intro b hb e
  rcases h with h | ⟨c, h, hc⟩
  · exact ha b hb (by rw [← h]; exact e)
  · rw [h] at e
    injection e with e
    have := hu b hb
    omega
theorem NewOr.refl (s : Nat) (v : Value) : NewOr s v v := .inl rfl
theorem Apart.ne {u v : Value} (h : Apart u v) : u.ownBlock = none ∨ u.ownBlock ≠ v.ownBlock := by
  cases hb : u.ownBlock with
  | none => exact .inl rfl
  | some b => right; exact fun e => h b hb e.symm
theorem OInts.ltAll {w : World} {lo n : Nat} {v : Value} {xs : List Int} (h : OInts w lo v n xs) : ∀ b, v.ownBlock = some b → lo ≤ b ∧ b < w.heap.size := fun b hb => h.2.lt b hb
theorem OInts.apartOf {w : World} {lo n s m : Nat} {u v : Value} {xs ys : List Int} (hu : OInts w lo u n xs) (hv : OInts w s v m ys) (h : ∀ b, u.ownBlock = some b → b < s) : Apart u v := by
  intro b hb e
  have := (hv.ltAll b e).1
  have := h b hb
  omega
theorem OInts.far {w w' : World} {lo n : Nat} {u v : Value} {xs : List Int} (h : OInts w lo u n xs) (hg : w.grownBy w' v.ownBlock) (ha : Apart u v) : OInts w' lo u n xs := h.grown hg ha.ne
theorem grown_alloc (w : World) (o : Obj) (row : Option Nat) : w.grownBy (w.alloc o) row := by
  have h := (Below.refl w.heap.size w).alloc (Nat.le_refl _) o
  exact ⟨h.os, h.tape, h.output, h.size, fun k hk _ => h.block k hk⟩
theorem Below.far {B : Nat} {a w w' : World} {row : Option Nat} (h : Below B a w) (hg : w.grownBy w' row) (hB : B ≤ w.heap.size) (hr : ∀ b, row = some b → B ≤ b) : Below B a w' := h.grown hg hB hr

theorem wp_push_at {o : Oper} {a : Act} {K0 : Act → World → Prop} {Q : Exit → Act → World → Prop} (W : World) (y : Int) (s x : Operand)
    (ho : o.op = .call { callee := .builtin .append, args := #[s, x], argTypes := #[26, 26] })
    (lo : Nat) (v : Value) (n : Nat) (xs : List Int) (hs : a.eval s = v) (h : OInts W lo v n xs) (hn : n + 1 ≤ 1099511627776) (hlo : lo ≤ W.heap.size)
    (tb : Nat) (htb : tb = W.heap.size) (hx : a.eval x = .slice (some ⟨tb, 0, none⟩) 1 1)
    (K : ∀ v' w', OInts w' lo v' (n + 1) (xs ++ [y]) → W.grownBy w' v.ownBlock → NewOr W.heap.size v v' → K0 (a.put o.dst v') w') : o.wp Tryd.prog a (W.alloc (.cells #[.int .i64 y] 3)) K0 Q := by
  subst htb
  obtain ⟨i0, hi, hz0, hz1, hz2⟩ := info_int_parts
  obtain ⟨v', w', hr, h2, h3, _, h5⟩ := run_append_own_at (P := Tryd.prog) (W.alloc (.cells #[.int .i64 y] 3)) lo 26 o.type 3 i0 (.int .i64 0) 1 8 Tryd.underlying26 hi hz0 hz1 hz2 rfl (by decide) v n _ (h.alloc _).2 ⟨W.heap.size, 0, none⟩ 1 1 [.int .i64 y] rfl
    (cell_one_new _ _ _) (by intro u hu; simp at hu; subst hu; rfl) (by unfold maxLen; omega) (by omega) (by simp; omega)
  unfold Oper.wp execOp
  simp only [ho, resolve, invoke, builtin, Sem.run_bind, Sem.run_pure, Result.andThen_ok, List.map_toArray, List.map_cons, List.map_nil, hs, hx, hr]
  refine K v' w' ⟨hn, ?_⟩ ((grown_alloc W _ _).trans h3) ?_
  · rw [List.map_append]; exact h2
  · rcases h5 with h5 | h5
    · exact .inl h5
    · exact .inr ⟨_, h5, by simp⟩

theorem wpList_push_at {ops : Array Oper} {rest : List Oper} {o : Oper} {a : Act} {Q : Exit → Act → World → Prop} (W : World) (y : Int) (hgd : o.guard = none) (s x : Operand)
    (ho : o.op = .call { callee := .builtin .append, args := #[s, x], argTypes := #[26, 26] })
    (lo : Nat) (v : Value) (n : Nat) (xs : List Int) (hs : a.eval s = v) (h : OInts W lo v n xs) (hn : n + 1 ≤ 1099511627776) (hlo : lo ≤ W.heap.size)
    (tb : Nat) (htb : tb = W.heap.size) (hx : a.eval x = .slice (some ⟨tb, 0, none⟩) 1 1)
    (K : ∀ v' w', OInts w' lo v' (n + 1) (xs ++ [y]) → W.grownBy w' v.ownBlock → NewOr W.heap.size v v' → wpList Tryd.prog ops Q rest (a.put o.dst v') w') : wpList Tryd.prog ops Q (o :: rest) a (W.alloc (.cells #[.int .i64 y] 3)) := by
  refine wpList_plain hgd fun K' hK => ?_
  exact wp_push_at W y s x ho lo v n xs hs h hn hlo tb htb hx fun v' w' h1 h2 h3 => hK _ _ (K v' w' h1 h2 h3)
end Go.Proofs.YtgcemkpinmjaeaaDoor

namespace Go.Proofs.YtgcemkpinmjaeaaDoor
open Go.RowKit
set_option linter.all false
section
variable {α : Type} {A B M : List α} {x y Z : α} {i k n : Nat}
theorem at_mid (h : A.length = i) : (A ++ x :: B)[i]? = some x := by
  rw [List.getElem?_append_right (by omega), h, Nat.sub_self]; rfl
theorem set_mid (h : A.length = i) : (A ++ x :: B).set i y = A ++ y :: B := by
  rw [List.set_append_right _ _ (by omega), h, Nat.sub_self]; rfl
theorem fill_start (n : Nat) (M : List α) (Z : α) : M.take 0 ++ List.replicate (n - 0) Z = List.replicate n Z := by simp
theorem fill_open (hk : k < n) : M.take k ++ List.replicate (n - k) Z = M.take k ++ Z :: List.replicate (n - (k + 1)) Z := by
  rw [show n - k = (n - (k + 1)) + 1 from by omega, List.replicate_succ]
theorem fill_shut (hx : M[k]? = some x) : M.take k ++ x :: B = M.take (k + 1) ++ B := by
  obtain ⟨hk, rfl⟩ := List.getElem?_eq_some_iff.1 hx
  rw [List.take_succ_eq_append_getElem hk, List.append_assoc]
  rfl
theorem fill_end (hM : M.length = n) : M.take n ++ List.replicate (n - n) Z = M := by
  rw [← hM]; simp
theorem take_len (h : k ≤ M.length) : (M.take k).length = k := by simp; omega
theorem push_take (hx : M[k]? = some x) : M.take k ++ [x] = M.take (k + 1) := by
  obtain ⟨hk, rfl⟩ := List.getElem?_eq_some_iff.1 hx
  rw [List.take_succ_eq_append_getElem hk]
/-- One list as far as i, another from there on. -/
theorem mix_get {N : List α} (hM : i ≤ M.length) (hx : N[i]? = some x) : (M.take i ++ N.drop i)[i]? = some x := by
  rw [drop_of_get hx]; exact at_mid (take_len hM)
theorem mix_set {N : List α} (hx : N[i]? = some x) (hy : M[i]? = some y) : (M.take i ++ N.drop i).set i y = M.take (i + 1) ++ N.drop (i + 1) := by
  have hi := (List.getElem?_eq_some_iff.1 hy).1
  rw [drop_of_get hx, set_mid (take_len (by omega)), fill_shut hy]
theorem mix_end {N : List α} (hM : M.length = n) (hN : N.length = n) : M.take n ++ N.drop n = M := by
  rw [← hM, List.take_length, hM, ← hN, List.drop_length, List.append_nil]
theorem rep_push (k : Nat) (x : α) : List.replicate k x ++ [x] = List.replicate (k + 1) x := by
  rw [List.replicate_succ']
end
end Go.Proofs.YtgcemkpinmjaeaaDoor

namespace Go.Proofs.YtgcemkpinmjaeaaDoor
open Go.RowKit
set_option linter.all false
def oneRow (n i : Nat) : List Int := (List.replicate n 0).set i 1
def oneT (n : Nat) : List (List Int) := (List.range n).map (oneRow n)
theorem oneT_len (n : Nat) : (oneT n).length = n := by simp [oneT]
theorem oneT_get {n k : Nat} (h : k < n) : (oneT n)[k]? = some (oneRow n k) := by simp [oneT, h]
theorem oneRow_len (n k : Nat) : (oneRow n k).length = n := by simp [oneRow]
/-- A slice of slices of the call's own that is not empty lies at the head of a block. -/
theorem OIntss.head {w : World} {lo n : Nat} {v : Value} {xss : List (List Int)} (h : OIntss w lo v n xss) (hn : 0 < n) : ∃ g cap, v = .slice (some ⟨g, 0, none⟩) n cap := by
  obtain ⟨_, _, vs, ho, _⟩ := h
  rcases ho.2 with ⟨_, h0⟩ | ⟨g, cap, cur, e, _⟩
  · omega
  · exact ⟨g, cap, e⟩
theorem OInts.head {w : World} {lo n : Nat} {v : Value} {xs : List Int} (h : OInts w lo v n xs) (hn : 0 < n) : ∃ g cap, v = .slice (some ⟨g, 0, none⟩) n cap := by
  rcases h.2.2 with ⟨_, h0⟩ | ⟨g, cap, cur, e, _⟩
  · omega
  · exact ⟨g, cap, e⟩
end Go.Proofs.YtgcemkpinmjaeaaDoor

namespace Go.Proofs.YtgcemkpinmjaeaaDoor
open Go.RowKit
set_option linter.all false
theorem sizeOf_int (w : World) : (sizeOf 3).run Tryd.prog w = .ok 1 w := by
  obtain ⟨i, hi, _, hz, _⟩ := info_parts info_int
  simp [sizeOf, typeInfo, hi, hz]
theorem elem_ints : Tryd.prog.elem 26 = 3 := by kernel_rfl
theorem slice_to (a : Option Addr) (len cap j : Nat) (hj : j ≤ cap) (w : World) :
    (Instr.slice 26 (.slice a len cap) none (some (.int .i64 (j : Int))) none).run Tryd.prog w = .ok (.slice a j cap) w := by
  rw [run_slice_h (P := Tryd.prog) w 26 a len cap (by rw [elem_ints]; exact Tryd.underlying26) .i64 (j : Int) (by omega) (by omega), elem_ints, sizeOf_int]
  cases a <;> simp [sliced, Result.andThen, Addr.add]
theorem slice_from (a : Option Addr) (len cap j : Nat) (hj : j + 1 ≤ len) (w : World) :
    (Instr.slice 26 (.slice a len cap) (some (.int .i64 ((j : Int) + 1))) none none).run Tryd.prog w = .ok (.slice (if cap = j + 1 then a else a.map (·.add (j + 1))) (len - (j + 1)) (cap - (j + 1))) w := by
  rw [run_slice_l (P := Tryd.prog) w 26 a len cap (by rw [elem_ints]; exact Tryd.underlying26) .i64 ((j : Int) + 1) (by omega) (by omega), elem_ints, sizeOf_int]
  simp [sliced, Result.andThen, show ((j : Int) + 1).toNat = j + 1 from by omega]
end Go.Proofs.YtgcemkpinmjaeaaDoor

namespace Go.Proofs.YtgcemkpinmjaeaaDoor
open Go.RowKit
set_option linter.all false
def readInts (w : World) : Value → List Int
  | .slice (some a) n _ => (List.range n).map (fun i => match w.cell? (a.add i) with | some (.int _ x) => x | _ => 0)
  | _ => []
theorem readInts_is {w : World} {ao : Option Addr} {n cap : Nat} {xs : List Int} (h : Ints w ao n xs) : readInts w (.slice ao n cap) = xs := by
  obtain ⟨hn, _, hc⟩ := h
  subst hn
  cases ao with
  | none =>
    cases xs with
    | nil => rfl
    | cons x r =>
      obtain ⟨b, o, e, _⟩ := hc 0 (by simp)
      cases e
  | some a =>
    apply List.ext_getElem
    · simp [readInts]
    · intro i h1 h2
      obtain ⟨b, o, e, hcell⟩ := hc i h2
      injection e with e
      subst e
      simp [readInts, Addr.add_lit, hcell, List.getD, h2]
end Go.Proofs.YtgcemkpinmjaeaaDoor

namespace Go.Proofs.YtgcemkpinmjaeaaDoor
open Go.RowKit
set_option linter.all false
def marks (k : Int) (n : Nat) : List Int := (List.range n).map (fun i => k + (i : Nat))
theorem marks_len (k : Int) (n : Nat) : (marks k n).length = n := by simp [marks]
theorem marks_get {k : Int} {n i : Nat} (h : i < n) : (marks k n)[i]? = some (k + (i : Nat)) := by simp [marks, h]
def markT : Int → List (List Int) → List (List Int)
  | _, [] => []
  | k, r :: rs => marks k r.length :: markT (k + r.length) rs
def tot (xss : List (List Int)) : Int := (xss.map (fun r => (r.length : Int))).sum
theorem markT_len : ∀ (xss : List (List Int)) (k : Int), (markT k xss).length = xss.length
  | [], _ => rfl
  | r :: rs, k => by simp [markT, markT_len rs]
theorem tot_cons (r : List Int) (rs : List (List Int)) : tot (r :: rs) = r.length + tot rs := by simp [tot]
theorem tot_nonneg : ∀ (xss : List (List Int)), 0 ≤ tot xss
  | [] => by simp [tot]
  | r :: rs => by rw [tot_cons]; have := tot_nonneg rs; omega
theorem tot_rows {n : Nat} : ∀ {xss : List (List Int)}, (∀ r ∈ xss, r.length ≤ n) → tot xss ≤ (xss.length : Int) * n
  | [], _ => by simp [tot]
  | r :: rs, h => by
    have h1 := tot_rows (n := n) (xss := rs) (fun q hq => h q (List.mem_cons_of_mem _ hq))
    have h2 := h r (List.mem_cons_self ..)
    have e : (((r :: rs).length : Nat) : Int) * n = (rs.length : Int) * n + n := by rw [List.length_cons, Int.natCast_add, Int.add_mul]; omega
    rw [tot_cons, e]
    omega
theorem tot_take_succ {xss : List (List Int)} {i : Nat} {r : List Int} (h : xss[i]? = some r) : tot (xss.take (i + 1)) = tot (xss.take i) + r.length := by
  rw [← push_take h]
  simp [tot]
theorem tot_take_le {xss : List (List Int)} (i : Nat) : tot (xss.take i) ≤ tot xss := by
  have h : tot xss = tot (xss.take i) + tot (xss.drop i) := by
    simp only [tot, ← List.sum_append, ← List.map_append, List.take_append_drop]
  have := tot_nonneg (xss.drop i)
  omega
theorem markT_get : ∀ (xss : List (List Int)) (k : Int) (i : Nat) (r : List Int), xss[i]? = some r → (markT k xss)[i]? = some (marks (k + tot (xss.take i)) r.length)
  | [], _, _, _, h => by simp at h
  | q :: rs, k, 0, r, h => by
    simp at h
    subst h
    simp [markT, tot]
  | q :: rs, k, i + 1, r, h => by
    have := markT_get rs (k + q.length) i r (by simpa using h)
    simp only [markT, List.getElem?_cons_succ, List.take_succ_cons, tot_cons]
    rw [this, Int.add_assoc]

theorem only_setCell {a w : World} {g : Nat} (h : a.grownBy w (some g)) {p : Addr} (hp : p.block = g) (u : Value) : a.grownBy (w.setCell p u) (some g) :=
  ⟨h.os, h.tape, h.output, by simpa [World.setCell] using h.size, fun i hi hne => (Below.heap_setCell w p u i (by
    rintro rfl
    exact hne (by rw [hp]))).trans (h.block i hi hne)⟩

/-- Only blocks from lo to hi have changed. -/
structure Within (lo hi : Nat) (w w' : World) : Prop where
  os : w'.os = w.os
  tape : w'.tape = w.tape
  output : w'.output = w.output
  size : w.heap.size ≤ w'.heap.size
  block : ∀ k, k < w.heap.size → k < lo ∨ hi ≤ k → w'.heap[k]? = w.heap[k]?
theorem Within.refl (lo hi : Nat) (w : World) : Within lo hi w w := ⟨rfl, rfl, rfl, Nat.le_refl _, fun _ _ _ => rfl⟩
theorem Within.trans {lo hi : Nat} {a b c : World} (h : Within lo hi a b) (k : Within lo hi b c) : Within lo hi a c :=
  ⟨k.os.trans h.os, k.tape.trans h.tape, k.output.trans h.output, Nat.le_trans h.size k.size, fun i hi' ho => (k.block i (Nat.lt_of_lt_of_le hi' h.size) ho).trans (h.block i hi' ho)⟩
theorem Within.below {lo hi : Nat} {w w' : World} (h : Within lo hi w w') (hl : lo ≤ w.heap.size) : Below lo w w' :=
  ⟨h.os, h.tape, h.output, h.size, fun k hk => h.block k (by omega) (.inl hk)⟩
theorem Within.grown {lo hi : Nat} {w w' : World} {row : Option Nat} (h : w.grownBy w' row) (hr : ∀ b, row = some b → lo ≤ b ∧ b < hi) : Within lo hi w w' :=
  ⟨h.os, h.tape, h.output, h.size, fun k hk ho => h.block k hk (fun e => by have := hr k e.symm; omega)⟩
theorem Within.drewN {lo hi : Nat} {w w' : World} (h : Within lo hi w w') (n : Nat) : Within lo hi w (w'.drewN n) := ⟨h.os, h.tape, h.output, h.size, h.block⟩

theorem own_within {w w' : World} {lo lo' hi e size n : Nat} {v : Value} {xs : List Value} (h : w.ownsRow lo' e size v n xs) (hw : Within lo hi w w') (hl : hi ≤ lo') : w'.ownsRow lo' e size v n xs := by
  refine ⟨h.1, ?_⟩
  rcases h.2 with h2 | ⟨g, cap, cur, hv, hg, hh, r⟩
  · exact .inl h2
  · refine .inr ⟨g, cap, cur, hv, hg, ?_, r⟩
    rw [hw.block g (Array.getElem?_eq_some_iff.1 hh).1 (.inr (by omega))]; exact hh
theorem OInts.within {w w' : World} {lo lo' hi n : Nat} {v : Value} {xs : List Int} (h : OInts w lo' v n xs) (hw : Within lo hi w w') (hl : hi ≤ lo') : OInts w' lo' v n xs := ⟨h.1, own_within h.2 hw hl⟩
theorem OIntss.within {w w' : World} {lo lo' hi n : Nat} {v : Value} {xss : List (List Int)} (h : OIntss w lo' v n xss) (hw : Within lo hi w w') (hl : hi ≤ lo') : OIntss w' lo' v n xss := by
  obtain ⟨h1, h2, vs, ho, hr, hd⟩ := h
  exact ⟨h1, h2, vs, own_within ho hw hl, fun i u r hu hr' => (hr i u r hu hr').within hw hl, hd⟩

/-- A slice of the call's own, nil or at the head of a block. -/
theorem OInts.two {w : World} {lo n cap : Nat} {ao : Option Addr} {xs : List Int} (h : OInts w lo (.slice ao n cap) n xs) : (ao = none ∧ n = 0) ∨ ∃ g, ao = some ⟨g, 0, none⟩ := by
  rcases h.2.2 with ⟨e, hn⟩ | ⟨g, c, cur, e, _⟩
  · injection e with e1
    exact .inl ⟨e1, hn⟩
  · injection e with e1
    exact .inr ⟨g, e1⟩

/-- One row has been written by a callee. -/
theorem OIntss.written {w w' : World} {lo n : Nat} {v u : Value} {xss : List (List Int)} {k : Nat} {r r' : List Int} (h : OIntss w lo v n xss) (hk : xss[k]? = some r) {vs : List Value} (hvs : w.ownsRow lo 26 1 v n vs) (hu : vs[k]? = some u)
    (hr' : OInts w' lo u r'.length r') (hl : OInts w lo u r.length r) (hg : w.grownBy w' u.ownBlock) : OIntss w' lo v n (xss.set k r') := by
  obtain ⟨h1, h2, vs0, hv, hr, hd⟩ := h
  have e : vs = vs0 := by
    rcases hvs.2 with ⟨rfl, hn⟩ | ⟨g, cap, cur, rfl, _, hh, _, _, _, ht⟩
    · have l1 := hvs.1
      have l2 := hv.1
      rw [hn, Nat.zero_mul] at l1 l2
      rw [List.eq_nil_of_length_eq_zero l1, List.eq_nil_of_length_eq_zero l2]
    · rcases hv.2 with ⟨e, _⟩ | ⟨g', cap', cur', e, _, hh', _, _, _, ht'⟩
      · simp at e
      · simp only [Value.slice.injEq, Option.some.injEq, Addr.mk.injEq, and_true, true_and] at e
        obtain ⟨rfl, rfl⟩ := e
        rw [hh] at hh'
        simp at hh'
        subst hh'
        rw [← ht, ← ht']
  subst e
  refine ⟨h1, by simpa using h2, vs, ?_, ?_, hd⟩
  · refine hv.kept hg ?_
    rcases own_int_ne hl hv with e | e
    · cases hb : v.ownBlock with
      | none => exact .inl rfl
      | some b => right; rw [e]; simp
    · cases hb : v.ownBlock with
      | none => exact .inl rfl
      | some b => right; rw [← hb]; exact fun e2 => e e2.symm
  · intro i u' q hu' hq
    rw [List.getElem?_set] at hq
    by_cases e : k = i
    · subst e
      rw [hu] at hu'
      injection hu' with hu'
      subst hu'
      rw [if_pos rfl] at hq
      split at hq
      · injection hq with hq
        subst hq
        exact hr'
      · cases hq
    · rw [if_neg e] at hq
      have h3 := hr i u' q hu' hq
      exact h3.grown hg (hd i k u' u (by omega) hu' hu)
/-- The rows' values, each with its cell. -/
theorem OIntss.rows {w : World} {lo g n cap : Nat} {xss : List (List Int)} (h : OIntss w lo (.slice (some ⟨g, 0, none⟩) n cap) n xss) {k : Nat} {r : List Int} (hk : xss[k]? = some r) :
    ∃ vs ai ci, w.ownsRow lo 26 1 (.slice (some ⟨g, 0, none⟩) n cap) n vs ∧ vs[k]? = some (.slice ai r.length ci) ∧ w.cell? ⟨g, k, none⟩ = some (.slice ai r.length ci) ∧ OInts w lo (.slice ai r.length ci) r.length r := by
  obtain ⟨h1, h2, vs, hv, hr, hd⟩ := h
  have hvl : vs.length = n := by simpa using hv.1
  have hkn : k < n := by rw [← h2]; exact (List.getElem?_eq_some_iff.1 hk).1
  have h3 : vs[k]? = some vs[k] := List.getElem?_eq_getElem (by omega)
  have ho := hr k _ r h3 hk
  obtain ⟨ai, ci, e, _⟩ := ho.form
  have h4 := hv.cells (g := g) rfl k _ h3
  rw [Addr.add_lit] at h4
  rw [e] at h3 h4 ho
  exact ⟨vs, ai, ci, hv, h3, by simpa using h4, ho⟩
end Go.Proofs.YtgcemkpinmjaeaaDoor

namespace Go.Proofs.YtgcemkpinmjaeaaDoor
open Go.RowKit
set_option linter.all false
structure Since (lo hi : Nat) (w w' : World) : Prop where
  size : w.heap.size ≤ w'.heap.size
  block : ∀ k, lo ≤ k → k < hi → w'.heap[k]? = w.heap[k]?
theorem Since.refl (lo hi : Nat) (w : World) : Since lo hi w w := ⟨Nat.le_refl _, fun _ _ _ => rfl⟩
theorem Since.below {lo hi : Nat} {a b c : World} (h : Since lo hi a b) (k : Below b.heap.size b c) (hs : hi ≤ b.heap.size) : Since lo hi a c :=
  ⟨Nat.le_trans h.size k.size, fun i h1 h2 => (k.block i (by omega)).trans (h.block i h1 h2)⟩
theorem Since.older {lo hi l r : Nat} {a b c : World} (h : Since lo hi a b) (k : Within l r b c) (hl : hi ≤ l) (hs : hi ≤ b.heap.size) : Since lo hi a c :=
  ⟨Nat.le_trans h.size k.size, fun i h1 h2 => (k.block i (by omega) (.inl (by omega))).trans (h.block i h1 h2)⟩
theorem Since.newer {lo hi l r : Nat} {a b c : World} (h : Since lo hi a b) (k : Within l r b c) (hl : r ≤ lo) (hs : hi ≤ b.heap.size) : Since lo hi a c :=
  ⟨Nat.le_trans h.size k.size, fun i h1 h2 => (k.block i (by omega) (.inr (by omega))).trans (h.block i h1 h2)⟩
theorem own_since {w w' : World} {lo e size n : Nat} {v : Value} {xs : List Value} (h : w.ownsRow lo e size v n xs) (hw : Since lo w.heap.size w w') : w'.ownsRow lo e size v n xs := by
  refine ⟨h.1, ?_⟩
  rcases h.2 with h2 | ⟨g, cap, cur, hv, hg, hh, r⟩
  · exact .inl h2
  · refine .inr ⟨g, cap, cur, hv, hg, ?_, r⟩
    rw [hw.block g hg (Array.getElem?_eq_some_iff.1 hh).1]; exact hh
theorem OInts.since {w w' : World} {lo n : Nat} {v : Value} {xs : List Int} (h : OInts w lo v n xs) (hw : Since lo w.heap.size w w') : OInts w' lo v n xs := ⟨h.1, own_since h.2 hw⟩
theorem OIntss.since {w w' : World} {lo n : Nat} {v : Value} {xss : List (List Int)} (h : OIntss w lo v n xss) (hw : Since lo w.heap.size w w') : OIntss w' lo v n xss := by
  obtain ⟨h1, h2, vs, ho, hr, hd⟩ := h
  exact ⟨h1, h2, vs, own_since ho hw, fun i u r hu hr' => (hr i u r hu hr').since hw, hd⟩
theorem OInts.read {w : World} {lo n cap : Nat} {ao : Option Addr} {xs : List Int} (h : OInts w lo (.slice ao n cap) n xs) : Ints w ao n xs := by
  obtain ⟨ao', cap', e, hi⟩ := h.form
  injection e with e1
  subst e1
  exact hi
theorem OIntss.read {w : World} {lo n cap : Nat} {ao : Option Addr} {xss : List (List Int)} (h : OIntss w lo (.slice ao n cap) n xss) : Intss w ao n xss := by
  obtain ⟨ao', cap', e, hi⟩ := h.form
  injection e with e1
  subst e1
  exact hi
theorem Below.past {a b c : World} {l r : Nat} (h : Below a.heap.size a b) (k : Within l r b c) (h1 : l ≤ b.heap.size) (h2 : a.heap.size ≤ l) : Below a.heap.size a c :=
  h.trans ((k.below h1).mono h2)
end Go.Proofs.YtgcemkpinmjaeaaDoor

namespace Go.Proofs.YtgcemkpinmjaeaaDoor
open Go.RowKit
set_option linter.all false
/-- x lies from lo to hi. -/
def inR (x lo hi : Int) : Bool := decide (lo ≤ x) && decide (x ≤ hi)
theorem inR_true {x lo hi : Int} (h : inR x lo hi = true) : lo ≤ x ∧ x ≤ hi := by simpa [inR] using h
theorem inR_mk {x lo hi : Int} (h : lo ≤ x ∧ x ≤ hi) : inR x lo hi = true := by simpa [inR] using h
theorem inR_false {x lo hi : Int} (h : inR x lo hi = false) : x < lo ∨ hi < x := by
  rcases Int.lt_or_le x lo with h1 | h1
  · exact .inl h1
  · rcases Int.lt_or_le hi x with h2 | h2
    · exact .inr h2
    · rw [inR_mk ⟨h1, h2⟩] at h; cases h
theorem inR_no {x lo hi : Int} (h : x < lo ∨ hi < x) : inR x lo hi = false := by
  cases hb : inR x lo hi with
  | false => rfl
  | true => have := inR_true hb; omega

set_option maxHeartbeats 400000 in
theorem l1In_any (x lo hi : Int) (w : World) :
    Calls Tryd.prog 31 #[.int .i64 x, .int .i64 lo, .int .i64 hi] w fun e w' => e = .returned (.bool (inR x lo hi)) ∧ w = w' := by
  by_cases h : lo ≤ x
  · have h1 : decide (lo ≤ x) = true := by simpa using h
    have H : Hid (inR x lo hi = decide (x ≤ hi)) := by show inR x lo hi = _; simp [inR, h]
    go_enter Tryd.func31, Tryd.ntmps31
    go_wp2
    go_ret
    exact ⟨ret_bool H.out.symm, rfl⟩
  · have h1 : decide (lo ≤ x) = false := by simpa using h
    have H : Hid (inR x lo hi = false) := by show inR x lo hi = _; simp [inR, h]
    go_enter Tryd.func31, Tryd.ntmps31
    go_wp2
    go_ret
    exact ⟨ret_bool H.out.symm, rfl⟩
end Go.Proofs.YtgcemkpinmjaeaaDoor

namespace Go.Proofs.YtgcemkpinmjaeaaDoor
open Go.RowKit
set_option linter.all false
def allIn (lo hi : Int) (xs : List Int) : Bool := xs.all (fun x => inR x lo hi)
def tabIn (n : Nat) (lo hi : Int) (xss : List (List Int)) : Bool := xss.all (fun r => decide (r.length = n) && allIn lo hi r)
def isMat (xss : List (List Int)) : Bool := tabIn xss.length 0 1000000 xss && inR xss.length 1 9

theorem allIn_step {lo hi : Int} {xs : List Int} {k : Nat} {x : Int} {b : Bool} (hk : xs[k]? = some x) (h : allIn lo hi (xs.drop k) = b) :
    (inR x lo hi = true → allIn lo hi (xs.drop (k + 1)) = b) ∧ (inR x lo hi = false → b = false) := by
  rw [drop_of_get hk] at h
  generalize List.drop (k + 1) xs = r at *
  constructor
  · intro e; simpa [allIn, e] using h
  · intro e; simpa [allIn, e] using h.symm

theorem tabIn_step {n : Nat} {lo hi : Int} {xss : List (List Int)} {k : Nat} {r : List Int} {b : Bool} (hk : xss[k]? = some r) (h : tabIn n lo hi (xss.drop k) = b) :
    (r.length ≠ n → b = false) ∧ (allIn lo hi r = false → b = false) ∧ (r.length = n → allIn lo hi r = true → tabIn n lo hi (xss.drop (k + 1)) = b) := by
  rw [drop_of_get hk] at h
  generalize List.drop (k + 1) xss = q at *
  refine ⟨fun e => ?_, fun e => ?_, fun e1 e2 => ?_⟩
  · simpa [tabIn, e] using h.symm
  · simpa [tabIn, e] using h.symm
  · simpa [tabIn, e1, e2] using h

theorem allIn_get {lo hi : Int} {xs : List Int} (h : allIn lo hi xs = true) {k : Nat} {x : Int} (hk : xs[k]? = some x) : lo ≤ x ∧ x ≤ hi := by
  simp only [allIn, List.all_eq_true] at h
  exact inR_true (h x (List.mem_of_getElem? hk))
theorem tabIn_get {n : Nat} {lo hi : Int} {xss : List (List Int)} (h : tabIn n lo hi xss = true) {k : Nat} {r : List Int} (hk : xss[k]? = some r) : r.length = n ∧ allIn lo hi r = true := by
  simp only [tabIn, List.all_eq_true] at h
  simpa using h r (List.mem_of_getElem? hk)
theorem isMat_len {xss : List (List Int)} (h : isMat xss = true) : 1 ≤ xss.length ∧ xss.length ≤ 9 := by
  simp only [isMat, Bool.and_eq_true] at h
  have := inR_true h.2
  omega
theorem isMat_row {xss : List (List Int)} (h : isMat xss = true) {k : Nat} {r : List Int} (hk : xss[k]? = some r) : r.length = xss.length ∧ allIn 0 1000000 r = true := by
  simp only [isMat, Bool.and_eq_true] at h
  exact tabIn_get h.1 hk
end Go.Proofs.YtgcemkpinmjaeaaDoor

namespace Go.Proofs.YtgcemkpinmjaeaaDoor
open Go.RowKit
set_option linter.all false
def wdot : Int → List Int → List Int → Int
  | a, x :: r, y :: v => wdot (wrap64 (a + wrap64 (x * y))) r v
  | a, _, _ => a
theorem wdot_step {r v : List Int} {j : Nat} {x y a b : Int} (hx : r[j]? = some x) (hy : v[j]? = some y) (h : wdot a (r.drop j) (v.drop j) = b) :
    wdot (wrap64 (a + wrap64 (x * y))) (r.drop (j + 1)) (v.drop (j + 1)) = b := by
  rw [drop_of_get hx, drop_of_get hy] at h
  exact h
theorem wdot_end {r v : List Int} {j : Nat} {a b : Int} (hx : r.length ≤ j) (h : wdot a (r.drop j) (v.drop j) = b) : a = b := by
  rw [drop_all r j hx] at h
  exact h
end Go.Proofs.YtgcemkpinmjaeaaDoor
