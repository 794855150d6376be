/- Parts of the proof of a law, joined: Base LawKit LawHelp Arcs Blk ThA LabT LabArcs. -/
import Derived.WalkKit
import Derived.WalkSpells
import Derived.WalkLawsBesides
import Derived.BigQuiet
import Derived.Deep.QuietTactic
import Derived.Deep.Draws
import Derived.Deep.OwnRows
import Derived.Deep.DeepCutAuto
import Derived.Deep.RegionHeld3
import Derived.Lib.Hide
import Derived.Test.YtmkodbkbgpjgoaaProg
import Derived.Deep.RegionLaw
import Derived.Maps.AppendAt
import Derived.Test.YtmkodbkbgpjgoaaRows
import Derived.ProofKit
import Derived.OpenShut
import Derived.ShutString
import Derived.ChangeOld
import Derived.Deep.Matrix
namespace Go.Proofs.Ytmkodbkbgpjgoaa
open Go.RowKit
set_option linter.all false

/-- The slice value '.slice ao n cap' reads in w as the list xs. -/
def Ints (w : World) (ao : Option Addr) (n : Nat) (xs : List Int) : Prop :=
  xs.length = n ∧ n ≤ 1099511627776 ∧ ∀ i, i < xs.length → ∃ b o, ao = some ⟨b, o, none⟩ ∧ w.cell? ⟨b, o + i, none⟩ = some (.int .i64 (xs.getD i 0))

theorem Ints.keep {w w' : World} {ao : Option Addr} {n : Nat} {xs : List Int} (h : Ints w ao n xs) (hb : Below w.heap.size w w') : Ints w' ao n xs := by
  refine ⟨h.1, h.2.1, fun i hi => ?_⟩
  obtain ⟨b, o, e, hc⟩ := h.2.2 i hi
  exact ⟨b, o, e, (hb.cell (p := ⟨b, o + i, none⟩) (World.block_lt_of_cell? w _ hc)).trans hc⟩

theorem Ints.drewN {w : World} {ao : Option Addr} {n : Nat} {xs : List Int} (h : Ints w ao n xs) (k : Nat) : Ints (w.drewN k) ao n xs := h

theorem drop_all {α : Type} (xs : List α) (k : Nat) (h : xs.length ≤ k) : xs.drop k = [] := List.drop_eq_nil_of_le h

theorem below_drewN {B : Nat} {a w : World} (h : Below B a w) (n : Nat) : Below B a (w.drewN n) := ⟨h.os, h.tape, h.output, h.size, h.block⟩

/-- Only the tape has moved on. -/
def Drew (w w' : World) : Prop := ∃ m, w' = w.drewN m
theorem Drew.refl (w : World) : Drew w w := ⟨0, rfl⟩
theorem Drew.below {w w' : World} (h : Drew w w') (B : Nat) : Below B w w' := by
  obtain ⟨m, rfl⟩ := h
  exact below_drewN (Below.refl B w) m

/-- Two lists are one. -/
def eqL {α : Type} [DecidableEq α] (xs ys : List α) : Bool := decide (xs = ys)
theorem eqL_self {α : Type} [DecidableEq α] (xs : List α) : eqL xs xs = true := by simp [eqL]
theorem eqL_true {α : Type} [DecidableEq α] {xs ys : List α} (h : xs = ys) : eqL xs ys = true := by simp [eqL, h]
theorem eqL_false {α : Type} [DecidableEq α] {xs ys : List α} (h : xs ≠ ys) : eqL xs ys = false := by simp [eqL, h]
theorem eqL_len {α : Type} [DecidableEq α] {xs ys : List α} (h : xs.length ≠ ys.length) : eqL xs ys = false := eqL_false (by rintro rfl; exact h rfl)
theorem eqL_nil {α : Type} [DecidableEq α] {xs ys : List α} {k : Nat} (hx : xs.length ≤ k) (hy : ys.length ≤ k) : eqL (xs.drop k) (ys.drop k) = true := by
  rw [List.drop_eq_nil_of_le hx, List.drop_eq_nil_of_le hy]; simp [eqL]
theorem eqL_step {α : Type} [DecidableEq α] {xs ys : List α} {k : Nat} (hx : k < xs.length) (hy : k < ys.length) {b : Bool} (h : eqL (xs.drop k) (ys.drop k) = b) :
    (xs[k] = ys[k] → eqL (xs.drop (k + 1)) (ys.drop (k + 1)) = b) ∧ (xs[k] ≠ ys[k] → b = false) := by
  rw [List.drop_eq_getElem_cons hx, List.drop_eq_getElem_cons hy] at h
  simp only [eqL] at h ⊢
  subst h
  generalize List.drop (k + 1) xs = p
  generalize List.drop (k + 1) ys = q
  constructor
  · intro e; rw [e]; simp
  · intro e; simp [e]

theorem ret_int {k : IntKind} {a b : Int} (h : a = b) : Ending.returned (.int k a) = .returned (.int k b) := by rw [h]
theorem ret_bool {a b : Bool} (h : a = b) : Ending.returned (.bool a) = .returned (.bool b) := by rw [h]
theorem Drew.mk (w : World) (m : Nat) : Drew w (w.drewN m) := ⟨m, rfl⟩
theorem Drew.drewN {w w' : World} (h : Drew w w') (n : Nat) : Drew w (w'.drewN n) := by
  obtain ⟨m, rfl⟩ := h
  exact ⟨m + n, by simp⟩
theorem Drew.drew {w w' : World} (h : Drew w w') : Drew w w'.drew := h.drewN 1
theorem Drew.trans {a b c : World} (h : Drew a b) (k : Drew b c) : Drew a c := by
  obtain ⟨m, rfl⟩ := k
  exact h.drewN m

theorem info_int : (Try.prog.info? 3).map (fun i => (i.zero, i.size, i.bytes)) = some (some (.int .i64 0), 1, 8) := by kernel_rfl

/-- The slice value v is the call's own (its block lies from lo on), and holds just the list xs. -/
def OInts (w : World) (lo : Nat) (v : Value) (n : Nat) (xs : List Int) : Prop :=
  n ≤ 1099511627776 ∧ w.ownsRow lo 3 1 v n (xs.map (Value.int .i64))

theorem own_keep {w w' : World} {lo e size n : Nat} {v : Value} {xs : List Value} (h : w.ownsRow lo e size v n xs) (hb : Below w.heap.size w w') : w'.ownsRow lo e size v n xs := by
  refine ⟨h.1, ?_⟩
  rcases h.2 with h2 | ⟨g, cap, cur, hv, hg, hh, r⟩
  · exact .inl h2
  · refine .inr ⟨g, cap, cur, hv, hg, ?_, r⟩
    rw [hb.block g (Array.getElem?_eq_some_iff.1 hh).1]; exact hh

section
variable {w w' : World} {lo n : Nat} {v : Value} {xs : List Int}
theorem OInts.len (h : OInts w lo v n xs) : xs.length = n := by simpa using h.2.1
theorem OInts.keep (h : OInts w lo v n xs) (hb : Below w.heap.size w w') : OInts w' lo v n xs := ⟨h.1, own_keep h.2 hb⟩
theorem OInts.grown {row : Option Nat} (h : OInts w lo v n xs) (hg : w.grownBy w' row) (hne : v.ownBlock = none ∨ v.ownBlock ≠ row) : OInts w' lo v n xs := ⟨h.1, h.2.kept hg hne⟩
theorem OInts.alloc (h : OInts w lo v n xs) (o : Obj) : OInts (w.alloc o) lo v n xs := ⟨h.1, h.2.alloc o⟩
theorem OInts.drewN (h : OInts w lo v n xs) (k : Nat) : OInts (w.drewN k) lo v n xs := h
theorem OInts.mono {lo' : Nat} (h : OInts w lo v n xs) (hl : lo' ≤ lo) : OInts w lo' v n xs := by
  refine ⟨h.1, h.2.1, ?_⟩
  rcases h.2.2 with h2 | ⟨g, cap, cur, hv, hg, r⟩
  · exact .inl h2
  · exact .inr ⟨g, cap, cur, hv, Nat.le_trans hl hg, r⟩
/-- nil, or a slice at the head of a block. -/
theorem OInts.form (h : OInts w lo v n xs) : ∃ ao cap, v = .slice ao n cap ∧ Ints w ao n xs := by
  have hl := h.len
  rcases h.2.2 with ⟨rfl, rfl⟩ | ⟨g, cap, cur, rfl, hg, hh, hnc, _, _, ht⟩
  · exact ⟨none, 0, rfl, hl, h.1, fun i hi => by omega⟩
  · refine ⟨some ⟨g, 0, none⟩, cap, rfl, hl, h.1, fun i hi => ⟨g, 0, rfl, ?_⟩⟩
    have hc := h.2.cells (g := g) rfl i (.int .i64 (xs.getD i 0)) (by simp [List.getD, hi])
    rw [Addr.add_lit] at hc
    simpa using hc
end

section
variable {w w' : World} {lo g n cap : Nat} {xs : List Int}
theorem OInts.ints (h : OInts w lo (.slice (some ⟨g, 0, none⟩) n cap) n xs) : Ints w (some ⟨g, 0, none⟩) n xs := by
  obtain ⟨ao, c, e, hi⟩ := h.form
  injection e with e1 e2 e3
  subst e1
  exact hi
theorem OInts.lt (h : OInts w lo (.slice (some ⟨g, 0, none⟩) n cap) n xs) : lo ≤ g ∧ g < w.heap.size := h.2.lt g rfl
theorem OInts.cell (h : OInts w lo (.slice (some ⟨g, 0, none⟩) n cap) n xs) (k : Nat) (hk : k < n) : w.cell? ⟨g, k, none⟩ = some (.int .i64 (xs.getD k 0)) := by
  have hl := h.len
  obtain ⟨b, o, e, hc⟩ := h.ints.2.2 k (by omega)
  injection e with e
  injection e with e1 e2
  subst e1
  subst e2
  simpa using hc
theorem OInts.frozen (h : OInts w lo (.slice (some ⟨g, 0, none⟩) n cap) n xs) (k : Nat) : w.frozen? ⟨g, k, none⟩ = false := h.2.frozenAt k
theorem OInts.set (h : OInts w lo (.slice (some ⟨g, 0, none⟩) n cap) n xs) (k : Nat) (x : Int) : OInts (w.setCell ⟨g, k, none⟩ (.int .i64 x)) lo (.slice (some ⟨g, 0, none⟩) n cap) n (xs.set k x) := by
  refine ⟨h.1, ?_⟩
  rw [List.map_set]
  exact (h.2.stored k _).1
end

/-- What 'make([]int, n)' leaves. -/
theorem OInts.made (w : World) (n : Nat) (hn : n ≤ 1099511627776) : OInts (w.alloc (.cells (madeCells #[.int .i64 0] n) 3)) w.heap.size (.slice (some ⟨w.heap.size, 0, none⟩) n n) n (List.replicate n 0) := by
  refine ⟨hn, ?_⟩
  have h := World.ownsRow_lit (base := w.heap.size) (e := 3) (size := 1) w (madeCells #[.int .i64 0] n) n (Nat.le_refl _) (by unfold maxLen; omega) (by simp [madeCells])
  rw [toList_madeCells_one] at h
  simpa using h

theorem make_ints (n : Nat) (hn : n ≤ 1099511627776) (w : World) :
    (Instr.makeSlice 42 (.int .i64 (n : Int)) (.int .i64 (n : Int))).run Try.prog w = .ok (.slice (some ⟨w.heap.size, 0, none⟩) n n) (w.alloc (.cells (madeCells #[.int .i64 0] n) 3)) :=
  run_make_row' (P := Try.prog) 42 3 (.int .i64 0) 8 Try.underlying42 info_int rfl .i64 .i64 n (by omega) (by omega) w

theorem drop_of_get {α : Type} {xs : List α} {k : Nat} {x : α} (h : xs[k]? = some x) : xs.drop k = x :: xs.drop (k + 1) := by
  obtain ⟨hk, rfl⟩ := List.getElem?_eq_some_iff.1 h
  exact List.drop_eq_getElem_cons hk

theorem Ints.at_ {w : World} {ao : Option Addr} {n k : Nat} {xs : List Int} (h : Ints w ao n xs) (hk : k < n) :
    ∃ b o x, ao = some ⟨b, o, none⟩ ∧ w.cell? ⟨b, o + k, none⟩ = some (.int .i64 x) ∧ Hid (xs[k]? = some x) := by
  have hl : k < xs.length := by rw [h.1]; exact hk
  obtain ⟨b, o, e, hc⟩ := h.2.2 k hl
  exact ⟨b, o, xs.getD k 0, e, hc, by show xs[k]? = some _; simp [List.getD, hl]⟩

section
variable {P : Program} {f : FuncId} {args : Array Value} {w : World} {a n : Nat} {v : Value}
theorem quiet_D (h : Calls P f args (w.drewN n) fun e w' => e = .returned v ∧ Drew (w.drewN n) w') : Calls P f args (w.drewN n) fun e w'' => e = .returned v ∧ ∃ m, w'' = w.drewN m :=
  h.mono fun _ _ ⟨he, m, hm⟩ => ⟨he, n + m, by rw [hm, World.drewN_drewN]⟩
theorem quiet_Da (h : Calls P f args (w.drewN (a + n)) fun e w' => e = .returned v ∧ Drew (w.drewN (a + n)) w') : Calls P f args (w.drewN (a + n)) fun e w'' => e = .returned v ∧ ∃ m, w'' = w.drewN (a + m) :=
  h.mono fun _ _ ⟨he, m, hm⟩ => ⟨he, n + m, by rw [hm, World.drewN_drewN, Nat.add_assoc]⟩
theorem quiet_L (h : Calls P f args (w.drewN n) fun e w' => e = .returned v ∧ w.drewN n = w') : Calls P f args (w.drewN n) fun e w'' => e = .returned v ∧ ∃ m, w'' = w.drewN m :=
  h.mono fun _ _ ⟨he, hm⟩ => ⟨he, n, hm.symm⟩
theorem quiet_La (h : Calls P f args (w.drewN (a + n)) fun e w' => e = .returned v ∧ w.drewN (a + n) = w') : Calls P f args (w.drewN (a + n)) fun e w'' => e = .returned v ∧ ∃ m, w'' = w.drewN (a + m) :=
  h.mono fun _ _ ⟨he, hm⟩ => ⟨he, n, hm.symm⟩
end

theorem step2 {a b c : World} (h : Below a.heap.size a b) (k : Below b.heap.size b c) : Below a.heap.size a c := h.trans (k.mono h.size)
section
variable {P : Program} {f : FuncId} {args : Array Value} {w : World} {v : Value}
theorem ofL (h : Calls P f args w fun e w' => e = .returned v ∧ w = w') : Calls P f args w fun e w' => e = .returned v ∧ Below w.heap.size w w' :=
  h.mono fun _ _ ⟨he, hw⟩ => ⟨he, by subst hw; exact Below.refl _ _⟩
theorem ofD (h : Calls P f args w fun e w' => e = .returned v ∧ Drew w w') : Calls P f args w fun e w' => e = .returned v ∧ Below w.heap.size w w' :=
  h.mono fun _ _ ⟨he, hw⟩ => ⟨he, hw.below _⟩
theorem ofB (h : Calls P f args w fun e w' => e = .returned v ∧ Below w.heap.size w w') : Calls P f args w fun e w' => e = .returned v ∧ Below w.heap.size w w' := h
end
end Go.Proofs.Ytmkodbkbgpjgoaa

namespace Go.Proofs.Ytmkodbkbgpjgoaa
open Go.RowKit
set_option linter.all false
theorem info_ints : (Try.prog.info? 42).map (fun i => (i.zero, i.size, i.bytes)) = some (some (.slice none 0 0), 1, 24) := by kernel_rfl

/-- The slice value '.slice ao n cap' reads in w as the list xss of lists. -/
def Intss (w : World) (ao : Option Addr) (n : Nat) (xss : List (List Int)) : Prop :=
  xss.length = n ∧ n ≤ 1099511627776 ∧ ∀ i r, xss[i]? = some r → ∃ b o ai ci, ao = some ⟨b, o, none⟩ ∧ w.cell? ⟨b, o + i, none⟩ = some (.slice ai r.length ci) ∧ Ints w ai r.length r ∧ r.length ≤ ci

theorem Intss.keep {w w' : World} {ao : Option Addr} {n : Nat} {xss : List (List Int)} (h : Intss w ao n xss) (hb : Below w.heap.size w w') : Intss w' ao n xss := by
  refine ⟨h.1, h.2.1, fun i r hi => ?_⟩
  obtain ⟨b, o, ai, ci, e, hc, hr, hl⟩ := h.2.2 i r hi
  exact ⟨b, o, ai, ci, e, (hb.cell (p := ⟨b, o + i, none⟩) (World.block_lt_of_cell? w _ hc)).trans hc, hr.keep hb, hl⟩

theorem Intss.drewN {w : World} {ao : Option Addr} {n : Nat} {xss : List (List Int)} (h : Intss w ao n xss) (k : Nat) : Intss (w.drewN k) ao n xss := h

theorem Intss.at_ {w : World} {ao : Option Addr} {n k : Nat} {xss : List (List Int)} (h : Intss w ao n xss) (hk : k < n) :
    ∃ b o ai ci r, ao = some ⟨b, o, none⟩ ∧ w.cell? ⟨b, o + k, none⟩ = some (.slice ai r.length ci) ∧ Ints w ai r.length r ∧ Hid (xss[k]? = some r) := by
  have hl : k < xss.length := by rw [h.1]; exact hk
  obtain ⟨b, o, ai, ci, e, hc, hr, _⟩ := h.2.2 k xss[k] (List.getElem?_eq_getElem hl)
  exact ⟨b, o, ai, ci, _, e, hc, hr, List.getElem?_eq_getElem hl⟩
theorem Intss.cap_ {w : World} {ao : Option Addr} {n k : Nat} {xss : List (List Int)} (h : Intss w ao n xss) (hk : k < n) :
    ∃ b o ai ci r, ao = some ⟨b, o, none⟩ ∧ w.cell? ⟨b, o + k, none⟩ = some (.slice ai r.length ci) ∧ Ints w ai r.length r ∧ Hid (xss[k]? = some r) ∧ r.length ≤ ci := by
  have hl : k < xss.length := by rw [h.1]; exact hk
  obtain ⟨b, o, ai, ci, e, hc, hr, hl2⟩ := h.2.2 k xss[k] (List.getElem?_eq_getElem hl)
  exact ⟨b, o, ai, ci, _, e, hc, hr, List.getElem?_eq_getElem hl, hl2⟩

theorem OInts.capLe {w : World} {lo n m cap : Nat} {v : Value} {ao : Option Addr} {xs : List Int} (h : OInts w lo v n xs) (e : v = .slice ao m cap) : n ≤ cap := by
  rcases h.2.2 with ⟨rfl, rfl⟩ | ⟨g, c, cur, rfl, _, _, hnc, _⟩
  · exact Nat.zero_le _
  · injection e with _ _ e3
    omega

/-- The slice value v and its rows are the call's own, and hold just xss; no two rows share a block. -/
def OIntss (w : World) (lo : Nat) (v : Value) (n : Nat) (xss : List (List Int)) : Prop :=
  n ≤ 1099511627776 ∧ xss.length = n ∧ ∃ vs : List Value, w.ownsRow lo 42 1 v n vs ∧
    (∀ (i : Nat) (u : Value) (r : List Int), vs[i]? = some u → xss[i]? = some r → OInts w lo u r.length r) ∧
    (∀ (i j : Nat) (u u' : Value), i ≠ j → vs[i]? = some u → vs[j]? = some u' → u.ownBlock = none ∨ u.ownBlock ≠ u'.ownBlock)

section
variable {w w' : World} {lo n : Nat} {v : Value} {xss : List (List Int)}
theorem OIntss.len (h : OIntss w lo v n xss) : xss.length = n := h.2.1
theorem OIntss.keep (h : OIntss w lo v n xss) (hb : Below w.heap.size w w') : OIntss w' lo v n xss := by
  obtain ⟨h1, h2, vs, ho, hr, hd⟩ := h
  exact ⟨h1, h2, vs, own_keep ho hb, fun i u r hu hr' => (hr i u r hu hr').keep hb, hd⟩
theorem OIntss.alloc (h : OIntss w lo v n xss) (o : Obj) : OIntss (w.alloc o) lo v n xss := h.keep ((Below.refl _ _).alloc (Nat.le_refl _) o)
theorem OIntss.drewN (h : OIntss w lo v n xss) (k : Nat) : OIntss (w.drewN k) lo v n xss := h
theorem OIntss.mono {lo' : Nat} (h : OIntss w lo v n xss) (hl : lo' ≤ lo) : OIntss w lo' v n xss := by
  obtain ⟨h1, h2, vs, ho, hr, hd⟩ := h
  refine ⟨h1, h2, vs, ⟨ho.1, ?_⟩, fun i u r hu hr' => (hr i u r hu hr').mono hl, hd⟩
  rcases ho.2 with h2 | ⟨g, cap, cur, hv, hg, r⟩
  · exact .inl h2
  · exact .inr ⟨g, cap, cur, hv, Nat.le_trans hl hg, r⟩
theorem OIntss.form (h : OIntss w lo v n xss) : ∃ ao cap, v = .slice ao n cap ∧ Intss w ao n xss := by
  obtain ⟨h1, h2, vs, ho, hr, hd⟩ := h
  have hvl : vs.length = n := by simpa using ho.1
  rcases ho.2 with ⟨rfl, rfl⟩ | ⟨g, cap, cur, rfl, hg, hh, hnc, _, _, ht⟩
  · exact ⟨none, 0, rfl, h2, h1, fun i r hi => by rw [List.eq_nil_of_length_eq_zero h2] at hi; simp at hi⟩
  · refine ⟨some ⟨g, 0, none⟩, cap, rfl, h2, h1, fun i r hi => ?_⟩
    have hil : i < n := by rw [← h2]; exact (List.getElem?_eq_some_iff.1 hi).1
    have hv : vs[i]? = some vs[i] := List.getElem?_eq_getElem (by omega)
    obtain ⟨ai, ci, e, hints⟩ := (hr i _ r hv hi).form
    have hcap := (hr i _ r hv hi).capLe e
    have hc := ho.cells (g := g) rfl i _ hv
    rw [Addr.add_lit, e] at hc
    exact ⟨g, 0, ai, ci, rfl, hc, hints, hcap⟩
end

section
variable {w w' : World} {lo g n cap : Nat} {xss : List (List Int)}
theorem OIntss.intss (h : OIntss w lo (.slice (some ⟨g, 0, none⟩) n cap) n xss) : Intss w (some ⟨g, 0, none⟩) n xss := by
  obtain ⟨ao, c, e, hi⟩ := h.form
  injection e with e1 e2 e3
  subst e1
  exact hi
theorem OIntss.lt (h : OIntss w lo (.slice (some ⟨g, 0, none⟩) n cap) n xss) : lo ≤ g ∧ g < w.heap.size := by
  obtain ⟨_, _, vs, ho, _⟩ := h
  exact ho.lt g rfl
theorem OIntss.frozen (h : OIntss w lo (.slice (some ⟨g, 0, none⟩) n cap) n xss) (k : Nat) : w.frozen? ⟨g, k, none⟩ = false := by
  obtain ⟨_, _, vs, ho, _⟩ := h
  exact ho.frozenAt k
/-- The cell of a row. -/
theorem OIntss.cell (h : OIntss w lo (.slice (some ⟨g, 0, none⟩) n cap) n xss) (k : Nat) (hk : k < n) :
    ∃ u r, w.cell? ⟨g, k, none⟩ = some u ∧ xss[k]? = some r ∧ OInts w lo u r.length r ∧ u.ownBlock ≠ some g := by
  obtain ⟨h1, h2, vs, ho, hr, hd⟩ := h
  have hvl : vs.length = n := by simpa using ho.1
  have hv : vs[k]? = some vs[k] := List.getElem?_eq_getElem (by omega)
  have hx : xss[k]? = some xss[k] := List.getElem?_eq_getElem (by omega)
  have hc := ho.cells (g := g) rfl k _ hv
  rw [Addr.add_lit] at hc
  refine ⟨_, _, by simpa using hc, hx, hr k _ _ hv hx, ?_⟩
  intro e
  rcases (hr k _ _ hv hx).2.2 with ⟨e2, _⟩ | ⟨g', cap', cur', e2, _, hh, _⟩
  · rw [e2] at e; simp [Value.ownBlock] at e
  · rw [e2] at e
    simp [Value.ownBlock] at e
    subst e
    rcases ho.2 with ⟨e3, _⟩ | ⟨g3, cap3, cur3, e3, _, hh3, _⟩
    · simp at e3
    · simp only [Value.slice.injEq, Option.some.injEq, Addr.mk.injEq, and_true, true_and] at e3
      obtain ⟨rfl, rfl⟩ := e3
      rw [hh] at hh3
      simp at hh3
/-- A row of the call's own is stored; it lies in a block of its own. -/
theorem OIntss.set (h : OIntss w lo (.slice (some ⟨g, 0, none⟩) n cap) n xss) (k : Nat) {u : Value} {r : List Int} (hu : OInts w lo u r.length r)
    (hnew : ∀ b, u.ownBlock = some b → ∀ i u' r', i ≠ k → w.cell? ⟨g, i, none⟩ = some u' → xss[i]? = some r' → u'.ownBlock ≠ some b) :
    OIntss (w.setCell ⟨g, k, none⟩ u) lo (.slice (some ⟨g, 0, none⟩) n cap) n (xss.set k r) := by
  obtain ⟨h1, h2, vs, ho, hr, hd⟩ := h
  have hvl : vs.length = n := by simpa using ho.1
  have hst := ho.stored k u
  have hg : ∀ {u' : Value} {r' : List Int}, OInts w lo u' r'.length r' → u'.ownBlock = none ∨ u'.ownBlock ≠ some g := by
    intro u' r' ho'
    rcases ho'.2.2 with ⟨rfl, _⟩ | ⟨g', cap', cur', rfl, _, hh, _⟩
    · exact .inl rfl
    · right
      intro e
      simp [Value.ownBlock] at e
      subst e
      rcases ho.2 with ⟨e3, _⟩ | ⟨g3, cap3, cur3, e3, _, hh3, _⟩
      · simp at e3
      · simp only [Value.slice.injEq, Option.some.injEq, Addr.mk.injEq, and_true, true_and] at e3
        obtain ⟨rfl, rfl⟩ := e3
        rw [hh] at hh3
        simp at hh3
  have hcell : ∀ i u', vs[i]? = some u' → w.cell? ⟨g, i, none⟩ = some u' := by
    intro i u' hv
    have hc := ho.cells (g := g) rfl i _ hv
    rw [Addr.add_lit] at hc
    simpa using hc
  refine ⟨h1, by simpa using h2, vs.set k u, hst.1, ?_, ?_⟩
  · intro i u' r' hv hx
    rw [List.getElem?_set] at hv hx
    by_cases e : k = i
    · rw [if_pos e] at hv hx
      split at hv <;> split at hx <;> simp_all
      obtain ⟨rfl⟩ := hv
      obtain ⟨rfl⟩ := hx
      exact hu.grown hst.2 (hg hu)
    · rw [if_neg e] at hv hx
      exact (hr i u' r' hv hx).grown hst.2 (hg (hr i u' r' hv hx))
  · have key : ∀ i u', i ≠ k → vs[i]? = some u' → u.ownBlock = none ∨ u.ownBlock ≠ u'.ownBlock := by
      intro i u' hik hv
      cases hb : u.ownBlock with
      | none => exact .inl rfl
      | some b =>
        right
        have hi : i < xss.length := by rw [h2, ← hvl]; exact (List.getElem?_eq_some_iff.1 hv).1
        exact fun e => hnew b hb i u' _ hik (hcell i u' hv) (List.getElem?_eq_getElem hi) e.symm
    intro i j u1 u2 hij h3 h4
    rw [List.getElem?_set] at h3 h4
    by_cases ei : k = i
    · rw [if_pos ei] at h3
      rw [if_neg (by omega)] at h4
      split at h3
      · injection h3 with h3
        subst h3
        exact key j u2 (by omega) h4
      · cases h3
    · rw [if_neg ei] at h3
      by_cases ej : k = j
      · rw [if_pos ej] at h4
        split at h4
        · injection h4 with h4
          subst h4
          rcases key i u1 (by omega) h3 with h5 | h5
          · cases hb : u1.ownBlock with
            | none => exact .inl rfl
            | some b => right; rw [h5]; simp
          · cases hb : u1.ownBlock with
            | none => exact .inl rfl
            | some b => right; rw [← hb]; exact fun e => h5 e.symm
        · cases h4
      · rw [if_neg ej] at h4
        exact hd i j u1 u2 hij h3 h4
end

/-- What 'make([][]int, n)' leaves: n nil rows. -/
theorem OIntss.made (w : World) (n : Nat) (hn : n ≤ 1099511627776) : OIntss (w.alloc (.cells (madeCells #[.slice none 0 0] n) 42)) w.heap.size (.slice (some ⟨w.heap.size, 0, none⟩) n n) n (List.replicate n []) := by
  have h := World.ownsRow_lit (base := w.heap.size) (e := 42) (size := 1) w (madeCells #[.slice none 0 0] n) n (Nat.le_refl _) (by unfold maxLen; omega) (by simp [madeCells])
  rw [toList_madeCells_one] at h
  refine ⟨hn, by simp, _, h, ?_, ?_⟩
  · intro i u r hu hr
    have e1 : u = .slice none 0 0 := by rw [List.getElem?_replicate] at hu; split at hu <;> simp_all
    have e2 : r = [] := by rw [List.getElem?_replicate] at hr; split at hr <;> simp_all
    subst e1
    subst e2
    exact ⟨by simp, by simp, .inl ⟨rfl, rfl⟩⟩
  · intro i j u u' _ hu _
    left
    rw [List.getElem?_replicate] at hu
    split at hu
    · injection hu with hu
      subst hu
      rfl
    · cases hu

theorem make_intss (n : Nat) (hn : n ≤ 1099511627776) (w : World) :
    (Instr.makeSlice 92 (.int .i64 (n : Int)) (.int .i64 (n : Int))).run Try.prog w = .ok (.slice (some ⟨w.heap.size, 0, none⟩) n n) (w.alloc (.cells (madeCells #[.slice none 0 0] n) 42)) :=
  run_make_row' (P := Try.prog) 92 42 (.slice none 0 0) 24 Try.underlying92 info_ints rfl .i64 .i64 n (by omega) (by omega) w
end Go.Proofs.Ytmkodbkbgpjgoaa

namespace Go.Proofs.Ytmkodbkbgpjgoaa
open Go.RowKit
set_option linter.all false
section
variable {w w' : World} {lo n : Nat} {v u : Value} {xss : List (List Int)} {r : List Int}

/-- Two values of which the blocks differ. -/
def Apart (u v : Value) : Prop := ∀ b, u.ownBlock = some b → v.ownBlock ≠ some b

theorem own_int_ne {lo' m : Nat} {vs : List Value} (hu : OInts w lo u r.length r) (hv : w.ownsRow lo' 42 1 v m vs) : u.ownBlock = none ∨ u.ownBlock ≠ v.ownBlock := by
  rcases hu.2.2 with ⟨rfl, _⟩ | ⟨g, cap, cur, rfl, _, hh, _⟩
  · exact .inl rfl
  · right
    rcases hv.2 with ⟨rfl, _⟩ | ⟨g', cap', cur', rfl, _, hh', _⟩
    · simp [Value.ownBlock]
    · intro e
      simp [Value.ownBlock] at e
      subst e
      rw [hh] at hh'
      simp at hh'

/-- What an append of one row leaves. -/
theorem OIntss.pushed {v' : Value} (h : OIntss w lo v n xss) (hn : n + 1 ≤ 1099511627776) (hu : OInts w lo u r.length r)
    (hfar : ∀ (i : Nat) (u' : Value) (r' : List Int), (∃ vs : List Value, w.ownsRow lo 42 1 v n vs ∧ vs[i]? = some u') → xss[i]? = some r' → OInts w lo u' r'.length r' → Apart u u')
    (hg : w.grownBy w' v.ownBlock) (hown : ∀ vs, w.ownsRow lo 42 1 v n vs → w'.ownsRow lo 42 1 v' (n + 1) (vs ++ [u])) :
    OIntss w' lo v' (n + 1) (xss ++ [r]) := by
  obtain ⟨h1, h2, vs, ho, hr, hd⟩ := h
  have hvl : vs.length = n := by simpa using ho.1
  have key : ∀ (i : Nat) (u' : Value), vs[i]? = some u' → Apart u u' := by
    intro i u' hv
    have hi : i < xss.length := by rw [h2, ← hvl]; exact (List.getElem?_eq_some_iff.1 hv).1
    exact hfar i u' _ ⟨vs, ho, hv⟩ (List.getElem?_eq_getElem hi) (hr i u' _ hv (List.getElem?_eq_getElem hi))
  refine ⟨hn, by simp [h2], vs ++ [u], hown vs ho, ?_, ?_⟩
  · intro i u' r' hv hx
    by_cases hi : i < n
    · rw [List.getElem?_append_left (by omega)] at hv hx
      have := hr i u' r' hv hx
      exact this.grown hg (own_int_ne this ho)
    · rw [List.getElem?_append_right (by omega)] at hv hx
      rw [hvl] at hv
      rw [h2] at hx
      have hz : i - n = 0 := by
        have := (List.getElem?_eq_some_iff.1 hv).1
        simp at this
        omega
      rw [hz] at hv hx
      simp at hv hx
      subst hv
      subst hx
      exact hu.grown hg (own_int_ne hu ho)
  · intro i j u1 u2 hij h3 h4
    by_cases hi : i < n
    · rw [List.getElem?_append_left (by omega)] at h3
      by_cases hj : j < n
      · rw [List.getElem?_append_left (by omega)] at h4
        exact hd i j u1 u2 hij h3 h4
      · rw [List.getElem?_append_right (by omega), hvl] at h4
        have hz : j - n = 0 := by
          have := (List.getElem?_eq_some_iff.1 h4).1
          simp at this
          omega
        rw [hz] at h4
        simp at h4
        subst h4
        cases hb : u1.ownBlock with
        | none => exact .inl rfl
        | some b => right; exact fun e => key i u1 h3 b (by rw [← e]) hb
    · rw [List.getElem?_append_right (by omega), hvl] at h3
      have hz : i - n = 0 := by
        have := (List.getElem?_eq_some_iff.1 h3).1
        simp at this
        omega
      rw [hz] at h3
      simp at h3
      subst h3
      have hj : j < n := by
        have := (List.getElem?_eq_some_iff.1 h4).1
        simp [hvl] at this
        omega
      rw [List.getElem?_append_left (by omega)] at h4
      cases hb : u.ownBlock with
      | none => exact .inl rfl
      | some b => right; exact fun e => key j u2 h4 b hb e.symm

/-- The row lies in a block that is newer than all that was there when the slice was looked at last. -/
theorem far_new {w0 : World} (h : OIntss w0 lo v n xss) (hb : Below w0.heap.size w0 w) (hu : ∀ b, u.ownBlock = some b → w0.heap.size ≤ b) :
    ∀ (i : Nat) (u' : Value) (r' : List Int), (∃ vs : List Value, w.ownsRow lo 42 1 v n vs ∧ vs[i]? = some u') → xss[i]? = some r' → OInts w lo u' r'.length r' → Apart u u' := by
  intro i u' r' ⟨vs, ho, hv⟩ _ _ b hbu hbu'
  obtain ⟨h1, h2, vs0, ho0, hr0, _⟩ := h
  have ho0' := own_keep ho0 hb
  have e : vs = vs0 := by
    rcases ho.2 with ⟨rfl, hn⟩ | ⟨g, cap, cur, rfl, _, hh, _, _, _, ht⟩
    · have l1 := ho.1
      have l2 := ho0.1
      rw [hn, Nat.zero_mul] at l1 l2
      rw [List.eq_nil_of_length_eq_zero l1, List.eq_nil_of_length_eq_zero l2]
    · rcases ho0'.2 with ⟨e, _⟩ | ⟨g', cap', cur', e, _, hh', _, _, _, ht'⟩
      · simp at e
      · simp only [Value.slice.injEq, Option.some.injEq, Addr.mk.injEq, and_true, true_and] at e
        obtain ⟨rfl, rfl⟩ := e
        rw [hh] at hh'
        simp at hh'
        subst hh'
        rw [← ht, ← ht']
  subst e
  have hi : i < xss.length := by rw [h2]; have := (List.getElem?_eq_some_iff.1 hv).1; have := ho0.1; simp at this; omega
  have := (hr0 i u' _ hv (List.getElem?_eq_getElem hi)).2.lt b hbu'
  have := hu b hbu
  omega
end

section
variable {w w' : World} {lo g n cap : Nat} {xss : List (List Int)}
/-- Row k, where it is not empty. -/
theorem OIntss.rowAt (h : OIntss w lo (.slice (some ⟨g, 0, none⟩) n cap) n xss) {k : Nat} {r : List Int} (hk : xss[k]? = some r) (hr : 0 < r.length) :
    ∃ gk ck, w.cell? ⟨g, k, none⟩ = some (.slice (some ⟨gk, 0, none⟩) r.length ck) ∧ OInts w lo (.slice (some ⟨gk, 0, none⟩) r.length ck) r.length r ∧ gk ≠ g ∧ lo ≤ gk := by
  have hkn : k < n := by rw [← h.len]; exact (List.getElem?_eq_some_iff.1 hk).1
  obtain ⟨u, r', hc, hx, ho, hne⟩ := h.cell k hkn
  rw [hk] at hx
  injection hx with hx
  subst hx
  rcases ho.2.2 with ⟨_, hz⟩ | ⟨gk, ck, cur, rfl, hlo, hh, rest⟩
  · omega
  · exact ⟨gk, ck, hc, ⟨ho.1, ho.2.1, .inr ⟨gk, ck, cur, rfl, hlo, hh, rest⟩⟩, fun e => hne (by simp [Value.ownBlock, e]), hlo⟩

/-- A number is stored into row k. -/
theorem OIntss.setIn (h : OIntss w lo (.slice (some ⟨g, 0, none⟩) n cap) n xss) {k : Nat} {r : List Int} (hk : xss[k]? = some r) {gk ck : Nat}
    (hc : w.cell? ⟨g, k, none⟩ = some (.slice (some ⟨gk, 0, none⟩) r.length ck)) (ho : OInts w lo (.slice (some ⟨gk, 0, none⟩) r.length ck) r.length r) (j : Nat) (x : Int) :
    OIntss (w.setCell ⟨gk, j, none⟩ (.int .i64 x)) lo (.slice (some ⟨g, 0, none⟩) n cap) n (xss.set k (r.set j x)) := by
  obtain ⟨h1, h2, vs, hv, hr, hd⟩ := h
  have hvl : vs.length = n := by simpa using hv.1
  have hkn : k < n := by rw [← h2]; exact (List.getElem?_eq_some_iff.1 hk).1
  have hvk : vs[k]? = some (.slice (some ⟨gk, 0, none⟩) r.length ck) := by
    have h3 : vs[k]? = some vs[k] := List.getElem?_eq_getElem (by omega)
    have h4 := hv.cells (g := g) rfl k _ h3
    rw [Addr.add_lit] at h4
    simp at h4
    rw [h4] at hc
    injection hc with hc
    rw [h3, hc]
  have hst := ho.2.stored j (.int .i64 x)
  have hset := ho.set j x
  refine ⟨h1, by simpa using h2, vs, ?_, ?_, hd⟩
  · refine hv.kept hst.2 ?_
    have := own_int_ne ho hv
    rcases this with e | e
    · simp [Value.ownBlock] at e
    · right
      intro e2
      exact e (by rw [e2]; rfl)
  · intro i u' r' hu' hr'
    rw [List.getElem?_set] at hr'
    by_cases e : k = i
    · subst e
      rw [hvk] at hu'
      injection hu' with hu'
      subst hu'
      rw [if_pos rfl] at hr'
      split at hr'
      · injection hr' with hr'
        subst hr'
        simpa using hset
      · cases hr'
    · rw [if_neg e] at hr'
      have h3 := hr i u' r' hu' hr'
      refine h3.grown hst.2 ?_
      rcases hd i k u' _ (by omega) hu' hvk with e2 | e2
      · exact .inl e2
      · right
        intro e3
        exact e2 (by rw [e3]; rfl)
end
end Go.Proofs.Ytmkodbkbgpjgoaa

namespace Go.Proofs.Ytmkodbkbgpjgoaa
open Go.RowKit
set_option linter.all false
theorem info_int_parts : ∃ i, Try.prog.info? 3 = some i ∧ i.zero = some (.int .i64 0) ∧ i.size = 1 ∧ i.bytes = 8 := info_parts info_int

theorem wpList_push_int {ops : Array Oper} {rest : List Oper} {o : Oper} {a : Act} {Q : Exit → Act → World → Prop} (w : World) (hgd : o.guard = none) (s x : Operand)
    (ho : o.op = .call { callee := .builtin .append, args := #[s, x], argTypes := #[42, 42] })
    (lo : Nat) (v : Value) (n : Nat) (xs : List Int) (hs : a.eval s = v) (h : OInts w lo v n xs) (hn : n + 1 ≤ 1099511627776)
    (tb : Nat) (y : Int) (hx : a.eval x = .slice (some ⟨tb, 0, none⟩) 1 1) (hc : w.cell? ⟨tb, 0, none⟩ = some (.int .i64 y))
    (hlo : lo ≤ w.heap.size)
    (K : ∀ v' w', OInts w' lo v' (n + 1) (xs ++ [y]) → w.grownBy w' v.ownBlock → wpList Try.prog ops Q rest (a.put o.dst v') w') : wpList Try.prog ops Q (o :: rest) a w := by
  obtain ⟨i0, hi, hz0, hz1, hz2⟩ := info_int_parts
  refine wpList_append_own w hgd s x 42 ho lo 3 i0 (.int .i64 0) 1 8 Try.underlying42 hi hz0 hz1 hz2 rfl (by decide) v n _ hs h.2 ⟨tb, 0, none⟩ 1 1 [.int .i64 y] hx rfl ?_ ?_ ?_ ?_ hlo ?_
  · intro j u' hj
    match j, hj with
    | 0, hj =>
      simp at hj
      subst hj
      simpa [Addr.add] using hc
  · intro u' hu'
    simp at hu'
    subst hu'
    rfl
  · unfold maxLen; omega
  · omega
  · intro v' w' hown hgrow _
    refine K v' w' ⟨hn, ?_⟩ hgrow
    rw [List.map_append]
    exact hown

theorem run_append_nil_src {P : Program} {w : World} {lo t ty e size n : Nat} {i : TypeInfo} {v : Value} {xs : List Value} (ht : P.underlying t = some (.slice e)) (hi : P.info? e = some i)
    (h : w.ownsRow lo e size v n xs) (c : Nat) : (Builtin.append_ #[t, t] ty #[v, .slice none 0 c]).run P w = .ok v w := by
  rcases h.2 with ⟨rfl, rfl⟩ | ⟨g, cap, cur, rfl, _, _, hnc, _⟩
  · simp [Builtin.append_, run_underlying ht, sizeOf, typeInfo, hi, Builtin.lenOf, Builtin.firstCells]
  · simp [Builtin.append_, run_underlying ht, sizeOf, typeInfo, hi, Builtin.lenOf, Builtin.firstCells, hnc, storeCells]

set_option maxRecDepth 8000 in
theorem wpList_app_ints {ops : Array Oper} {rest : List Oper} {o : Oper} {a : Act} {Q : Exit → Act → World → Prop} (w : World) (hgd : o.guard = none) (s x : Operand)
    (ho : o.op = .call { callee := .builtin .append, args := #[s, x], argTypes := #[42, 42] })
    (lo : Nat) (v : Value) (n : Nat) (xs : List Int) (hs : a.eval s = v) (h : OInts w lo v n xs)
    (ao : Option Addr) (m c : Nat) (ys : List Int) (hx : a.eval x = .slice ao m c) (hy : Ints w ao m ys) (hn : n + m ≤ 1099511627776)
    (hlo : lo ≤ w.heap.size)
    (K : ∀ v' w', OInts w' lo v' (n + m) (xs ++ ys) → w.grownBy w' v.ownBlock → wpList Try.prog ops Q rest (a.put o.dst v') w') : wpList Try.prog ops Q (o :: rest) a w := by
  obtain ⟨i0, hi, hz0, hz1, hz2⟩ := info_int_parts
  rcases ao with _ | ad
  · have hm : m = 0 := by
      rcases Nat.eq_zero_or_pos m with h0 | h0
      · exact h0
      · obtain ⟨b, o', e, _⟩ := hy.2.2 0 (by rw [hy.1]; exact h0)
        cases e
    subst hm
    have hyn : ys = [] := List.eq_nil_of_length_eq_zero hy.1
    subst hyn
    refine wpList_plain hgd fun K' hK => ?_
    have hrun := run_append_nil_src (ty := o.type) (lo := lo) Try.underlying42 hi h.2 c
    unfold Oper.wp execOp
    simp only [ho, resolve, invoke, builtin, Sem.run_bind, Sem.run_pure, Result.andThen_ok, List.map_toArray, List.map_cons, List.map_nil, hs, hx, hrun]
    exact hK _ _ (K v w (by simpa using h) (World.grownBy.refl w _))
  · have hcells : ∀ j u, (ys.map (Value.int .i64))[j]? = some u → w.cell? (ad.add j) = some u := by
      intro j u hu
      have hj : j < ys.length := by simpa using (List.getElem?_eq_some_iff.1 hu).1
      obtain ⟨b, o', e, hc⟩ := hy.2.2 j hj
      injection e with e
      subst e
      rw [Addr.add_lit, hc]
      simpa [List.getD, hj] using hu
    refine wpList_append_own w hgd s x 42 ho lo 3 i0 (.int .i64 0) 1 8 Try.underlying42 hi hz0 hz1 hz2 rfl (by decide) v n _ hs h.2 ad m c (ys.map (Value.int .i64)) hx (by simp [hy.1]) hcells (ints_oneCell _ _) ?_ ?_ hlo ?_
    · unfold maxLen; omega
    · omega
    · intro v' w' hown hgrow _
      refine K v' w' ⟨hn, ?_⟩ hgrow
      rw [List.map_append]
      exact hown

/-- An empty slice that the call makes ('[]int{}'). -/
theorem OInts.none_ (w : World) (lo : Nat) : OInts w lo (.slice none 0 0) 0 [] := ⟨by omega, by simp, .inl ⟨rfl, rfl⟩⟩
theorem OInts.empty (w : World) (lo : Nat) (hlo : lo ≤ w.heap.size) : OInts (w.alloc (.cells #[] 3)) lo (.slice (some ⟨w.heap.size, 0, none⟩) 0 0) 0 [] := by
  refine ⟨by omega, ?_⟩
  have h := World.ownsRow_made (base := lo) (e := 3) (size := 1) w #[] 0 hlo (by unfold maxLen; omega) rfl
  simpa using h
/-- The parts of a slice that reads as a list. -/
theorem Ints.take {w : World} {ao : Option Addr} {n k : Nat} {xs : List Int} (h : Ints w ao n xs) (hk : k ≤ n) : Ints w ao k (xs.take k) := by
  refine ⟨by rw [List.length_take, h.1]; omega, by have := h.2.1; omega, fun i hi => ?_⟩
  rw [List.length_take, h.1] at hi
  obtain ⟨b, o, e, hc⟩ := h.2.2 i (by rw [h.1]; omega)
  refine ⟨b, o, e, ?_⟩
  rw [hc]
  congr 2
  simp [List.getD, List.getElem?_take, show i < k by omega]
theorem Ints.drop {w : World} {ao : Option Addr} {n k cap : Nat} {xs : List Int} (h : Ints w ao n xs) (hk : k ≤ n) (hcap : n ≤ cap) : Ints w (if cap = k then ao else ao.map (·.add k)) (n - k) (xs.drop k) := by
  refine ⟨by rw [List.length_drop, h.1], by have := h.2.1; omega, fun i hi => ?_⟩
  rw [List.length_drop, h.1] at hi
  obtain ⟨b, o, e, hc⟩ := h.2.2 (k + i) (by rw [h.1]; omega)
  rw [if_neg (by omega), e]
  refine ⟨b, o + k, by simp [Addr.add_lit], ?_⟩
  rw [Nat.add_assoc, hc]
  congr 2
  simp [List.getD]
end Go.Proofs.Ytmkodbkbgpjgoaa

namespace Go.Proofs.Ytmkodbkbgpjgoaa
open Go.RowKit
set_option linter.all false
theorem own_unique {w : World} {lo lo' e size n : Nat} {v : Value} {xs ys : List Value} (h : w.ownsRow lo e size v n xs) (h' : w.ownsRow lo' e size v n ys) : xs = ys := by
  rcases h.2 with ⟨rfl, hn⟩ | ⟨g, cap, cur, rfl, _, hh, _, _, _, ht⟩
  · have l1 := h.1
    have l2 := h'.1
    rw [hn, Nat.zero_mul] at l1 l2
    rw [List.eq_nil_of_length_eq_zero l1, List.eq_nil_of_length_eq_zero l2]
  · rcases h'.2 with ⟨e, _⟩ | ⟨g', cap', cur', e, _, hh', _, _, _, ht'⟩
    · simp at e
    · simp only [Value.slice.injEq, Option.some.injEq, Addr.mk.injEq, and_true, true_and] at e
      obtain ⟨rfl, rfl⟩ := e
      rw [hh] at hh'
      simp at hh'
      subst hh'
      rw [← ht, ← ht']

theorem wpList_push_row {ops : Array Oper} {rest : List Oper} {o : Oper} {a : Act} {Q : Exit → Act → World → Prop} (w : World) (hgd : o.guard = none) (s x : Operand)
    (ho : o.op = .call { callee := .builtin .append, args := #[s, x], argTypes := #[92, 92] })
    (lo : Nat) (v : Value) (n : Nat) (xss : List (List Int)) (hs : a.eval s = v) (h : OIntss w lo v n xss) (hn : n + 1 ≤ 1099511627776)
    (tb : Nat) (u : Value) (r : List Int) (hx : a.eval x = .slice (some ⟨tb, 0, none⟩) 1 1) (hc : w.cell? ⟨tb, 0, none⟩ = some u) (hu : OInts w lo u r.length r)
    (hfar : ∀ (i : Nat) (u' : Value) (r' : List Int), (∃ vs : List Value, w.ownsRow lo 42 1 v n vs ∧ vs[i]? = some u') → xss[i]? = some r' → OInts w lo u' r'.length r' → Apart u u')
    (hlo : lo ≤ w.heap.size)
    (K : ∀ v' w', OIntss w' lo v' (n + 1) (xss ++ [r]) → w.grownBy w' v.ownBlock → wpList Try.prog ops Q rest (a.put o.dst v') w') : wpList Try.prog ops Q (o :: rest) a w := by
  obtain ⟨i0, hi, hz0, hz1, hz2⟩ := info_parts info_ints
  obtain ⟨h1, h2, vs, hv, hr, hd⟩ := h
  have hone : u.oneCell' = true := by
    rcases hu.2.2 with ⟨rfl, _⟩ | ⟨_, _, _, rfl, _⟩ <;> rfl
  refine wpList_append_own w hgd s x 92 ho lo 42 i0 (.slice none 0 0) 1 24 Try.underlying92 hi hz0 hz1 hz2 rfl (by decide) v n vs hs hv ⟨tb, 0, none⟩ 1 1 [u] hx rfl ?_ ?_ ?_ ?_ hlo ?_
  · intro j u' hj
    match j, hj with
    | 0, hj =>
      simp at hj
      subst hj
      simpa [Addr.add] using hc
  · intro u' hu'
    simp at hu'
    subst hu'
    exact hone
  · unfold maxLen; omega
  · omega
  · intro v' w' hown hgrow _
    refine K v' w' ?_ hgrow
    exact OIntss.pushed ⟨h1, h2, vs, hv, hr, hd⟩ hn hu hfar hgrow fun vs' hv' => by rw [own_unique hv' hv]; exact hown

theorem OIntss.ownlt {w : World} {lo n : Nat} {v : Value} {xss : List (List Int)} (h : OIntss w lo v n xss) : ∀ k, v.ownBlock = some k → lo ≤ k ∧ k < w.heap.size := by
  obtain ⟨_, _, vs, ho, _⟩ := h
  exact ho.lt
theorem OInts.ownlt {w : World} {lo n : Nat} {v : Value} {xs : List Int} (h : OInts w lo v n xs) : ∀ k, v.ownBlock = some k → lo ≤ k ∧ k < w.heap.size := h.2.lt
theorem OIntss.none_ (w : World) (lo : Nat) : OIntss w lo (.slice none 0 0) 0 [] :=
  ⟨by omega, rfl, [], ⟨by simp, .inl ⟨rfl, rfl⟩⟩, fun i u r h => by simp at h, fun i j u u' _ h => by simp at h⟩
theorem OIntss.empty (w : World) (lo : Nat) (hlo : lo ≤ w.heap.size) : OIntss (w.alloc (.cells #[] 42)) lo (.slice (some ⟨w.heap.size, 0, none⟩) 0 0) 0 [] :=
  ⟨by omega, rfl, [], World.ownsRow_made (base := lo) (e := 42) (size := 1) w #[] 0 hlo (by unfold maxLen; omega) rfl, fun i u r h => by simp at h, fun i j u u' _ h => by simp at h⟩

/-- A row that is newer than the world wr, in which the slice was looked at last, is pushed. -/
theorem wpList_push_fresh {ops : Array Oper} {rest : List Oper} {o : Oper} {a : Act} {Q : Exit → Act → World → Prop} (W : World) (u : Value) (wr : World) (hgd : o.guard = none) (s x : Operand)
    (ho : o.op = .call { callee := .builtin .append, args := #[s, x], argTypes := #[92, 92] })
    (lo : Nat) (v : Value) (n : Nat) (xss : List (List Int)) (hs : a.eval s = v) (h : OIntss wr lo v n xss) (hn : n + 1 ≤ 1099511627776) (hlo : lo ≤ wr.heap.size) (hW : Below wr.heap.size wr W)
    (m : Nat) (r : List Int) (hu : OInts W wr.heap.size u m r) (tb : Nat) (htb : tb = W.heap.size) (hx : a.eval x = .slice (some ⟨tb, 0, none⟩) 1 1)
    (K : ∀ v' w', OIntss w' lo v' (n + 1) (xss ++ [r]) → Below lo wr w' → (W.alloc (.cells #[u] 42)).grownBy w' v.ownBlock → wpList Try.prog ops Q rest (a.put o.dst v') w') : wpList Try.prog ops Q (o :: rest) a (W.alloc (.cells #[u] 42)) := by
  subst htb
  have hml := hu.len
  subst hml
  have hW2 : Below wr.heap.size wr (W.alloc (.cells #[u] 42)) := hW.alloc hW.size _
  refine wpList_push_row _ hgd s x ho lo v n xss hs (h.keep hW2) hn W.heap.size u r hx (World.cell?_alloc_new _ _ _ _) ((hu.alloc _).mono hlo) (far_new h hW2 fun b hb => (hu.ownlt b hb).1) (by simp; have := hW.size; omega) ?_
  intro v' w' hown hgrow
  exact K v' w' hown ((hW2.mono hlo).grown hgrow (by simp; have := hW.size; omega) fun k hk => (h.ownlt k hk).1) hgrow
end Go.Proofs.Ytmkodbkbgpjgoaa

namespace Go.Proofs.Ytmkodbkbgpjgoaa
open Go.RowKit
set_option linter.all false
/- The same laws for a region that draws its order. -/
theorem step_of_wp {P : Program} {ops : Array Oper} {o : Oper} {a : Act} {w : World} {K : Act → World → Prop} {Q : Exit → Act → World → Prop} {E : Prop} (hgd : o.guard = none) (h : o.wp P a w K Q) :
    if Region.wanted o (yielded ops a.tmps) = true then Oper.wp P o a w K Q else E := by
  have hw : Region.wanted o (yielded ops a.tmps) = true := by simp [Region.wanted, hgd]
  rw [if_pos hw]
  exact h

theorem wp_push_int {o : Oper} {a : Act} {K0 : Act → World → Prop} {Q : Exit → Act → World → Prop} (w : World) (s x : Operand)
    (ho : o.op = .call { callee := .builtin .append, args := #[s, x], argTypes := #[42, 42] })
    (lo : Nat) (v : Value) (n : Nat) (xs : List Int) (hs : a.eval s = v) (h : OInts w lo v n xs) (hn : n + 1 ≤ 1099511627776)
    (tb : Nat) (y : Int) (hx : a.eval x = .slice (some ⟨tb, 0, none⟩) 1 1) (hc : w.cell? ⟨tb, 0, none⟩ = some (.int .i64 y))
    (hlo : lo ≤ w.heap.size)
    (K : ∀ v' w', OInts w' lo v' (n + 1) (xs ++ [y]) → w.grownBy w' v.ownBlock → K0 (a.put o.dst v') w') : o.wp Try.prog a w K0 Q := by
  obtain ⟨i0, hi, hz0, hz1, hz2⟩ := info_int_parts
  refine wp_append_own w s x 42 ho lo 3 i0 (.int .i64 0) 1 8 Try.underlying42 hi hz0 hz1 hz2 rfl (by decide) v n _ hs h.2 ⟨tb, 0, none⟩ 1 1 [.int .i64 y] hx rfl ?_ ?_ ?_ ?_ hlo ?_
  · intro j u' hj
    match j, hj with
    | 0, hj =>
      simp at hj
      subst hj
      simpa [Addr.add] using hc
  · intro u' hu'
    simp at hu'
    subst hu'
    rfl
  · unfold maxLen; omega
  · omega
  · intro v' w' hown hgrow _
    refine K v' w' ⟨hn, ?_⟩ hgrow
    rw [List.map_append]
    exact hown

set_option maxRecDepth 8000 in
theorem wp_app_ints {o : Oper} {a : Act} {K0 : Act → World → Prop} {Q : Exit → Act → World → Prop} (w : World) (s x : Operand)
    (ho : o.op = .call { callee := .builtin .append, args := #[s, x], argTypes := #[42, 42] })
    (lo : Nat) (v : Value) (n : Nat) (xs : List Int) (hs : a.eval s = v) (h : OInts w lo v n xs)
    (ao : Option Addr) (m c : Nat) (ys : List Int) (hx : a.eval x = .slice ao m c) (hy : Ints w ao m ys) (hn : n + m ≤ 1099511627776)
    (hlo : lo ≤ w.heap.size)
    (K : ∀ v' w', OInts w' lo v' (n + m) (xs ++ ys) → w.grownBy w' v.ownBlock → K0 (a.put o.dst v') w') : o.wp Try.prog a w K0 Q := by
  obtain ⟨i0, hi, hz0, hz1, hz2⟩ := info_int_parts
  rcases ao with _ | ad
  · have hm : m = 0 := by
      rcases Nat.eq_zero_or_pos m with h0 | h0
      · exact h0
      · obtain ⟨b, o', e, _⟩ := hy.2.2 0 (by rw [hy.1]; exact h0)
        cases e
    subst hm
    have hyn : ys = [] := List.eq_nil_of_length_eq_zero hy.1
    subst hyn
    have hrun := run_append_nil_src (ty := o.type) (lo := lo) Try.underlying42 hi h.2 c
    unfold Oper.wp execOp
    simp only [ho, resolve, invoke, builtin, Sem.run_bind, Sem.run_pure, Result.andThen_ok, List.map_toArray, List.map_cons, List.map_nil, hs, hx, hrun]
    exact (K v w (by simpa using h) (World.grownBy.refl w _))
  · have hcells : ∀ j u, (ys.map (Value.int .i64))[j]? = some u → w.cell? (ad.add j) = some u := by
      intro j u hu
      have hj : j < ys.length := by simpa using (List.getElem?_eq_some_iff.1 hu).1
      obtain ⟨b, o', e, hc⟩ := hy.2.2 j hj
      injection e with e
      subst e
      rw [Addr.add_lit, hc]
      simpa [List.getD, hj] using hu
    refine wp_append_own w s x 42 ho lo 3 i0 (.int .i64 0) 1 8 Try.underlying42 hi hz0 hz1 hz2 rfl (by decide) v n _ hs h.2 ad m c (ys.map (Value.int .i64)) hx (by simp [hy.1]) hcells (ints_oneCell _ _) ?_ ?_ hlo ?_
    · unfold maxLen; omega
    · omega
    · intro v' w' hown hgrow _
      refine K v' w' ⟨hn, ?_⟩ hgrow
      rw [List.map_append]
      exact hown

theorem wp_push_row {o : Oper} {a : Act} {K0 : Act → World → Prop} {Q : Exit → Act → World → Prop} (w : World) (s x : Operand)
    (ho : o.op = .call { callee := .builtin .append, args := #[s, x], argTypes := #[92, 92] })
    (lo : Nat) (v : Value) (n : Nat) (xss : List (List Int)) (hs : a.eval s = v) (h : OIntss w lo v n xss) (hn : n + 1 ≤ 1099511627776)
    (tb : Nat) (u : Value) (r : List Int) (hx : a.eval x = .slice (some ⟨tb, 0, none⟩) 1 1) (hc : w.cell? ⟨tb, 0, none⟩ = some u) (hu : OInts w lo u r.length r)
    (hfar : ∀ (i : Nat) (u' : Value) (r' : List Int), (∃ vs : List Value, w.ownsRow lo 42 1 v n vs ∧ vs[i]? = some u') → xss[i]? = some r' → OInts w lo u' r'.length r' → Apart u u')
    (hlo : lo ≤ w.heap.size)
    (K : ∀ v' w', OIntss w' lo v' (n + 1) (xss ++ [r]) → w.grownBy w' v.ownBlock → K0 (a.put o.dst v') w') : o.wp Try.prog a w K0 Q := by
  obtain ⟨i0, hi, hz0, hz1, hz2⟩ := info_parts info_ints
  obtain ⟨h1, h2, vs, hv, hr, hd⟩ := h
  have hone : u.oneCell' = true := by
    rcases hu.2.2 with ⟨rfl, _⟩ | ⟨_, _, _, rfl, _⟩ <;> rfl
  refine wp_append_own w s x 92 ho lo 42 i0 (.slice none 0 0) 1 24 Try.underlying92 hi hz0 hz1 hz2 rfl (by decide) v n vs hs hv ⟨tb, 0, none⟩ 1 1 [u] hx rfl ?_ ?_ ?_ ?_ hlo ?_
  · intro j u' hj
    match j, hj with
    | 0, hj =>
      simp at hj
      subst hj
      simpa [Addr.add] using hc
  · intro u' hu'
    simp at hu'
    subst hu'
    exact hone
  · unfold maxLen; omega
  · omega
  · intro v' w' hown hgrow _
    refine K v' w' ?_ hgrow
    exact OIntss.pushed ⟨h1, h2, vs, hv, hr, hd⟩ hn hu hfar hgrow fun vs' hv' => by rw [own_unique hv' hv]; exact hown

theorem wp_push_fresh {o : Oper} {a : Act} {K0 : Act → World → Prop} {Q : Exit → Act → World → Prop} (W : World) (u : Value) (wr : World) (s x : Operand)
    (ho : o.op = .call { callee := .builtin .append, args := #[s, x], argTypes := #[92, 92] })
    (lo : Nat) (v : Value) (n : Nat) (xss : List (List Int)) (hs : a.eval s = v) (h : OIntss wr lo v n xss) (hn : n + 1 ≤ 1099511627776) (hlo : lo ≤ wr.heap.size) (hW : Below wr.heap.size wr W)
    (m : Nat) (r : List Int) (hu : OInts W wr.heap.size u m r) (tb : Nat) (htb : tb = W.heap.size) (hx : a.eval x = .slice (some ⟨tb, 0, none⟩) 1 1)
    (K : ∀ v' w', OIntss w' lo v' (n + 1) (xss ++ [r]) → Below lo wr w' → (W.alloc (.cells #[u] 42)).grownBy w' v.ownBlock → K0 (a.put o.dst v') w') : o.wp Try.prog a (W.alloc (.cells #[u] 42)) K0 Q := by
  subst htb
  have hml := hu.len
  subst hml
  have hW2 : Below wr.heap.size wr (W.alloc (.cells #[u] 42)) := hW.alloc hW.size _
  refine wp_push_row _ s x ho lo v n xss hs (h.keep hW2) hn W.heap.size u r hx (World.cell?_alloc_new _ _ _ _) ((hu.alloc _).mono hlo) (far_new h hW2 fun b hb => (hu.ownlt b hb).1) (by simp; have := hW.size; omega) ?_
  intro v' w' hown hgrow
  exact K v' w' hown ((hW2.mono hlo).grown hgrow (by simp; have := hW.size; omega) fun k hk => (h.ownlt k hk).1) hgrow
end Go.Proofs.Ytmkodbkbgpjgoaa

namespace Go.Proofs.Ytmkodbkbgpjgoaa
open Go.RowKit
set_option linter.all false
theorem push_one_grown {w w' : World} {lo n : Nat} {v : Value} {xs : List Int} (h : OInts w lo v n xs) (hlo : lo ≤ w.heap.size) (o : Obj) (hg : (w.alloc o).grownBy w' v.ownBlock) : Below lo w w' :=
  ((Below.refl lo w).alloc hlo o).grown hg (by simp; omega) (fun k hk => (h.ownlt k hk).1)

theorem wpList_push_one {ops : Array Oper} {rest : List Oper} {o : Oper} {a : Act} {Q : Exit → Act → World → Prop} (W : World) (y : Int) (hgd : o.guard = none) (s x : Operand)
    (ho : o.op = .call { callee := .builtin .append, args := #[s, x], argTypes := #[42, 42] })
    (lo : Nat) (v : Value) (n : Nat) (xs : List Int) (hs : a.eval s = v) (h : OInts W lo v n xs) (hn : n + 1 ≤ 1099511627776) (hlo : lo ≤ W.heap.size)
    (tb : Nat) (htb : tb = W.heap.size) (hx : a.eval x = .slice (some ⟨tb, 0, none⟩) 1 1)
    (K : ∀ v' w', OInts w' lo v' (n + 1) (xs ++ [y]) → Below lo W w' → wpList Try.prog ops Q rest (a.put o.dst v') w') : wpList Try.prog ops Q (o :: rest) a (W.alloc (.cells #[.int .i64 y] 3)) := by
  subst htb
  refine wpList_push_int _ hgd s x ho lo v n xs hs (h.alloc _) hn W.heap.size y hx (World.cell?_alloc_new _ _ _ _) (by simp; omega) ?_
  intro v' w' hown hg
  exact K v' w' hown (push_one_grown h hlo _ hg)

theorem wp_push_one {o : Oper} {a : Act} {K0 : Act → World → Prop} {Q : Exit → Act → World → Prop} (W : World) (y : Int) (s x : Operand)
    (ho : o.op = .call { callee := .builtin .append, args := #[s, x], argTypes := #[42, 42] })
    (lo : Nat) (v : Value) (n : Nat) (xs : List Int) (hs : a.eval s = v) (h : OInts W lo v n xs) (hn : n + 1 ≤ 1099511627776) (hlo : lo ≤ W.heap.size)
    (tb : Nat) (htb : tb = W.heap.size) (hx : a.eval x = .slice (some ⟨tb, 0, none⟩) 1 1)
    (K : ∀ v' w', OInts w' lo v' (n + 1) (xs ++ [y]) → Below lo W w' → K0 (a.put o.dst v') w') : o.wp Try.prog a (W.alloc (.cells #[.int .i64 y] 3)) K0 Q := by
  subst htb
  refine wp_push_int _ s x ho lo v n xs hs (h.alloc _) hn W.heap.size y hx (World.cell?_alloc_new _ _ _ _) (by simp; omega) ?_
  intro v' w' hown hg
  exact K v' w' hown (push_one_grown h hlo _ hg)
end Go.Proofs.Ytmkodbkbgpjgoaa

namespace Go.Proofs.Ytmkodbkbgpjgoaa
open Go.RowKit
set_option linter.all false
/- 'out = append(out, y)' beside other slices of the call's own: where the new value lies. -/
/-- v' lies where v lay, or in a block that is new. -/
def NewOr (s : Nat) (v v' : Value) : Prop := v'.ownBlock = v.ownBlock ∨ ∃ b, v'.ownBlock = some b ∧ s ≤ b
theorem NewOr.apart {s : Nat} {u v v' : Value} (h : NewOr s v v') (ha : Apart u v) (hu : ∀ b, u.ownBlock = some b → b < s) : Apart u v' := by
  intro b hb e
  rcases h with h | ⟨c, h, hc⟩
  · exact ha b hb (by rw [← h]; exact e)
  · rw [h] at e
    injection e with e
    have := hu b hb
    omega
theorem NewOr.refl (s : Nat) (v : Value) : NewOr s v v := .inl rfl
theorem Apart.ne {u v : Value} (h : Apart u v) : u.ownBlock = none ∨ u.ownBlock ≠ v.ownBlock := by
  cases hb : u.ownBlock with
  | none => exact .inl rfl
  | some b => right; exact fun e => h b hb e.symm
theorem OInts.ltAll {w : World} {lo n : Nat} {v : Value} {xs : List Int} (h : OInts w lo v n xs) : ∀ b, v.ownBlock = some b → lo ≤ b ∧ b < w.heap.size := fun b hb => h.2.lt b hb
theorem OInts.apartOf {w : World} {lo n s m : Nat} {u v : Value} {xs ys : List Int} (hu : OInts w lo u n xs) (hv : OInts w s v m ys) (h : ∀ b, u.ownBlock = some b → b < s) : Apart u v := by
  intro b hb e
  have := (hv.ltAll b e).1
  have := h b hb
  omega
theorem OInts.far {w w' : World} {lo n : Nat} {u v : Value} {xs : List Int} (h : OInts w lo u n xs) (hg : w.grownBy w' v.ownBlock) (ha : Apart u v) : OInts w' lo u n xs := h.grown hg ha.ne
theorem grown_alloc (w : World) (o : Obj) (row : Option Nat) : w.grownBy (w.alloc o) row := by
  have h := (Below.refl w.heap.size w).alloc (Nat.le_refl _) o
  exact ⟨h.os, h.tape, h.output, h.size, fun k hk _ => h.block k hk⟩
theorem Below.far {B : Nat} {a w w' : World} {row : Option Nat} (h : Below B a w) (hg : w.grownBy w' row) (hB : B ≤ w.heap.size) (hr : ∀ b, row = some b → B ≤ b) : Below B a w' := h.grown hg hB hr

theorem wp_push_at {o : Oper} {a : Act} {K0 : Act → World → Prop} {Q : Exit → Act → World → Prop} (W : World) (y : Int) (s x : Operand)
    (ho : o.op = .call { callee := .builtin .append, args := #[s, x], argTypes := #[42, 42] })
    (lo : Nat) (v : Value) (n : Nat) (xs : List Int) (hs : a.eval s = v) (h : OInts W lo v n xs) (hn : n + 1 ≤ 1099511627776) (hlo : lo ≤ W.heap.size)
    (tb : Nat) (htb : tb = W.heap.size) (hx : a.eval x = .slice (some ⟨tb, 0, none⟩) 1 1)
    (K : ∀ v' w', OInts w' lo v' (n + 1) (xs ++ [y]) → W.grownBy w' v.ownBlock → NewOr W.heap.size v v' → K0 (a.put o.dst v') w') : o.wp Try.prog a (W.alloc (.cells #[.int .i64 y] 3)) K0 Q := by
  subst htb
  obtain ⟨i0, hi, hz0, hz1, hz2⟩ := info_int_parts
  obtain ⟨v', w', hr, h2, h3, _, h5⟩ := run_append_own_at (P := Try.prog) (W.alloc (.cells #[.int .i64 y] 3)) lo 42 o.type 3 i0 (.int .i64 0) 1 8 Try.underlying42 hi hz0 hz1 hz2 rfl (by decide) v n _ (h.alloc _).2 ⟨W.heap.size, 0, none⟩ 1 1 [.int .i64 y] rfl
    (cell_one_new _ _ _) (by intro u hu; simp at hu; subst hu; rfl) (by unfold maxLen; omega) (by omega) (by simp; omega)
  unfold Oper.wp execOp
  simp only [ho, resolve, invoke, builtin, Sem.run_bind, Sem.run_pure, Result.andThen_ok, List.map_toArray, List.map_cons, List.map_nil, hs, hx, hr]
  refine K v' w' ⟨hn, ?_⟩ ((grown_alloc W _ _).trans h3) ?_
  · rw [List.map_append]; exact h2
  · rcases h5 with h5 | h5
    · exact .inl h5
    · exact .inr ⟨_, h5, by simp⟩

theorem wpList_push_at {ops : Array Oper} {rest : List Oper} {o : Oper} {a : Act} {Q : Exit → Act → World → Prop} (W : World) (y : Int) (hgd : o.guard = none) (s x : Operand)
    (ho : o.op = .call { callee := .builtin .append, args := #[s, x], argTypes := #[42, 42] })
    (lo : Nat) (v : Value) (n : Nat) (xs : List Int) (hs : a.eval s = v) (h : OInts W lo v n xs) (hn : n + 1 ≤ 1099511627776) (hlo : lo ≤ W.heap.size)
    (tb : Nat) (htb : tb = W.heap.size) (hx : a.eval x = .slice (some ⟨tb, 0, none⟩) 1 1)
    (K : ∀ v' w', OInts w' lo v' (n + 1) (xs ++ [y]) → W.grownBy w' v.ownBlock → NewOr W.heap.size v v' → wpList Try.prog ops Q rest (a.put o.dst v') w') : wpList Try.prog ops Q (o :: rest) a (W.alloc (.cells #[.int .i64 y] 3)) := by
  refine wpList_plain hgd fun K' hK => ?_
  exact wp_push_at W y s x ho lo v n xs hs h hn hlo tb htb hx fun v' w' h1 h2 h3 => hK _ _ (K v' w' h1 h2 h3)
end Go.Proofs.Ytmkodbkbgpjgoaa

namespace Go.Proofs.Ytmkodbkbgpjgoaa
open Go.RowKit
set_option linter.all false
section
variable {α : Type} {A B M : List α} {x y Z : α} {i k n : Nat}
theorem at_mid (h : A.length = i) : (A ++ x :: B)[i]? = some x := by
  rw [List.getElem?_append_right (by omega), h, Nat.sub_self]; rfl
theorem set_mid (h : A.length = i) : (A ++ x :: B).set i y = A ++ y :: B := by
  rw [List.set_append_right _ _ (by omega), h, Nat.sub_self]; rfl
theorem fill_start (n : Nat) (M : List α) (Z : α) : M.take 0 ++ List.replicate (n - 0) Z = List.replicate n Z := by simp
theorem fill_open (hk : k < n) : M.take k ++ List.replicate (n - k) Z = M.take k ++ Z :: List.replicate (n - (k + 1)) Z := by
  rw [show n - k = (n - (k + 1)) + 1 from by omega, List.replicate_succ]
theorem fill_shut (hx : M[k]? = some x) : M.take k ++ x :: B = M.take (k + 1) ++ B := by
  obtain ⟨hk, rfl⟩ := List.getElem?_eq_some_iff.1 hx
  rw [List.take_succ_eq_append_getElem hk, List.append_assoc]
  rfl
theorem fill_end (hM : M.length = n) : M.take n ++ List.replicate (n - n) Z = M := by
  rw [← hM]; simp
theorem take_len (h : k ≤ M.length) : (M.take k).length = k := by simp; omega
theorem push_take (hx : M[k]? = some x) : M.take k ++ [x] = M.take (k + 1) := by
  obtain ⟨hk, rfl⟩ := List.getElem?_eq_some_iff.1 hx
  rw [List.take_succ_eq_append_getElem hk]
/-- One list as far as i, another from there on. -/
theorem mix_get {N : List α} (hM : i ≤ M.length) (hx : N[i]? = some x) : (M.take i ++ N.drop i)[i]? = some x := by
  rw [drop_of_get hx]; exact at_mid (take_len hM)
theorem mix_set {N : List α} (hx : N[i]? = some x) (hy : M[i]? = some y) : (M.take i ++ N.drop i).set i y = M.take (i + 1) ++ N.drop (i + 1) := by
  have hi := (List.getElem?_eq_some_iff.1 hy).1
  rw [drop_of_get hx, set_mid (take_len (by omega)), fill_shut hy]
theorem mix_end {N : List α} (hM : M.length = n) (hN : N.length = n) : M.take n ++ N.drop n = M := by
  rw [← hM, List.take_length, hM, ← hN, List.drop_length, List.append_nil]
theorem rep_push (k : Nat) (x : α) : List.replicate k x ++ [x] = List.replicate (k + 1) x := by
  rw [List.replicate_succ']
end
end Go.Proofs.Ytmkodbkbgpjgoaa

namespace Go.Proofs.Ytmkodbkbgpjgoaa
open Go.RowKit
set_option linter.all false
def oneRow (n i : Nat) : List Int := (List.replicate n 0).set i 1
def oneT (n : Nat) : List (List Int) := (List.range n).map (oneRow n)
theorem oneT_len (n : Nat) : (oneT n).length = n := by simp [oneT]
theorem oneT_get {n k : Nat} (h : k < n) : (oneT n)[k]? = some (oneRow n k) := by simp [oneT, h]
theorem oneRow_len (n k : Nat) : (oneRow n k).length = n := by simp [oneRow]
/-- A slice of slices of the call's own that is not empty lies at the head of a block. -/
theorem OIntss.head {w : World} {lo n : Nat} {v : Value} {xss : List (List Int)} (h : OIntss w lo v n xss) (hn : 0 < n) : ∃ g cap, v = .slice (some ⟨g, 0, none⟩) n cap := by
  obtain ⟨_, _, vs, ho, _⟩ := h
  rcases ho.2 with ⟨_, h0⟩ | ⟨g, cap, cur, e, _⟩
  · omega
  · exact ⟨g, cap, e⟩
theorem OInts.head {w : World} {lo n : Nat} {v : Value} {xs : List Int} (h : OInts w lo v n xs) (hn : 0 < n) : ∃ g cap, v = .slice (some ⟨g, 0, none⟩) n cap := by
  rcases h.2.2 with ⟨_, h0⟩ | ⟨g, cap, cur, e, _⟩
  · omega
  · exact ⟨g, cap, e⟩
end Go.Proofs.Ytmkodbkbgpjgoaa

namespace Go.Proofs.Ytmkodbkbgpjgoaa
open Go.RowKit
set_option linter.all false
theorem sizeOf_int (w : World) : (sizeOf 3).run Try.prog w = .ok 1 w := by
  obtain ⟨i, hi, _, hz, _⟩ := info_parts info_int
  simp [sizeOf, typeInfo, hi, hz]
theorem elem_ints : Try.prog.elem 42 = 3 := by kernel_rfl
theorem slice_to (a : Option Addr) (len cap j : Nat) (hj : j ≤ cap) (w : World) :
    (Instr.slice 42 (.slice a len cap) none (some (.int .i64 (j : Int))) none).run Try.prog w = .ok (.slice a j cap) w := by
  rw [run_slice_h (P := Try.prog) w 42 a len cap (by rw [elem_ints]; exact Try.underlying42) .i64 (j : Int) (by omega) (by omega), elem_ints, sizeOf_int]
  cases a <;> simp [sliced, Result.andThen, Addr.add]
theorem slice_from (a : Option Addr) (len cap j : Nat) (hj : j + 1 ≤ len) (w : World) :
    (Instr.slice 42 (.slice a len cap) (some (.int .i64 ((j : Int) + 1))) none none).run Try.prog w = .ok (.slice (if cap = j + 1 then a else a.map (·.add (j + 1))) (len - (j + 1)) (cap - (j + 1))) w := by
  rw [run_slice_l (P := Try.prog) w 42 a len cap (by rw [elem_ints]; exact Try.underlying42) .i64 ((j : Int) + 1) (by omega) (by omega), elem_ints, sizeOf_int]
  simp [sliced, Result.andThen, show ((j : Int) + 1).toNat = j + 1 from by omega]
end Go.Proofs.Ytmkodbkbgpjgoaa

namespace Go.Proofs.Ytmkodbkbgpjgoaa
open Go.RowKit
set_option linter.all false
def readInts (w : World) : Value → List Int
  | .slice (some a) n _ => (List.range n).map (fun i => match w.cell? (a.add i) with | some (.int _ x) => x | _ => 0)
  | _ => []
theorem readInts_is {w : World} {ao : Option Addr} {n cap : Nat} {xs : List Int} (h : Ints w ao n xs) : readInts w (.slice ao n cap) = xs := by
  obtain ⟨hn, _, hc⟩ := h
  subst hn
  cases ao with
  | none =>
    cases xs with
    | nil => rfl
    | cons x r =>
      obtain ⟨b, o, e, _⟩ := hc 0 (by simp)
      cases e
  | some a =>
    apply List.ext_getElem
    · simp [readInts]
    · intro i h1 h2
      obtain ⟨b, o, e, hcell⟩ := hc i h2
      injection e with e
      subst e
      simp [readInts, Addr.add_lit, hcell, List.getD, h2]
end Go.Proofs.Ytmkodbkbgpjgoaa

namespace Go.Proofs.Ytmkodbkbgpjgoaa
open Go.RowKit
set_option linter.all false
def marks (k : Int) (n : Nat) : List Int := (List.range n).map (fun i => k + (i : Nat))
theorem marks_len (k : Int) (n : Nat) : (marks k n).length = n := by simp [marks]
theorem marks_get {k : Int} {n i : Nat} (h : i < n) : (marks k n)[i]? = some (k + (i : Nat)) := by simp [marks, h]
def markT : Int → List (List Int) → List (List Int)
  | _, [] => []
  | k, r :: rs => marks k r.length :: markT (k + r.length) rs
def tot (xss : List (List Int)) : Int := (xss.map (fun r => (r.length : Int))).sum
theorem markT_len : ∀ (xss : List (List Int)) (k : Int), (markT k xss).length = xss.length
  | [], _ => rfl
  | r :: rs, k => by simp [markT, markT_len rs]
theorem tot_cons (r : List Int) (rs : List (List Int)) : tot (r :: rs) = r.length + tot rs := by simp [tot]
theorem tot_nonneg : ∀ (xss : List (List Int)), 0 ≤ tot xss
  | [] => by simp [tot]
  | r :: rs => by rw [tot_cons]; have := tot_nonneg rs; omega
theorem tot_rows {n : Nat} : ∀ {xss : List (List Int)}, (∀ r ∈ xss, r.length ≤ n) → tot xss ≤ (xss.length : Int) * n
  | [], _ => by simp [tot]
  | r :: rs, h => by
    have h1 := tot_rows (n := n) (xss := rs) (fun q hq => h q (List.mem_cons_of_mem _ hq))
    have h2 := h r (List.mem_cons_self ..)
    have e : (((r :: rs).length : Nat) : Int) * n = (rs.length : Int) * n + n := by rw [List.length_cons, Int.natCast_add, Int.add_mul]; omega
    rw [tot_cons, e]
    omega
theorem tot_take_succ {xss : List (List Int)} {i : Nat} {r : List Int} (h : xss[i]? = some r) : tot (xss.take (i + 1)) = tot (xss.take i) + r.length := by
  rw [← push_take h]
  simp [tot]
theorem tot_take_le {xss : List (List Int)} (i : Nat) : tot (xss.take i) ≤ tot xss := by
  have h : tot xss = tot (xss.take i) + tot (xss.drop i) := by
    simp only [tot, ← List.sum_append, ← List.map_append, List.take_append_drop]
  have := tot_nonneg (xss.drop i)
  omega
theorem markT_get : ∀ (xss : List (List Int)) (k : Int) (i : Nat) (r : List Int), xss[i]? = some r → (markT k xss)[i]? = some (marks (k + tot (xss.take i)) r.length)
  | [], _, _, _, h => by simp at h
  | q :: rs, k, 0, r, h => by
    simp at h
    subst h
    simp [markT, tot]
  | q :: rs, k, i + 1, r, h => by
    have := markT_get rs (k + q.length) i r (by simpa using h)
    simp only [markT, List.getElem?_cons_succ, List.take_succ_cons, tot_cons]
    rw [this, Int.add_assoc]

theorem only_setCell {a w : World} {g : Nat} (h : a.grownBy w (some g)) {p : Addr} (hp : p.block = g) (u : Value) : a.grownBy (w.setCell p u) (some g) :=
  ⟨h.os, h.tape, h.output, by simpa [World.setCell] using h.size, fun i hi hne => (Below.heap_setCell w p u i (by
    rintro rfl
    exact hne (by rw [hp]))).trans (h.block i hi hne)⟩

/-- Only blocks from lo to hi have changed. -/
structure Within (lo hi : Nat) (w w' : World) : Prop where
  os : w'.os = w.os
  tape : w'.tape = w.tape
  output : w'.output = w.output
  size : w.heap.size ≤ w'.heap.size
  block : ∀ k, k < w.heap.size → k < lo ∨ hi ≤ k → w'.heap[k]? = w.heap[k]?
theorem Within.refl (lo hi : Nat) (w : World) : Within lo hi w w := ⟨rfl, rfl, rfl, Nat.le_refl _, fun _ _ _ => rfl⟩
theorem Within.trans {lo hi : Nat} {a b c : World} (h : Within lo hi a b) (k : Within lo hi b c) : Within lo hi a c :=
  ⟨k.os.trans h.os, k.tape.trans h.tape, k.output.trans h.output, Nat.le_trans h.size k.size, fun i hi' ho => (k.block i (Nat.lt_of_lt_of_le hi' h.size) ho).trans (h.block i hi' ho)⟩
theorem Within.below {lo hi : Nat} {w w' : World} (h : Within lo hi w w') (hl : lo ≤ w.heap.size) : Below lo w w' :=
  ⟨h.os, h.tape, h.output, h.size, fun k hk => h.block k (by omega) (.inl hk)⟩
theorem Within.grown {lo hi : Nat} {w w' : World} {row : Option Nat} (h : w.grownBy w' row) (hr : ∀ b, row = some b → lo ≤ b ∧ b < hi) : Within lo hi w w' :=
  ⟨h.os, h.tape, h.output, h.size, fun k hk ho => h.block k hk (fun e => by have := hr k e.symm; omega)⟩
theorem Within.drewN {lo hi : Nat} {w w' : World} (h : Within lo hi w w') (n : Nat) : Within lo hi w (w'.drewN n) := ⟨h.os, h.tape, h.output, h.size, h.block⟩

theorem own_within {w w' : World} {lo lo' hi e size n : Nat} {v : Value} {xs : List Value} (h : w.ownsRow lo' e size v n xs) (hw : Within lo hi w w') (hl : hi ≤ lo') : w'.ownsRow lo' e size v n xs := by
  refine ⟨h.1, ?_⟩
  rcases h.2 with h2 | ⟨g, cap, cur, hv, hg, hh, r⟩
  · exact .inl h2
  · refine .inr ⟨g, cap, cur, hv, hg, ?_, r⟩
    rw [hw.block g (Array.getElem?_eq_some_iff.1 hh).1 (.inr (by omega))]; exact hh
theorem OInts.within {w w' : World} {lo lo' hi n : Nat} {v : Value} {xs : List Int} (h : OInts w lo' v n xs) (hw : Within lo hi w w') (hl : hi ≤ lo') : OInts w' lo' v n xs := ⟨h.1, own_within h.2 hw hl⟩
theorem OIntss.within {w w' : World} {lo lo' hi n : Nat} {v : Value} {xss : List (List Int)} (h : OIntss w lo' v n xss) (hw : Within lo hi w w') (hl : hi ≤ lo') : OIntss w' lo' v n xss := by
  obtain ⟨h1, h2, vs, ho, hr, hd⟩ := h
  exact ⟨h1, h2, vs, own_within ho hw hl, fun i u r hu hr' => (hr i u r hu hr').within hw hl, hd⟩

/-- A slice of the call's own, nil or at the head of a block. -/
theorem OInts.two {w : World} {lo n cap : Nat} {ao : Option Addr} {xs : List Int} (h : OInts w lo (.slice ao n cap) n xs) : (ao = none ∧ n = 0) ∨ ∃ g, ao = some ⟨g, 0, none⟩ := by
  rcases h.2.2 with ⟨e, hn⟩ | ⟨g, c, cur, e, _⟩
  · injection e with e1
    exact .inl ⟨e1, hn⟩
  · injection e with e1
    exact .inr ⟨g, e1⟩

/-- One row has been written by a callee. -/
theorem OIntss.written {w w' : World} {lo n : Nat} {v u : Value} {xss : List (List Int)} {k : Nat} {r r' : List Int} (h : OIntss w lo v n xss) (hk : xss[k]? = some r) {vs : List Value} (hvs : w.ownsRow lo 42 1 v n vs) (hu : vs[k]? = some u)
    (hr' : OInts w' lo u r'.length r') (hl : OInts w lo u r.length r) (hg : w.grownBy w' u.ownBlock) : OIntss w' lo v n (xss.set k r') := by
  obtain ⟨h1, h2, vs0, hv, hr, hd⟩ := h
  have e : vs = vs0 := by
    rcases hvs.2 with ⟨rfl, hn⟩ | ⟨g, cap, cur, rfl, _, hh, _, _, _, ht⟩
    · have l1 := hvs.1
      have l2 := hv.1
      rw [hn, Nat.zero_mul] at l1 l2
      rw [List.eq_nil_of_length_eq_zero l1, List.eq_nil_of_length_eq_zero l2]
    · rcases hv.2 with ⟨e, _⟩ | ⟨g', cap', cur', e, _, hh', _, _, _, ht'⟩
      · simp at e
      · simp only [Value.slice.injEq, Option.some.injEq, Addr.mk.injEq, and_true, true_and] at e
        obtain ⟨rfl, rfl⟩ := e
        rw [hh] at hh'
        simp at hh'
        subst hh'
        rw [← ht, ← ht']
  subst e
  refine ⟨h1, by simpa using h2, vs, ?_, ?_, hd⟩
  · refine hv.kept hg ?_
    rcases own_int_ne hl hv with e | e
    · cases hb : v.ownBlock with
      | none => exact .inl rfl
      | some b => right; rw [e]; simp
    · cases hb : v.ownBlock with
      | none => exact .inl rfl
      | some b => right; rw [← hb]; exact fun e2 => e e2.symm
  · intro i u' q hu' hq
    rw [List.getElem?_set] at hq
    by_cases e : k = i
    · subst e
      rw [hu] at hu'
      injection hu' with hu'
      subst hu'
      rw [if_pos rfl] at hq
      split at hq
      · injection hq with hq
        subst hq
        exact hr'
      · cases hq
    · rw [if_neg e] at hq
      have h3 := hr i u' q hu' hq
      exact h3.grown hg (hd i k u' u (by omega) hu' hu)
/-- The rows' values, each with its cell. -/
theorem OIntss.rows {w : World} {lo g n cap : Nat} {xss : List (List Int)} (h : OIntss w lo (.slice (some ⟨g, 0, none⟩) n cap) n xss) {k : Nat} {r : List Int} (hk : xss[k]? = some r) :
    ∃ vs ai ci, w.ownsRow lo 42 1 (.slice (some ⟨g, 0, none⟩) n cap) n vs ∧ vs[k]? = some (.slice ai r.length ci) ∧ w.cell? ⟨g, k, none⟩ = some (.slice ai r.length ci) ∧ OInts w lo (.slice ai r.length ci) r.length r := by
  obtain ⟨h1, h2, vs, hv, hr, hd⟩ := h
  have hvl : vs.length = n := by simpa using hv.1
  have hkn : k < n := by rw [← h2]; exact (List.getElem?_eq_some_iff.1 hk).1
  have h3 : vs[k]? = some vs[k] := List.getElem?_eq_getElem (by omega)
  have ho := hr k _ r h3 hk
  obtain ⟨ai, ci, e, _⟩ := ho.form
  have h4 := hv.cells (g := g) rfl k _ h3
  rw [Addr.add_lit] at h4
  rw [e] at h3 h4 ho
  exact ⟨vs, ai, ci, hv, h3, by simpa using h4, ho⟩
end Go.Proofs.Ytmkodbkbgpjgoaa

namespace Go.Proofs.Ytmkodbkbgpjgoaa
open Go.RowKit
set_option linter.all false
structure Since (lo hi : Nat) (w w' : World) : Prop where
  size : w.heap.size ≤ w'.heap.size
  block : ∀ k, lo ≤ k → k < hi → w'.heap[k]? = w.heap[k]?
theorem Since.refl (lo hi : Nat) (w : World) : Since lo hi w w := ⟨Nat.le_refl _, fun _ _ _ => rfl⟩
theorem Since.below {lo hi : Nat} {a b c : World} (h : Since lo hi a b) (k : Below b.heap.size b c) (hs : hi ≤ b.heap.size) : Since lo hi a c :=
  ⟨Nat.le_trans h.size k.size, fun i h1 h2 => (k.block i (by omega)).trans (h.block i h1 h2)⟩
theorem Since.older {lo hi l r : Nat} {a b c : World} (h : Since lo hi a b) (k : Within l r b c) (hl : hi ≤ l) (hs : hi ≤ b.heap.size) : Since lo hi a c :=
  ⟨Nat.le_trans h.size k.size, fun i h1 h2 => (k.block i (by omega) (.inl (by omega))).trans (h.block i h1 h2)⟩
theorem Since.newer {lo hi l r : Nat} {a b c : World} (h : Since lo hi a b) (k : Within l r b c) (hl : r ≤ lo) (hs : hi ≤ b.heap.size) : Since lo hi a c :=
  ⟨Nat.le_trans h.size k.size, fun i h1 h2 => (k.block i (by omega) (.inr (by omega))).trans (h.block i h1 h2)⟩
theorem own_since {w w' : World} {lo e size n : Nat} {v : Value} {xs : List Value} (h : w.ownsRow lo e size v n xs) (hw : Since lo w.heap.size w w') : w'.ownsRow lo e size v n xs := by
  refine ⟨h.1, ?_⟩
  rcases h.2 with h2 | ⟨g, cap, cur, hv, hg, hh, r⟩
  · exact .inl h2
  · refine .inr ⟨g, cap, cur, hv, hg, ?_, r⟩
    rw [hw.block g hg (Array.getElem?_eq_some_iff.1 hh).1]; exact hh
theorem OInts.since {w w' : World} {lo n : Nat} {v : Value} {xs : List Int} (h : OInts w lo v n xs) (hw : Since lo w.heap.size w w') : OInts w' lo v n xs := ⟨h.1, own_since h.2 hw⟩
theorem OIntss.since {w w' : World} {lo n : Nat} {v : Value} {xss : List (List Int)} (h : OIntss w lo v n xss) (hw : Since lo w.heap.size w w') : OIntss w' lo v n xss := by
  obtain ⟨h1, h2, vs, ho, hr, hd⟩ := h
  exact ⟨h1, h2, vs, own_since ho hw, fun i u r hu hr' => (hr i u r hu hr').since hw, hd⟩
theorem OInts.read {w : World} {lo n cap : Nat} {ao : Option Addr} {xs : List Int} (h : OInts w lo (.slice ao n cap) n xs) : Ints w ao n xs := by
  obtain ⟨ao', cap', e, hi⟩ := h.form
  injection e with e1
  subst e1
  exact hi
theorem OIntss.read {w : World} {lo n cap : Nat} {ao : Option Addr} {xss : List (List Int)} (h : OIntss w lo (.slice ao n cap) n xss) : Intss w ao n xss := by
  obtain ⟨ao', cap', e, hi⟩ := h.form
  injection e with e1
  subst e1
  exact hi
theorem Below.past {a b c : World} {l r : Nat} (h : Below a.heap.size a b) (k : Within l r b c) (h1 : l ≤ b.heap.size) (h2 : a.heap.size ≤ l) : Below a.heap.size a c :=
  h.trans ((k.below h1).mono h2)
end Go.Proofs.Ytmkodbkbgpjgoaa

namespace Go.Proofs.Ytmkodbkbgpjgoaa
open Go.RowKit
set_option linter.all false
/-- x lies from lo to hi. -/
def inR (x lo hi : Int) : Bool := decide (lo ≤ x) && decide (x ≤ hi)
theorem inR_true {x lo hi : Int} (h : inR x lo hi = true) : lo ≤ x ∧ x ≤ hi := by simpa [inR] using h
theorem inR_mk {x lo hi : Int} (h : lo ≤ x ∧ x ≤ hi) : inR x lo hi = true := by simpa [inR] using h
theorem inR_false {x lo hi : Int} (h : inR x lo hi = false) : x < lo ∨ hi < x := by
  rcases Int.lt_or_le x lo with h1 | h1
  · exact .inl h1
  · rcases Int.lt_or_le hi x with h2 | h2
    · exact .inr h2
    · rw [inR_mk ⟨h1, h2⟩] at h; cases h
theorem inR_no {x lo hi : Int} (h : x < lo ∨ hi < x) : inR x lo hi = false := by
  cases hb : inR x lo hi with
  | false => rfl
  | true => have := inR_true hb; omega

set_option maxHeartbeats 400000 in
theorem l1In_any (x lo hi : Int) (w : World) :
    Calls Try.prog 34 #[.int .i64 x, .int .i64 lo, .int .i64 hi] w fun e w' => e = .returned (.bool (inR x lo hi)) ∧ w = w' := by
  by_cases h : lo ≤ x
  · have h1 : decide (lo ≤ x) = true := by simpa using h
    have H : Hid (inR x lo hi = decide (x ≤ hi)) := by show inR x lo hi = _; simp [inR, h]
    go_enter Try.func34, Try.ntmps34
    go_wp2
    go_ret
    exact ⟨ret_bool H.out.symm, rfl⟩
  · have h1 : decide (lo ≤ x) = false := by simpa using h
    have H : Hid (inR x lo hi = false) := by show inR x lo hi = _; simp [inR, h]
    go_enter Try.func34, Try.ntmps34
    go_wp2
    go_ret
    exact ⟨ret_bool H.out.symm, rfl⟩
end Go.Proofs.Ytmkodbkbgpjgoaa

namespace Go.Proofs.Ytmkodbkbgpjgoaa
open Go.RowKit
set_option linter.all false
theorem wrap_id {a : Int} (h : -9223372036854775808 ≤ a ∧ a ≤ 9223372036854775807) : wrap64 a = a := by unfold wrap64; omega
def allIn (lo hi : Int) (xs : List Int) : Bool := xs.all (fun x => inR x lo hi)
def tabIn (n : Nat) (lo hi : Int) (xss : List (List Int)) : Bool := xss.all (fun r => decide (r.length = n) && allIn lo hi r)
def isMat (xss : List (List Int)) : Bool := tabIn xss.length 0 1000000 xss && inR xss.length 1 9

theorem allIn_step {lo hi : Int} {xs : List Int} {k : Nat} {x : Int} {b : Bool} (hk : xs[k]? = some x) (h : allIn lo hi (xs.drop k) = b) :
    (inR x lo hi = true → allIn lo hi (xs.drop (k + 1)) = b) ∧ (inR x lo hi = false → b = false) := by
  rw [drop_of_get hk] at h
  generalize List.drop (k + 1) xs = r at *
  constructor
  · intro e; simpa [allIn, e] using h
  · intro e; simpa [allIn, e] using h.symm

theorem tabIn_step {n : Nat} {lo hi : Int} {xss : List (List Int)} {k : Nat} {r : List Int} {b : Bool} (hk : xss[k]? = some r) (h : tabIn n lo hi (xss.drop k) = b) :
    (r.length ≠ n → b = false) ∧ (allIn lo hi r = false → b = false) ∧ (r.length = n → allIn lo hi r = true → tabIn n lo hi (xss.drop (k + 1)) = b) := by
  rw [drop_of_get hk] at h
  generalize List.drop (k + 1) xss = q at *
  refine ⟨fun e => ?_, fun e => ?_, fun e1 e2 => ?_⟩
  · simpa [tabIn, e] using h.symm
  · simpa [tabIn, e] using h.symm
  · simpa [tabIn, e1, e2] using h

theorem allIn_get {lo hi : Int} {xs : List Int} (h : allIn lo hi xs = true) {k : Nat} {x : Int} (hk : xs[k]? = some x) : lo ≤ x ∧ x ≤ hi := by
  simp only [allIn, List.all_eq_true] at h
  exact inR_true (h x (List.mem_of_getElem? hk))
theorem tabIn_get {n : Nat} {lo hi : Int} {xss : List (List Int)} (h : tabIn n lo hi xss = true) {k : Nat} {r : List Int} (hk : xss[k]? = some r) : r.length = n ∧ allIn lo hi r = true := by
  simp only [tabIn, List.all_eq_true] at h
  simpa using h r (List.mem_of_getElem? hk)
theorem isMat_len {xss : List (List Int)} (h : isMat xss = true) : 1 ≤ xss.length ∧ xss.length ≤ 9 := by
  simp only [isMat, Bool.and_eq_true] at h
  have := inR_true h.2
  omega
theorem isMat_row {xss : List (List Int)} (h : isMat xss = true) {k : Nat} {r : List Int} (hk : xss[k]? = some r) : r.length = xss.length ∧ allIn 0 1000000 r = true := by
  simp only [isMat, Bool.and_eq_true] at h
  exact tabIn_get h.1 hk
end Go.Proofs.Ytmkodbkbgpjgoaa

namespace Go.Proofs.Ytmkodbkbgpjgoaa
open Go.RowKit
set_option linter.all false
def wdot : Int → List Int → List Int → Int
  | a, x :: r, y :: v => wdot (wrap64 (a + wrap64 (x * y))) r v
  | a, _, _ => a
theorem wdot_step {r v : List Int} {j : Nat} {x y a b : Int} (hx : r[j]? = some x) (hy : v[j]? = some y) (h : wdot a (r.drop j) (v.drop j) = b) :
    wdot (wrap64 (a + wrap64 (x * y))) (r.drop (j + 1)) (v.drop (j + 1)) = b := by
  rw [drop_of_get hx, drop_of_get hy] at h
  exact h
theorem wdot_end {r v : List Int} {j : Nat} {a b : Int} (hx : r.length ≤ j) (h : wdot a (r.drop j) (v.drop j) = b) : a = b := by
  rw [drop_all r j hx] at h
  exact h
end Go.Proofs.Ytmkodbkbgpjgoaa

namespace Go.Proofs.Ytmkodbkbgpjgoaa
open Go.RowKit
set_option linter.all false
open Go.ChangeShapes Go.WideShapes Go.ChangeAt
theorem ownKnobNone : ownKnob Try.prog.godebug = none := by kernel_rfl
theorem laidOutYes : laidOutB Try.prog = true := by kernel_rfl

/-- A slice of ints that came in: it reads as the list xs, each number an int. -/
def IntsIn (w : World) (ao : Option Addr) (n : Nat) (xs : List Int) : Prop :=
  xs.length = n ∧ (∀ i, i < xs.length → ∃ b o, ao = some ⟨b, o, none⟩ ∧ w.cell? ⟨b, o + i, none⟩ = some (.int .i64 (xs.getD i 0))) ∧ ∀ x ∈ xs, (Lit.int .i64 x).wf = true

theorem IntsIn.ints {w : World} {ao : Option Addr} {n : Nat} {xs : List Int} (h : IntsIn w ao n xs) (hn : n ≤ 1099511627776) : Ints w ao n xs := ⟨h.1, hn, h.2.1⟩

theorem cell_plain {w : World} {x : Addr} {i : Nat} {v u : Value} (h0 : w.cell? (x.add 0) = some u) (h : w.cell? (x.add i) = some v) : ∃ b o, x = ⟨b, o, none⟩ ∧ w.cell? ⟨b, o + i, none⟩ = some v := by
  obtain ⟨b, off, spot⟩ := x
  have hs : spot = none := by simpa [Addr.add] using World.cell?_spot h0
  subst hs
  rw [Addr.add_lit] at h
  exact ⟨b, off, rfl, h⟩

theorem open_intsIn {H : Type} {enc : TypeId × Value → H} {W : World} {base : Nat} {held : Bool} {ao : Option Addr} {n cap : Nat} {d : DataW H} {p : List MemPlace}
    (h : DataW.Trod enc Try.prog W base (fun _ => true) held 42 (.slice ao n cap) d p) : ∃ xs, IntsIn W ao n xs := by
  obtain ⟨fuel, hf⟩ := h
  rcases open_ints Try.underlying42 Try.underlying3 (by kernel_rfl) hf with ⟨hcs, _⟩ | ⟨x, l, c, zs, hcs, _, hl, hm, hz, _, hcell, hwz⟩
  · simp [Value.cells] at hcs
    obtain ⟨rfl, rfl, rfl⟩ := hcs
    exact ⟨[], rfl, fun i hi => by simp at hi, by simp⟩
  · simp [Value.cells] at hcs
    obtain ⟨rfl, rfl, rfl⟩ := hcs
    have hz' : zs.length = cap := by simpa using hz
    refine ⟨zs.take n, by simp; omega, fun i hi => ?_, fun x hx => hwz x (List.mem_of_mem_take hx)⟩
    have hi' : i < n := by simp at hi; omega
    obtain ⟨b, o, rfl, hc⟩ := cell_plain (hcell 0 (by omega)) (hcell i (by omega))
    refine ⟨b, o, rfl, ?_⟩
    rw [hc]
    congr 2
    simp [List.getD, List.getElem?_take, hi']
end Go.Proofs.Ytmkodbkbgpjgoaa

namespace Go.Proofs.Ytmkodbkbgpjgoaa
open Go.RowKit
set_option linter.all false
open Go.ChangeShapes Go.WideShapes Go.ChangeAt
/-- A slice of slices of ints that came in: it reads as the list xss of lists. -/
def IntssIn (w : World) (ao : Option Addr) (n : Nat) (xss : List (List Int)) : Prop :=
  xss.length = n ∧ n ≤ 9223372036854775807 ∧ ∀ i r, xss[i]? = some r → ∃ b o ai ci, ao = some ⟨b, o, none⟩ ∧ w.cell? ⟨b, o + i, none⟩ = some (.slice ai r.length ci) ∧ r.length ≤ 9223372036854775807 ∧ IntsIn w ai r.length r ∧ r.length ≤ ci

theorem IntssIn.at_ {w : World} {ao : Option Addr} {n k : Nat} {xss : List (List Int)} (h : IntssIn w ao n xss) (hk : k < n) :
    ∃ b o ai ci r, ao = some ⟨b, o, none⟩ ∧ w.cell? ⟨b, o + k, none⟩ = some (.slice ai r.length ci) ∧ r.length ≤ 9223372036854775807 ∧ Hid (xss[k]? = some r) := by
  have hl : k < xss.length := by rw [h.1]; exact hk
  obtain ⟨b, o, ai, ci, e, hc, hr, _⟩ := h.2.2 k xss[k] (List.getElem?_eq_getElem hl)
  exact ⟨b, o, ai, ci, _, e, hc, hr, List.getElem?_eq_getElem hl⟩

theorem IntssIn.intss {w : World} {ao : Option Addr} {n : Nat} {xss : List (List Int)} (h : IntssIn w ao n xss) (hn : n ≤ 1099511627776) (hr : ∀ r ∈ xss, r.length ≤ 1099511627776) : Intss w ao n xss := by
  refine ⟨h.1, hn, fun i r hi => ?_⟩
  obtain ⟨b, o, ai, ci, e, hc, _, hin, hl⟩ := h.2.2 i r hi
  exact ⟨b, o, ai, ci, e, hc, hin.ints (hr r (List.mem_of_getElem? hi)), hl⟩

theorem open_intssIn {H : Type} {enc : TypeId × Value → H} {W : World} {base : Nat} {held : Bool} {ao : Option Addr} {n cap : Nat} {d : DataW H} {p : List MemPlace}
    (h : DataW.Trod enc Try.prog W base (fun _ => true) held 92 (.slice ao n cap) d p) : ∃ xss, IntssIn W ao n xss := by
  obtain ⟨fuel, hf⟩ := h
  rcases Go.Deep.open_int_rows Try.underlying92 Try.underlying42 Try.underlying3 (by kernel_rfl) (by kernel_rfl) hf with ⟨hcs, _⟩ | ⟨x, l, c, A, L, C, Z, hcs, _, hl, hm, _, hrow⟩
  · simp [Value.cells] at hcs
    obtain ⟨rfl, rfl, rfl⟩ := hcs
    exact ⟨[], rfl, by omega, fun i r hi => by simp at hi⟩
  · simp [Value.cells] at hcs
    obtain ⟨rfl, rfl, rfl⟩ := hcs
    unfold maxLen at hm
    refine ⟨(List.range n).map fun r => (Z r).take (L r), by simp, by omega, fun i r hi => ?_⟩
    have hin : i < n := by simpa using (List.getElem?_eq_some_iff.1 hi).1
    have hr : r = (Z i).take (L i) := by simpa [hin, eq_comm] using hi
    subst hr
    obtain ⟨hc, h1, h2, h3, h4, h5, h6⟩ := hrow i (by omega)
    obtain ⟨hc0, _⟩ := hrow 0 (by omega)
    unfold maxLen at h2
    obtain ⟨b, o, rfl, hc'⟩ := cell_plain hc0 hc
    have hlen : ((Z i).take (L i)).length = L i := by simp; omega
    rw [hlen]
    refine ⟨b, o, A i, C i, rfl, hc', by omega, ⟨hlen, fun j hj => ?_, fun y hy => h4 y (List.mem_of_mem_take hy)⟩, h1⟩
    have hj' : j < L i := by omega
    cases ha : A i with
    | none => have := h5 ha; omega
    | some a' =>
      obtain ⟨_, hcell⟩ := h6 a' ha
      obtain ⟨b', o', rfl, hc2⟩ := cell_plain (hcell 0 (by omega)) (hcell j (by omega))
      refine ⟨b', o', rfl, ?_⟩
      rw [hc2]
      congr 2
      simp [List.getD, List.getElem?_take, hj']
end Go.Proofs.Ytmkodbkbgpjgoaa

namespace Go.Proofs.Ytmkodbkbgpjgoaa
open Go.RowKit
set_option linter.all false
set_option maxHeartbeats 400000 in
theorem sameInts_any (ao : Option Addr) (n cap : Nat) (xs : List Int) (ao' : Option Addr) (n' cap' : Nat) (ys : List Int) (w : World) (h : Ints w ao n xs) (h' : Ints w ao' n' ys) :
    Calls Try.prog 20 #[.slice ao n cap, .slice ao' n' cap'] w fun e w' => e = .returned (.bool (eqL xs ys)) ∧ Drew w w' := by
  obtain ⟨hn, hm, hc⟩ := h
  obtain ⟨hn', hm', hc'⟩ := h'
  subst hn
  subst hn'
  by_cases hl : xs.length = ys.length
  · have HL := Lib.hid hl
    have hl1 : ((xs.length : Int) != (ys.length : Int)) = false := by simp [hl]
    clear hl
    go_enter Try.func20, Try.ntmps20
    go_wp2
    go_loopw [5] (fun i wr => ∃ k : Nat, k ≤ xs.length ∧ i = .int .i64 k ∧ Drew w wr ∧ Hid (eqL (xs.drop k) (ys.drop k) = eqL xs ys)) (fun i _ => xs.length - (intOf i).toNat)
    case atStart => exact ⟨0, Nat.zero_le _, rfl, Drew.refl w, rfl⟩
    case round =>
      obtain ⟨k, hk, rfl, ⟨m, rfl⟩, hr⟩ := hrel
      by_cases hlt : k < xs.length
      · have hlt' : k < ys.length := by have := HL.out; omega
        obtain ⟨b, o, rfl, hcell⟩ := hc k hlt
        obtain ⟨b', o', rfl, hcell'⟩ := hc' k hlt'
        clear hc hc'
        have hst := eqL_step hlt hlt' hr.out
        have Hst := Lib.hid hst
        clear hst
        by_cases he : xs[k] = ys[k]
        · have he1 : (xs[k] != ys[k]) = false := by simp [he]
          have hr1 : Hid _ := Hst.out.1 he
          clear he Hst hr
          go_wp2_with fail
          go_quiet (fail)
          go_wp2
          go_roundw
          case rel => exact ⟨k + 1, hlt, by go_num, (by first | exact Drew.refl _ | exact Drew.mk _ _ | exact (Drew.mk _ _).drewN _), hr1⟩
          case measure => simp [intOf]; omega
        · have he1 : (xs[k] != ys[k]) = true := by simp [he]
          have hr1 : Hid _ := Hst.out.2 he
          clear he Hst hr
          go_wp2_with fail
          go_quiet (fail)
          go_wp2
          go_ret
          exact ⟨ret_bool hr1.out.symm, (by first | exact Drew.refl _ | exact Drew.mk _ _ | exact (Drew.mk _ _).drewN _)⟩
      · go_wp2
        go_ret
        rw [eqL_nil (by omega) (by have := HL.out; omega)] at hr
        exact ⟨ret_bool hr.out, (by first | exact Drew.refl _ | exact Drew.mk _ _ | exact (Drew.mk _ _).drewN _)⟩
  · have hl1 : ((xs.length : Int) != (ys.length : Int)) = true := by simp; omega
    have HL : Hid _ := eqL_len hl
    clear hl
    go_enter Try.func20, Try.ntmps20
    go_wp2
    go_ret
    exact ⟨ret_bool HL.out.symm, Drew.refl w⟩
end Go.Proofs.Ytmkodbkbgpjgoaa

namespace Go.Proofs.Ytmkodbkbgpjgoaa
open Go.RowKit
set_option linter.all false
theorem lBig_no (ao : Option Addr) (n c : Nat) (w : World) (h : n ≤ 1048576) : Calls Try.prog 4 #[.slice ao n c] w fun e w' => e = .returned (.bool false) ∧ w = w' := by
  have hd : decide ((1048576 : Int) < (n : Int)) = false := decide_eq_false (by omega)
  go_enter Try.func4, Try.ntmps4
  go_wp2_with fail
  go_ret
  exact ⟨rfl, rfl⟩
theorem lBig_yes (ao : Option Addr) (n c : Nat) (w : World) (h : 1048576 < n) : Calls Try.prog 4 #[.slice ao n c] w fun e w' => e = .returned (.bool true) ∧ w = w' := by
  have hd : decide ((1048576 : Int) < (n : Int)) = true := decide_eq_true (by omega)
  go_enter Try.func4, Try.ntmps4
  go_wp2_with fail
  go_ret
  exact ⟨rfl, rfl⟩
end Go.Proofs.Ytmkodbkbgpjgoaa

namespace Go.Proofs.Ytmkodbkbgpjgoaa
open Go.RowKit
set_option linter.all false
open Go.ChangeShapes Go.WideShapes Go.ChangeAt
/-- A slice of bytes that came in: it reads as the list xs. -/
def BytesIn (w : World) (ao : Option Addr) (n : Nat) (xs : List Int) : Prop :=
  xs.length = n ∧ (∀ i, i < xs.length → ∃ b o, ao = some ⟨b, o, none⟩ ∧ w.cell? ⟨b, o + i, none⟩ = some (.int .u8 (xs.getD i 0))) ∧ ∀ x ∈ xs, 0 ≤ x ∧ x ≤ 255
theorem BytesIn.cells {w : World} {ao : Option Addr} {n : Nat} {xs : List Int} (h : BytesIn w ao n xs) : ∀ i, i < n → ∃ b o x, ao = some ⟨b, o, none⟩ ∧ w.cell? ⟨b, o + i, none⟩ = some (.int .u8 x) ∧ 0 ≤ x ∧ x ≤ 255 := by
  intro i hi
  have hl : i < xs.length := by rw [h.1]; exact hi
  obtain ⟨b, o, e, hc⟩ := h.2.1 i hl
  exact ⟨b, o, _, e, hc, h.2.2 _ (List.mem_of_getElem? (show xs[i]? = some (xs.getD i 0) by simp [List.getD, hl]))⟩
theorem open_bytesIn {H : Type} {enc : TypeId × Value → H} {W : World} {base : Nat} {held : Bool} {ao : Option Addr} {n cap : Nat} {d : DataW H} {p : List MemPlace}
    (h : DataW.Trod enc Try.prog W base (fun _ => true) held 22 (.slice ao n cap) d p) : ∃ xs, BytesIn W ao n xs := by
  obtain ⟨fuel, hf⟩ := h
  rcases open_ints Try.underlying22 Try.underlying5 (by kernel_rfl) hf with ⟨hcs, _⟩ | ⟨x, l, c, zs, hcs, _, hl, hm, hz, _, hcell, hwz⟩
  · simp [Value.cells] at hcs
    obtain ⟨rfl, rfl, rfl⟩ := hcs
    exact ⟨[], rfl, fun i hi => by simp at hi, by simp⟩
  · simp [Value.cells] at hcs
    obtain ⟨rfl, rfl, rfl⟩ := hcs
    have hz' : zs.length = cap := by simpa using hz
    refine ⟨zs.take n, by simp; omega, fun i hi => ?_, fun x hx => ?_⟩
    · have hi' : i < n := by simp at hi; omega
      obtain ⟨b, o, rfl, hc⟩ := cell_plain (hcell 0 (by omega)) (hcell i (by omega))
      refine ⟨b, o, rfl, ?_⟩
      rw [hc]
      congr 2
      simp [List.getD, List.getElem?_take, hi']
    · have hw := hwz x (List.mem_of_mem_take hx)
      exact bounds_u8 hw
end Go.Proofs.Ytmkodbkbgpjgoaa

namespace Go.Proofs.Ytmkodbkbgpjgoaa
open Go.RowKit
set_option linter.all false
abbrev Ar := Int × Int × Int
def arV (x : Ar) : Value := .agg #[.int .i64 x.1, .int .i64 x.2.1, .int .i64 x.2.2]
def arCells : List Ar → List Value
  | [] => []
  | x :: r => .int .i64 x.1 :: .int .i64 x.2.1 :: .int .i64 x.2.2 :: arCells r
theorem arCells_len : ∀ xs : List Ar, (arCells xs).length = xs.length * 3
  | [] => rfl
  | x :: r => by simp only [arCells, List.length_cons, arCells_len r]; omega
theorem arCells_app : ∀ (xs ys : List Ar), arCells (xs ++ ys) = arCells xs ++ arCells ys
  | [], _ => rfl
  | x :: r, ys => by simp only [List.cons_append, arCells, arCells_app r ys]
theorem arCells_get : ∀ (xs : List Ar) (i : Nat) (x : Ar), xs[i]? = some x → (arCells xs)[i * 3]? = some (.int .i64 x.1) ∧ (arCells xs)[i * 3 + 1]? = some (.int .i64 x.2.1) ∧ (arCells xs)[i * 3 + 2]? = some (.int .i64 x.2.2)
  | [], _, _, h => by simp at h
  | y :: r, 0, x, h => by simp at h; subst h; exact ⟨rfl, rfl, rfl⟩
  | y :: r, i + 1, x, h => by
    have := arCells_get r i x (by simpa using h)
    rw [show (i + 1) * 3 = i * 3 + 3 by omega, show i * 3 + 3 + 1 = i * 3 + 1 + 3 by omega, show i * 3 + 3 + 2 = i * 3 + 2 + 3 by omega]
    exact this
theorem arCells_set1 : ∀ (xs : List Ar) (i : Nat) (x : Ar) (u : Int), xs[i]? = some x → (arCells xs).set (i * 3) (.int .i64 u) = arCells (xs.set i (u, x.2.1, x.2.2))
  | [], _, _, _, h => by simp at h
  | y :: r, 0, x, u, h => by simp at h; subst h; rfl
  | y :: r, i + 1, x, u, h => by
    have := arCells_set1 r i x u (by simpa using h)
    rw [show (i + 1) * 3 = i * 3 + 1 + 1 + 1 by omega]
    simp only [arCells, List.set_cons_succ, this]
theorem arCells_set2 : ∀ (xs : List Ar) (i : Nat) (x : Ar) (u : Int), xs[i]? = some x → (arCells xs).set (i * 3 + 1) (.int .i64 u) = arCells (xs.set i (x.1, u, x.2.2))
  | [], _, _, _, h => by simp at h
  | y :: r, 0, x, u, h => by simp at h; subst h; rfl
  | y :: r, i + 1, x, u, h => by
    have := arCells_set2 r i x u (by simpa using h)
    rw [show (i + 1) * 3 + 1 = i * 3 + 1 + 1 + 1 + 1 by omega]
    simp only [arCells, List.set_cons_succ, this]
theorem arCells_set3 : ∀ (xs : List Ar) (i : Nat) (x : Ar) (u : Int), xs[i]? = some x → (arCells xs).set (i * 3 + 2) (.int .i64 u) = arCells (xs.set i (x.1, x.2.1, u))
  | [], _, _, _, h => by simp at h
  | y :: r, 0, x, u, h => by simp at h; subst h; rfl
  | y :: r, i + 1, x, u, h => by
    have := arCells_set3 r i x u (by simpa using h)
    rw [show (i + 1) * 3 + 2 = i * 3 + 2 + 1 + 1 + 1 by omega]
    simp only [arCells, List.set_cons_succ, this]

/-- The slice value '.slice ao n cap' reads in w as the list xs of arcs. -/
def Arcs (w : World) (ao : Option Addr) (n : Nat) (xs : List Ar) : Prop :=
  xs.length = n ∧ n ≤ 1099511627776 ∧ ∀ i x, xs[i]? = some x → ∃ b o, ao = some ⟨b, o, none⟩ ∧ w.cell? ⟨b, o + i * 3, none⟩ = some (.int .i64 x.1) ∧ w.cell? ⟨b, o + i * 3 + 1, none⟩ = some (.int .i64 x.2.1) ∧ w.cell? ⟨b, o + i * 3 + 2, none⟩ = some (.int .i64 x.2.2)
theorem Arcs.keep {w w' : World} {ao : Option Addr} {n : Nat} {xs : List Ar} (h : Arcs w ao n xs) (hb : Below w.heap.size w w') : Arcs w' ao n xs := by
  refine ⟨h.1, h.2.1, fun i x hi => ?_⟩
  obtain ⟨b, o, e, h1, h2, h3⟩ := h.2.2 i x hi
  exact ⟨b, o, e, (hb.cell (p := ⟨b, _, none⟩) (World.block_lt_of_cell? w _ h1)).trans h1, (hb.cell (p := ⟨b, _, none⟩) (World.block_lt_of_cell? w _ h2)).trans h2, (hb.cell (p := ⟨b, _, none⟩) (World.block_lt_of_cell? w _ h3)).trans h3⟩
theorem Arcs.drewN {w : World} {ao : Option Addr} {n : Nat} {xs : List Ar} (h : Arcs w ao n xs) (k : Nat) : Arcs (w.drewN k) ao n xs := h
theorem Arcs.at_ {w : World} {ao : Option Addr} {n k : Nat} {xs : List Ar} (h : Arcs w ao n xs) (hk : k < n) :
    ∃ b o x y z, ao = some ⟨b, o, none⟩ ∧ w.cell? ⟨b, o + k * 3, none⟩ = some (.int .i64 x) ∧ w.cell? ⟨b, o + k * 3 + 1, none⟩ = some (.int .i64 y) ∧ w.cell? ⟨b, o + k * 3 + 2, none⟩ = some (.int .i64 z) ∧ Hid (xs[k]? = some (x, y, z)) := by
  have hl : k < xs.length := by rw [h.1]; exact hk
  obtain ⟨b, o, e, h1, h2, h3⟩ := h.2.2 k _ (List.getElem?_eq_getElem hl)
  exact ⟨b, o, _, _, _, e, h1, h2, h3, List.getElem?_eq_getElem hl⟩

/-- The slice value v is the call's own, and holds just the list xs of arcs. -/
def OArcs (w : World) (lo : Nat) (v : Value) (n : Nat) (xs : List Ar) : Prop :=
  n ≤ 1099511627776 ∧ w.ownsRow lo 55 3 v n (arCells xs)
section
variable {w w' : World} {lo n : Nat} {v : Value} {xs : List Ar}
theorem OArcs.len (h : OArcs w lo v n xs) : xs.length = n := by have := h.2.1; rw [arCells_len] at this; omega
theorem OArcs.keep (h : OArcs w lo v n xs) (hb : Below w.heap.size w w') : OArcs w' lo v n xs := ⟨h.1, own_keep h.2 hb⟩
theorem OArcs.grown {row : Option Nat} (h : OArcs w lo v n xs) (hg : w.grownBy w' row) (hne : v.ownBlock = none ∨ v.ownBlock ≠ row) : OArcs w' lo v n xs := ⟨h.1, h.2.kept hg hne⟩
theorem OArcs.alloc (h : OArcs w lo v n xs) (o : Obj) : OArcs (w.alloc o) lo v n xs := ⟨h.1, h.2.alloc o⟩
theorem OArcs.drewN (h : OArcs w lo v n xs) (k : Nat) : OArcs (w.drewN k) lo v n xs := h
theorem OArcs.mono {lo' : Nat} (h : OArcs w lo v n xs) (hl : lo' ≤ lo) : OArcs w lo' v n xs := by
  refine ⟨h.1, h.2.1, ?_⟩
  rcases h.2.2 with h2 | ⟨g, cap, cur, hv, hg, r⟩
  · exact .inl h2
  · exact .inr ⟨g, cap, cur, hv, Nat.le_trans hl hg, r⟩
theorem OArcs.ownlt (h : OArcs w lo v n xs) : ∀ k, v.ownBlock = some k → lo ≤ k ∧ k < w.heap.size := h.2.lt
/-- nil, or a slice at the head of a block. -/
theorem OArcs.form (h : OArcs w lo v n xs) : ∃ ao cap, v = .slice ao n cap ∧ Arcs w ao n xs := by
  have hl := h.len
  rcases h.2.2 with ⟨rfl, rfl⟩ | ⟨g, cap, cur, rfl, hg, hh, hnc, _, _, ht⟩
  · exact ⟨none, 0, rfl, hl, h.1, fun i x hi => by rw [List.eq_nil_of_length_eq_zero hl] at hi; simp at hi⟩
  · refine ⟨some ⟨g, 0, none⟩, cap, rfl, hl, h.1, fun i x hi => ⟨g, 0, rfl, ?_⟩⟩
    obtain ⟨c1, c2, c3⟩ := arCells_get xs i x hi
    have d1 := h.2.cells (g := g) rfl _ _ c1
    have d2 := h.2.cells (g := g) rfl _ _ c2
    have d3 := h.2.cells (g := g) rfl _ _ c3
    rw [Addr.add_lit, Nat.zero_add] at d1 d2 d3
    rw [Nat.zero_add]
    exact ⟨d1, d2, d3⟩
theorem OArcs.two {cap : Nat} {ao : Option Addr} (h : OArcs w lo (.slice ao n cap) n xs) : (ao = none ∧ n = 0) ∨ ∃ g, ao = some ⟨g, 0, none⟩ := by
  rcases h.2.2 with ⟨e, hn⟩ | ⟨g, c, cur, e, _⟩
  · injection e with e1
    exact .inl ⟨e1, hn⟩
  · injection e with e1
    exact .inr ⟨g, e1⟩
theorem OArcs.read {cap : Nat} {ao : Option Addr} (h : OArcs w lo (.slice ao n cap) n xs) : Arcs w ao n xs := by
  obtain ⟨ao', cap', e, hi⟩ := h.form
  injection e with e1
  subst e1
  exact hi
theorem OArcs.capLe {m cap : Nat} {ao : Option Addr} (h : OArcs w lo v n xs) (e : v = .slice ao m cap) : n ≤ cap := by
  rcases h.2.2 with ⟨rfl, rfl⟩ | ⟨g, c, cur, rfl, _, _, hnc, _⟩
  · exact Nat.zero_le _
  · injection e with _ _ e3
    omega
theorem OArcs.within {hi lo2 : Nat} (h : OArcs w lo v n xs) (hw : Within lo2 hi w w') (hl : hi ≤ lo) : OArcs w' lo v n xs := ⟨h.1, own_within h.2 hw hl⟩
theorem OArcs.since (h : OArcs w lo v n xs) (hw : Since lo w.heap.size w w') : OArcs w' lo v n xs := ⟨h.1, own_since h.2 hw⟩
theorem OArcs.none_ (w : World) (lo : Nat) : OArcs w lo (.slice none 0 0) 0 [] := ⟨by omega, by simp [arCells], .inl ⟨rfl, rfl⟩⟩
theorem OArcs.empty (w : World) (lo : Nat) (hlo : lo ≤ w.heap.size) : OArcs (w.alloc (.cells #[] 55)) lo (.slice (some ⟨w.heap.size, 0, none⟩) 0 0) 0 [] := by
  refine ⟨by omega, ?_⟩
  exact World.ownsRow_made (base := lo) (e := 55) (size := 3) w #[] 0 hlo (by unfold maxLen; omega) rfl
end
section
variable {w w' : World} {lo g n cap : Nat} {xs : List Ar}
theorem OArcs.lt (h : OArcs w lo (.slice (some ⟨g, 0, none⟩) n cap) n xs) : lo ≤ g ∧ g < w.heap.size := h.2.lt g rfl
theorem OArcs.frozen (h : OArcs w lo (.slice (some ⟨g, 0, none⟩) n cap) n xs) (k : Nat) : w.frozen? ⟨g, k, none⟩ = false := h.2.frozenAt k
theorem OArcs.cells (h : OArcs w lo (.slice (some ⟨g, 0, none⟩) n cap) n xs) {k : Nat} {x : Ar} (hk : xs[k]? = some x) : w.cell? ⟨g, k * 3, none⟩ = some (.int .i64 x.1) ∧ w.cell? ⟨g, k * 3 + 1, none⟩ = some (.int .i64 x.2.1) ∧ w.cell? ⟨g, k * 3 + 2, none⟩ = some (.int .i64 x.2.2) := by
  obtain ⟨b, o, e, h1, h2, h3⟩ := h.read.2.2 k x hk
  injection e with e
  injection e with e1 e2
  subst e1
  subst e2
  rw [Nat.zero_add] at h1 h2 h3
  exact ⟨h1, h2, h3⟩
theorem OArcs.set1 (h : OArcs w lo (.slice (some ⟨g, 0, none⟩) n cap) n xs) {k : Nat} {x : Ar} (hk : xs[k]? = some x) (u : Int) : OArcs (w.setCell ⟨g, k * 3, none⟩ (.int .i64 u)) lo (.slice (some ⟨g, 0, none⟩) n cap) n (xs.set k (u, x.2.1, x.2.2)) :=
  ⟨h.1, by rw [← arCells_set1 _ _ _ _ hk]; exact (h.2.stored _ _).1⟩
theorem OArcs.set2 (h : OArcs w lo (.slice (some ⟨g, 0, none⟩) n cap) n xs) {k : Nat} {x : Ar} (hk : xs[k]? = some x) (u : Int) : OArcs (w.setCell ⟨g, k * 3 + 1, none⟩ (.int .i64 u)) lo (.slice (some ⟨g, 0, none⟩) n cap) n (xs.set k (x.1, u, x.2.2)) :=
  ⟨h.1, by rw [← arCells_set2 _ _ _ _ hk]; exact (h.2.stored _ _).1⟩
theorem OArcs.set3 (h : OArcs w lo (.slice (some ⟨g, 0, none⟩) n cap) n xs) {k : Nat} {x : Ar} (hk : xs[k]? = some x) (u : Int) : OArcs (w.setCell ⟨g, k * 3 + 2, none⟩ (.int .i64 u)) lo (.slice (some ⟨g, 0, none⟩) n cap) n (xs.set k (x.1, x.2.1, u)) :=
  ⟨h.1, by rw [← arCells_set3 _ _ _ _ hk]; exact (h.2.stored _ _).1⟩
end
theorem info_arc : (Try.prog.info? 55).map (fun i => (i.zero, i.size, i.bytes)) = some (some (.agg #[.int .i64 0, .int .i64 0, .int .i64 0]), 3, 24) := by kernel_rfl

theorem arCells_zeros : ∀ n : Nat, arCells (List.replicate n (0, 0, 0)) = List.replicate (n * 3) (.int .i64 0)
  | 0 => rfl
  | n + 1 => by
    rw [show (n + 1) * 3 = n * 3 + 1 + 1 + 1 by omega]
    simp only [List.replicate_succ, arCells, arCells_zeros n]
theorem toList_made3 (n : Nat) : (madeCells #[.int .i64 0, .int .i64 0, .int .i64 0] (n * 3)).toList = arCells (List.replicate n (0, 0, 0)) := by
  rw [arCells_zeros]
  apply List.ext_getElem?
  intro j
  by_cases hj : j < n * 3
  · have h3 : j % 3 = 0 ∨ j % 3 = 1 ∨ j % 3 = 2 := by omega
    rcases h3 with h | h | h <;> simp [madeCells, hj, h]
  · simp [madeCells, hj]
theorem make_arcs (n : Nat) (hn : n ≤ 1099511627776) (w : World) :
    (Instr.makeSlice 24 (.int .i64 (n : Int)) (.int .i64 (n : Int))).run Try.prog w = .ok (.slice (some ⟨w.heap.size, 0, none⟩) n n) (w.alloc (.cells (madeCells #[.int .i64 0, .int .i64 0, .int .i64 0] (n * 3)) 55)) := by
  obtain ⟨i, hi, hzz⟩ := Option.map_eq_some_iff.1 info_arc
  simp only [Prod.mk.injEq] at hzz
  obtain ⟨hz, hs, hb⟩ := hzz
  have hr := run_make (P := Try.prog) w 24 55 i _ Try.underlying24 hi hz .i64 .i64 n n (by omega) (Int.le_refl _) (by rw [hb]; omega) (by omega)
  simp only [Int.toNat_natCast, hs] at hr
  exact hr
theorem OArcs.made (w : World) (n : Nat) (hn : n ≤ 1099511627776) : OArcs (w.alloc (.cells (madeCells #[.int .i64 0, .int .i64 0, .int .i64 0] (n * 3)) 55)) w.heap.size (.slice (some ⟨w.heap.size, 0, none⟩) n n) n (List.replicate n (0, 0, 0)) := by
  refine ⟨hn, ?_⟩
  have h := World.ownsRow_lit (base := w.heap.size) (e := 55) (size := 3) w (madeCells #[.int .i64 0, .int .i64 0, .int .i64 0] (n * 3)) n (Nat.le_refl _) (by unfold maxLen; omega) (by simp [madeCells])
  rw [toList_made3] at h
  exact h
theorem get_set {α : Type} {xs : List α} {k : Nat} {x y : α} (h : xs[k]? = some x) : (xs.set k y)[k]? = some y := by
  obtain ⟨hk, _⟩ := List.getElem?_eq_some_iff.1 h
  simp [hk]
theorem OArcs.put {w : World} {lo g n cap : Nat} {xs : List Ar} (h : OArcs w lo (.slice (some ⟨g, 0, none⟩) n cap) n xs) {k : Nat} {a : Ar} (hk : xs[k]? = some a) (x y z : Int) :
    OArcs (((w.setCell ⟨g, k * 3, none⟩ (.int .i64 x)).setCell ⟨g, k * 3 + 1, none⟩ (.int .i64 y)).setCell ⟨g, k * 3 + 2, none⟩ (.int .i64 z)) lo (.slice (some ⟨g, 0, none⟩) n cap) n (xs.set k (x, y, z)) := by
  have h1 := h.set1 hk x
  have h2 := h1.set2 (get_set hk) y
  rw [List.set_set] at h2
  have h3 := h2.set3 (get_set hk) z
  rw [List.set_set] at h3
  exact h3
theorem Below.put3 {B : Nat} {a w : World} (h : Below B a w) {g : Nat} (hg : B ≤ g) (k : Nat) (u1 u2 u3 : Value) : Below B a (((w.setCell ⟨g, k * 3, none⟩ u1).setCell ⟨g, k * 3 + 1, none⟩ u2).setCell ⟨g, k * 3 + 2, none⟩ u3) :=
  ((h.setCell (p := ⟨g, _, none⟩) hg u1).setCell (p := ⟨g, _, none⟩) hg u2).setCell (p := ⟨g, _, none⟩) hg u3
theorem grown_put3 {a w : World} {g : Nat} (h : a.grownBy w (some g)) (k : Nat) (u1 u2 u3 : Value) : a.grownBy (((w.setCell ⟨g, k * 3, none⟩ u1).setCell ⟨g, k * 3 + 1, none⟩ u2).setCell ⟨g, k * 3 + 2, none⟩ u3) (some g) :=
  only_setCell (only_setCell (only_setCell h (p := ⟨g, _, none⟩) rfl u1) (p := ⟨g, _, none⟩) rfl u2) (p := ⟨g, _, none⟩) rfl u3
/-- The marks: k, k + 1, .. -/
def marksA (k : Int) (n : Nat) : List Ar := (List.range n).map fun i => (k + 3 * (i : Nat), k + 3 * (i : Nat) + 1, k + 3 * (i : Nat) + 1 + 1)
theorem marksA_len (k : Int) (n : Nat) : (marksA k n).length = n := by simp [marksA]
theorem marksA_get {k : Int} {n i : Nat} (h : i < n) : (marksA k n)[i]? = some (k + 3 * (i : Nat), k + 3 * (i : Nat) + 1, k + 3 * (i : Nat) + 1 + 1) := by simp [marksA, h]
theorem OArcs.setFar {w : World} {lo n : Nat} {v : Value} {xs : List Ar} (h : OArcs w lo v n xs) {p : Addr} (hne : v.ownBlock ≠ some p.block) (u : Value) : OArcs (w.setCell p u) lo v n xs :=
  h.grown (only_setCell (World.grownBy.refl w (some p.block)) rfl u) (.inr hne)
theorem own_ne {g n c b : Nat} (h : g ≠ b) : (Value.slice (some ⟨g, 0, none⟩) n c).ownBlock ≠ some b := by
  intro e
  exact h (by injection e)
end Go.Proofs.Ytmkodbkbgpjgoaa

namespace Go.Proofs.Ytmkodbkbgpjgoaa
open Go.RowKit
set_option linter.all false
def Blk (w : World) (b : Nat) (t : TypeId) (us : Array Value) : Prop := w.heap[b]? = some (.cells us t (0, 0))
section
variable {w w' : World} {b : Nat} {t : TypeId} {us : Array Value}
theorem Blk.lt (h : Blk w b t us) : b < w.heap.size := (Array.getElem?_eq_some_iff.1 h).1
theorem Blk.cell (h : Blk w b t us) (i : Nat) : w.cell? ⟨b, i, none⟩ = us[i]? := cell_of_row w b i us t (0, 0) h
theorem Blk.frozen (h : Blk w b t us) (i : Nat) : w.frozen? ⟨b, i, none⟩ = false := frozen_of_row w b i us t h
theorem Blk.keep (h : Blk w b t us) (hb : Below w.heap.size w w') : Blk w' b t us := (hb.block b h.lt).trans h
theorem Blk.drewN (h : Blk w b t us) (n : Nat) : Blk (w.drewN n) b t us := h
theorem Blk.alloc (h : Blk w b t us) (o : Obj) : Blk (w.alloc o) b t us := h.keep ((Below.refl _ _).alloc (Nat.le_refl _) o)
theorem Blk.new (w : World) (t : TypeId) (us : Array Value) : Blk (w.alloc (.cells us t)) w.heap.size t us := heap_alloc_new w _
theorem Blk.within {lo hi : Nat} (h : Blk w b t us) (hw : Within lo hi w w') (hb : b < lo ∨ hi ≤ b) : Blk w' b t us := (hw.block b h.lt hb).trans h
theorem Blk.grown {row : Option Nat} (h : Blk w b t us) (hg : w.grownBy w' row) (hb : some b ≠ row) : Blk w' b t us := (hg.block b h.lt hb).trans h
theorem Blk.other (h : Blk w b t us) {p : Addr} (hp : b ≠ p.block) (u : Value) : Blk (w.setCell p u) b t us := (heap_setCell_other w p b u hp).trans h
theorem Blk.set (h : Blk w b t us) (i : Nat) (u : Value) : Blk (w.setCell ⟨b, i, none⟩ u) b t (us.setIfInBounds i u) := heap_setCell_same w b i us t u h
end
section
variable {w : World} {b : Nat} {t : TypeId} {u0 u1 u2 : Value}
theorem Blk.c0 (h : Blk w b t #[u0, u1, u2]) : w.cell? ⟨b, 0, none⟩ = some u0 := h.cell 0
theorem Blk.c1 (h : Blk w b t #[u0, u1, u2]) : w.cell? ⟨b, 1, none⟩ = some u1 := h.cell 1
theorem Blk.c2 (h : Blk w b t #[u0, u1, u2]) : w.cell? ⟨b, 2, none⟩ = some u2 := h.cell 2
end
theorem below_lab {B : Nat} {a w : World} (h : Below B a w) {g : Nat} (hg : B ≤ g) (u0 u1 u2 : Value) : Below B a (((w.setCell ⟨g, 0, none⟩ u0).setCell ⟨g, 1, none⟩ u1).setCell ⟨g, 2, none⟩ u2) :=
  ((h.setCell (p := ⟨g, _, none⟩) hg u0).setCell (p := ⟨g, _, none⟩) hg u1).setCell (p := ⟨g, _, none⟩) hg u2
theorem below1 (w : World) (o : Obj) : Below w.heap.size w (w.alloc o) := (Below.refl _ _).alloc (Nat.le_refl _) o
theorem below2 (w : World) (o p : Obj) : Below w.heap.size w ((w.alloc o).alloc p) := (below1 w o).alloc (by simp) p
theorem below3 (w : World) (o p q : Obj) : Below w.heap.size w (((w.alloc o).alloc p).alloc q) := (below2 w o p).alloc (by simp; omega) q
end Go.Proofs.Ytmkodbkbgpjgoaa

namespace Go.Proofs.Ytmkodbkbgpjgoaa
open Go.RowKit
set_option linter.all false
def le9 (r : List Int) : Bool := r.all (fun x => !decide (9 < x))
def le9T (xss : List (List Int)) : Bool := xss.all le9
def isSmallM (xss : List (List Int)) : Bool := isMat xss && (!decide (4 < xss.length) && le9T xss)
theorem le9_step {r : List Int} {k : Nat} {x : Int} {b : Bool} (hk : r[k]? = some x) (h : le9 (r.drop k) = b) : (9 < x → b = false) ∧ (¬ 9 < x → le9 (r.drop (k + 1)) = b) := by
  rw [drop_of_get hk] at h
  generalize List.drop (k + 1) r = q at *
  constructor
  · intro e; simpa [le9, e] using h.symm
  · intro e
    have e' : decide (9 < x) = false := by simpa using e
    simpa [le9, e'] using h
theorem le9T_step {xss : List (List Int)} {k : Nat} {r : List Int} {b : Bool} (hk : xss[k]? = some r) (h : le9T (xss.drop k) = b) : (le9 r = false → b = false) ∧ (le9 r = true → le9T (xss.drop (k + 1)) = b) := by
  rw [drop_of_get hk] at h
  generalize List.drop (k + 1) xss = q at *
  constructor
  · intro e; simpa [le9T, e] using h.symm
  · intro e; simpa [le9T, e] using h
theorem isSmallM_mat {xss : List (List Int)} (h : isSmallM xss = true) : isMat xss = true ∧ xss.length ≤ 4 ∧ 1 ≤ xss.length := by
  simp only [isSmallM, Bool.and_eq_true] at h
  have h1 : ¬ 4 < xss.length := by simpa using h.2.1
  exact ⟨h.1, by omega, (isMat_len h.1).1⟩
theorem isSmallM_get {xss : List (List Int)} (h : isSmallM xss = true) {k j : Nat} {r : List Int} {x : Int} (hk : xss[k]? = some r) (hj : r[j]? = some x) : 0 ≤ x ∧ x ≤ 9 := by
  have h0 := isSmallM_mat h
  have h1 := allIn_get (isMat_row h0.1 hk).2 hj
  simp only [isSmallM, Bool.and_eq_true, le9T, List.all_eq_true, le9] at h
  have h2 := h.2.2 r (List.mem_of_getElem? hk) x (List.mem_of_getElem? hj)
  have h3 : ¬ 9 < x := by simpa using h2
  omega
end Go.Proofs.Ytmkodbkbgpjgoaa

namespace Go.Proofs.Ytmkodbkbgpjgoaa
open Go.RowKit
set_option linter.all false
def col (b : List (List Int)) (j : Nat) : List Int := b.map (fun r => r.getD j 0)
def ent (b : List (List Int)) (r : List Int) (j : Nat) : Int := wdot 0 r (col b j)
def mulRow (b : List (List Int)) (c : Nat) (r : List Int) : List Int := (List.range c).map (ent b r)
def mulT (a b : List (List Int)) (c : Nat) : List (List Int) := a.map (mulRow b c)
/-- After k products. -/
def wd (b : List (List Int)) (r : List Int) (k j : Nat) : Int := wdot 0 (r.take k) ((col b j).take k)
def wline (b : List (List Int)) (r : List Int) (c k : Nat) : List Int := (List.range c).map (wd b r k)

theorem wdot_append : ∀ (l m : List Int) (a x y : Int), l.length = m.length → wdot a (l ++ [x]) (m ++ [y]) = wrap64 (wdot a l m + wrap64 (x * y))
  | [], [], _, _, _, _ => rfl
  | p :: l, q :: m, a, x, y, h => wdot_append l m _ x y (by simpa using h)
theorem wd_zero (b : List (List Int)) (r : List Int) (j : Nat) : wd b r 0 j = 0 := rfl
theorem col_get {b : List (List Int)} {k j : Nat} {rb : List Int} {y : Int} (hb : b[k]? = some rb) (hy : rb[j]? = some y) : (col b j)[k]? = some y := by
  simp [col, hb, List.getD, hy]
theorem wd_succ {b : List (List Int)} {r rb : List Int} {k j : Nat} {x y : Int} (hx : r[k]? = some x) (hb : b[k]? = some rb) (hy : rb[j]? = some y) :
    wd b r (k + 1) j = wrap64 (wd b r k j + wrap64 (x * y)) := by
  have h1 := (List.getElem?_eq_some_iff.1 hx).1
  have h2 := (List.getElem?_eq_some_iff.1 hb).1
  unfold wd
  rw [← push_take hx, ← push_take (col_get hb hy)]
  exact wdot_append _ _ _ _ _ (by simp [col]; omega)
theorem wd_end {b : List (List Int)} {r : List Int} {k j : Nat} (h1 : r.length ≤ k) (h2 : b.length ≤ k) : wd b r k j = ent b r j := by
  unfold wd ent
  rw [List.take_of_length_le h1, List.take_of_length_le (by simpa [col] using h2)]
theorem wline_zero (b : List (List Int)) (r : List Int) (c : Nat) : wline b r c 0 = List.replicate c 0 := by
  apply List.ext_getElem?
  intro i
  by_cases h : i < c
  · simp [wline, wd_zero, h]
  · simp [wline, h]
theorem wline_len (b : List (List Int)) (r : List Int) (c k : Nat) : (wline b r c k).length = c := by simp [wline]
theorem wline_get {b : List (List Int)} {r : List Int} {c k j : Nat} (h : j < c) : (wline b r c k)[j]? = some (wd b r k j) := by simp [wline, h]
theorem wline_end {b : List (List Int)} {r : List Int} {c k : Nat} (h1 : r.length ≤ k) (h2 : b.length ≤ k) : wline b r c k = mulRow b c r := by
  unfold wline mulRow
  apply List.map_congr_left
  intro j _
  exact wd_end h1 h2
theorem mulRow_len (b : List (List Int)) (c : Nat) (r : List Int) : (mulRow b c r).length = c := by simp [mulRow]
theorem mulRow_get {b : List (List Int)} {c j : Nat} {r : List Int} (h : j < c) : (mulRow b c r)[j]? = some (ent b r j) := by simp [mulRow, h]
theorem mulT_len (a b : List (List Int)) (c : Nat) : (mulT a b c).length = a.length := by simp [mulT]
theorem mulT_get {a b : List (List Int)} {c k : Nat} {r : List Int} (h : a[k]? = some r) : (mulT a b c)[k]? = some (mulRow b c r) := by simp [mulT, h]
/-- All rows have n numbers. -/
def RowsLen (xss : List (List Int)) (n : Nat) : Prop := ∀ (k : Nat) (r : List Int), xss[k]? = some r → r.length = n
theorem isMat_rowsLen {xss : List (List Int)} {n : Nat} (h : isMat xss = true) (hn : xss.length = n) : RowsLen xss n := fun _ _ hk => by rw [← hn]; exact (isMat_row h hk).1
theorem mulT_rowsLen (a b : List (List Int)) (c : Nat) : RowsLen (mulT a b c) c := by
  intro k r hk
  simp only [mulT, List.getElem?_map, Option.map_eq_some_iff] at hk
  obtain ⟨q, _, rfl⟩ := hk
  exact mulRow_len b c q
end Go.Proofs.Ytmkodbkbgpjgoaa

namespace Go.Proofs.Ytmkodbkbgpjgoaa
open Go.RowKit
set_option linter.all false
def smith (xss : List (List Int)) : Bool := tabIn xss.length (-100) 100 xss && inR xss.length 1 4
def square (L : Int) (xss : List (List Int)) : Bool := decide (xss.length ≤ 4) && tabIn xss.length (-L) L xss
theorem smith_len {xss : List (List Int)} (h : smith xss = true) : 1 ≤ xss.length ∧ xss.length ≤ 4 := by
  simp only [smith, Bool.and_eq_true] at h
  have := inR_true h.2
  omega
theorem smith_row {xss : List (List Int)} (h : smith xss = true) {k : Nat} {r : List Int} (hk : xss[k]? = some r) : r.length = xss.length ∧ allIn (-100) 100 r = true := by
  simp only [smith, Bool.and_eq_true] at h
  exact tabIn_get h.1 hk
theorem smith_square (xss : List (List Int)) : smith xss = (decide (0 < xss.length) && square 100 xss) := by
  unfold smith square
  by_cases h0 : 0 < xss.length
  · by_cases h4 : xss.length ≤ 4
    · rw [inR_mk ⟨by omega, by omega⟩]; simp [h0, h4]
    · rw [inR_no (.inr (by omega))]; simp [h4]
  · rw [inR_no (.inl (by omega))]; simp [h0]
end Go.Proofs.Ytmkodbkbgpjgoaa

namespace Go.Proofs.Ytmkodbkbgpjgoaa
open Go.RowKit
set_option linter.all false
def cut (j : Nat) (r : List Int) : List Int := r.take j ++ r.drop (j + 1)
def minorT (t : List (List Int)) (i j : Nat) : List (List Int) := (t.eraseIdx i).map (cut j)
def minorTo (t : List (List Int)) (i j k : Nat) : List (List Int) := ((t.take k).eraseIdx i).map (cut j)
theorem minorTo_zero (t : List (List Int)) (i j : Nat) : minorTo t i j 0 = [] := by simp [minorTo]
theorem minorTo_end {t : List (List Int)} {i j k : Nat} (h : t.length ≤ k) : minorTo t i j k = minorT t i j := by
  unfold minorTo minorT; rw [List.take_of_length_le h]
theorem minorTo_skip {t : List (List Int)} {j k : Nat} (h : k < t.length) : minorTo t k j (k + 1) = minorTo t k j k := by
  unfold minorTo
  have h1 : (t.take k).eraseIdx k = t.take k := List.eraseIdx_of_length_le (by simp; omega)
  have h2 : (t.take (k + 1)).eraseIdx k = t.take k := by
    rw [List.take_succ_eq_append_getElem h, List.eraseIdx_append_of_length_le (by simp; omega)]
    simp [show k - min k t.length = 0 from by omega]
  rw [h1, h2]
theorem minorTo_step {t : List (List Int)} {i j k : Nat} {r : List Int} (h : t[k]? = some r) (hne : k ≠ i) : minorTo t i j (k + 1) = minorTo t i j k ++ [cut j r] := by
  unfold minorTo
  rw [← push_take h]
  have hk := (List.getElem?_eq_some_iff.1 h).1
  have hl : (t.take k).length = k := take_len (by omega)
  by_cases hi : i < k
  · rw [List.eraseIdx_append_of_lt_length (by omega)]
    simp
  · rw [List.eraseIdx_of_length_le (by simp; omega), List.eraseIdx_of_length_le (by omega)]
    simp
theorem minorTo_len {t : List (List Int)} {i j k : Nat} : (minorTo t i j k).length ≤ k := by
  unfold minorTo
  have := List.length_eraseIdx_le (t.take k) i
  simp only [List.length_map, List.length_take] at *
  omega
theorem minorT_len {t : List (List Int)} {i j : Nat} (h : i < t.length) : (minorT t i j).length = t.length - 1 := by
  unfold minorT; rw [List.length_map, List.length_eraseIdx_of_lt h]
theorem cut_len {j : Nat} {r : List Int} (h : j < r.length) : (cut j r).length = r.length - 1 := by simp [cut]; omega
theorem minorT_rowsLen {t : List (List Int)} {i j m : Nat} (h : RowsLen t (m + 1)) (hj : j < m + 1) : RowsLen (minorT t i j) m := by
  intro k r hk
  simp only [minorT, List.getElem?_map, Option.map_eq_some_iff] at hk
  obtain ⟨q, hq, rfl⟩ := hk
  have hm := List.mem_of_mem_eraseIdx (List.mem_of_getElem? hq)
  obtain ⟨k', hk'⟩ := List.getElem?_of_mem hm
  have := h k' q hk'
  rw [cut_len (by omega)]
  omega
end Go.Proofs.Ytmkodbkbgpjgoaa

namespace Go.Proofs.Ytmkodbkbgpjgoaa
open Go.RowKit
set_option linter.all false
def dloop (D : List (List Int) → Int) (t : List (List Int)) : List Int → Nat → Int → Int → Int
  | [], _, s, _ => s
  | x :: xs, j, s, g => dloop D t xs (j + 1) (if x = 0 then s else wrap64 (s + wrap64 (wrap64 (g * x) * D (minorT t 0 j)))) (-g)
def det : Nat → List (List Int) → Int
  | 0, _ => 1
  | m + 1, t => dloop (det m) t (t.getD 0 []) 0 0 1
theorem dloop_zero {D : List (List Int) → Int} {t : List (List Int)} {r : List Int} {j : Nat} {s g b : Int} (hx : r[j]? = some 0) (h : dloop D t (r.drop j) j s g = b) : dloop D t (r.drop (j + 1)) (j + 1) s (-g) = b := by
  rw [drop_of_get hx] at h
  simpa only [dloop, if_true] using h
theorem dloop_step {D : List (List Int) → Int} {t : List (List Int)} {r : List Int} {j : Nat} {s g x b : Int} (hx : r[j]? = some x) (h0 : x ≠ 0) (h : dloop D t (r.drop j) j s g = b) :
    dloop D t (r.drop (j + 1)) (j + 1) (wrap64 (s + wrap64 (wrap64 (g * x) * D (minorT t 0 j)))) (-g) = b := by
  rw [drop_of_get hx] at h
  simpa only [dloop, if_neg h0] using h
theorem dloop_end {D : List (List Int) → Int} {t : List (List Int)} {r : List Int} {j : Nat} {s g b : Int} (hx : r.length ≤ j) (h : dloop D t (r.drop j) j s g = b) : s = b := by
  rw [drop_all r j hx] at h
  exact h
theorem wrap_i64_eq (n : Int) : IntKind.i64.wrap n = wrap64 n := by
  rw [IntKind.wrap_i64]; unfold wrap64; omega
end Go.Proofs.Ytmkodbkbgpjgoaa

namespace Go.Proofs.Ytmkodbkbgpjgoaa
open Go.RowKit
set_option linter.all false
def Bnd (B : Int) (t : List (List Int)) : Prop := ∀ r ∈ t, ∀ x ∈ r, -B ≤ x ∧ x ≤ B
def dmax (B : Int) : Nat → Int
  | 0 => 1
  | m + 1 => ((m : Int) + 1) * (B * dmax B m)
theorem Bnd.minor {B : Int} {t : List (List Int)} (h : Bnd B t) (i j : Nat) : Bnd B (minorT t i j) := by
  intro r hr x hx
  unfold minorT at hr
  obtain ⟨q, hq, rfl⟩ := List.mem_map.1 hr
  have hm := List.mem_of_mem_eraseIdx hq
  unfold cut at hx
  rcases List.mem_append.1 hx with h1 | h1
  · exact h q hm x (List.mem_of_mem_take h1)
  · exact h q hm x (List.mem_of_mem_drop h1)
theorem mul_abs {x d B M : Int} (hB : 0 ≤ B) (hM : 0 ≤ M) (hx : -B ≤ x ∧ x ≤ B) (hd : -M ≤ d ∧ d ≤ M) : -(B * M) ≤ x * d ∧ x * d ≤ B * M := by
  have h1 : (x * d).natAbs ≤ (B * M).natAbs := by
    rw [Int.natAbs_mul, Int.natAbs_mul]
    exact Nat.mul_le_mul (by omega) (by omega)
  have h2 : 0 ≤ B * M := Int.mul_nonneg hB hM
  generalize x * d = a at *
  generalize B * M = b at *
  omega
theorem dloop_bound {D : List (List Int) → Int} {t : List (List Int)} {B M c : Int} (hB : 0 ≤ B) (hB2 : B ≤ 4611686018427387904) (hM : 0 ≤ M) (hc : B * M = c) :
    ∀ (xs : List Int) (j : Nat) (s g S : Int), (∀ x ∈ xs, -B ≤ x ∧ x ≤ B) → (∀ k, j ≤ k → k < j + xs.length → -M ≤ D (minorT t 0 k) ∧ D (minorT t 0 k) ≤ M) →
      -1 ≤ g → g ≤ 1 → -S ≤ s → s ≤ S → S + (xs.length : Int) * c ≤ 4611686018427387904 → -(S + (xs.length : Int) * c) ≤ dloop D t xs j s g ∧ dloop D t xs j s g ≤ S + (xs.length : Int) * c
  | [], j, s, g, S, _, _, _, _, h1, h2, _ => by simp [dloop]; omega
  | x :: xs, j, s, g, S, hx, hD, hg1, hg2, h1, h2, hS => by
    have hc0 : 0 ≤ c := by rw [← hc]; exact Int.mul_nonneg hB hM
    have hlen : (((x :: xs).length : Nat) : Int) * c = (xs.length : Int) * c + c := by simp [Int.add_mul]
    rw [hlen] at hS ⊢
    have hl0 : 0 ≤ (xs.length : Int) * c := Int.mul_nonneg (by omega) hc0
    have hgx : -B ≤ g * x ∧ g * x ≤ B := by
      have := mul_abs (x := g) (d := x) (B := 1) (M := B) (by omega) hB ⟨hg1, hg2⟩ (hx x (by simp))
      rw [Int.one_mul] at this
      exact this
    have hd := hD j (Nat.le_refl _) (by simp)
    have hw : wrap64 (g * x) = g * x := by generalize g * x = a at *; unfold wrap64; omega
    have hp := mul_abs hB hM hgx hd
    rw [hc] at hp
    have hw2 : wrap64 (g * x * D (minorT t 0 j)) = g * x * D (minorT t 0 j) := by generalize g * x * D (minorT t 0 j) = a at *; unfold wrap64; omega
    have hw3 : wrap64 (s + g * x * D (minorT t 0 j)) = s + g * x * D (minorT t 0 j) := by generalize g * x * D (minorT t 0 j) = a at *; unfold wrap64; omega
    unfold dloop
    rw [hw, hw2, hw3]
    have hs : -(S + c) ≤ (if x = 0 then s else s + g * x * D (minorT t 0 j)) ∧ (if x = 0 then s else s + g * x * D (minorT t 0 j)) ≤ S + c := by
      generalize g * x * D (minorT t 0 j) = a at *
      split <;> omega
    have := dloop_bound hB hB2 hM hc xs (j + 1) _ (-g) (S + c) (fun y hy => hx y (by simp [hy])) (fun k h3 h4 => hD k (by omega) (by simp; omega)) (by omega) (by omega) hs.1 hs.2 (by omega)
    omega
theorem dmax_nonneg {B : Int} (hB : 0 ≤ B) (m : Nat) : 0 ≤ dmax B m := by
  induction m with
  | zero => exact Int.le_of_lt (by unfold dmax; omega)
  | succ m ih => exact Int.mul_nonneg (by omega) (Int.mul_nonneg hB ih)
theorem det_bound {B : Int} (hB : 0 ≤ B) (hB2 : B ≤ 4611686018427387904) (m : Nat) : ∀ t : List (List Int), t.length = m → RowsLen t m → Bnd B t → (∀ k, k ≤ m → dmax B k ≤ 4611686018427387904) → -(dmax B m) ≤ det m t ∧ det m t ≤ dmax B m := by
  induction m with
  | zero => intro t _ _ _ _; exact ⟨by unfold dmax det; omega, by unfold dmax det; omega⟩
  | succ m ih =>
    intro t hl hr hb hd
    have h0 : t[0]? = some t[0] := List.getElem?_eq_getElem (by omega)
    have hr0 : t[0].length = m + 1 := hr 0 _ h0
    have e : t.getD 0 [] = t[0] := by simp [List.getD, h0]
    have hM : ∀ k, 0 ≤ k → k < 0 + t[0].length → -(dmax B m) ≤ det m (minorT t 0 k) ∧ det m (minorT t 0 k) ≤ dmax B m := by
      intro k _ hk
      exact ih _ (by rw [minorT_len (by omega)]; omega) (minorT_rowsLen hr (by omega)) (hb.minor 0 k) (fun k hk => hd k (by omega))
    have hlast := hd (m + 1) (Nat.le_refl _)
    have := dloop_bound (D := det m) (t := t) hB hB2 (dmax_nonneg hB m) rfl t[0] 0 0 1 0 (fun x hx => hb _ (List.getElem_mem _) x hx) hM (by omega) (by omega) (by omega) (by omega) (by rw [hr0]; simpa [dmax] using hlast)
    unfold det
    rw [e]
    rw [hr0] at this
    simpa [dmax] using this
/-- If all minors by the first row are 0, the determinant is. -/
theorem dloop_null {D : List (List Int) → Int} {t : List (List Int)} : ∀ (xs : List Int) (j : Nat) (g : Int), (∀ k, j ≤ k → k < j + xs.length → D (minorT t 0 k) = 0) → dloop D t xs j 0 g = 0
  | [], _, _, _ => rfl
  | x :: xs, j, g, h => by
    unfold dloop
    rw [h j (Nat.le_refl _) (by simp), Int.mul_zero]
    have e : (if x = 0 then (0 : Int) else wrap64 (0 + wrap64 0)) = 0 := by split <;> simp [wrap64]
    rw [e]
    exact dloop_null xs (j + 1) (-g) (fun k h1 h2 => h k (by omega) (by simp; omega))
end Go.Proofs.Ytmkodbkbgpjgoaa

namespace Go.Proofs.Ytmkodbkbgpjgoaa
open Go.RowKit
set_option linter.all false
def bitOf (m i : Nat) : Bool := m / 2 ^ i % 2 == 1
def setTo (m : Nat) : Nat → List Int
  | 0 => []
  | i + 1 => setTo m i ++ (if bitOf m i then [(i : Int)] else [])
def setsTo (n k : Nat) : Nat → List (List Int)
  | 0 => []
  | m + 1 => setsTo n k m ++ (if (setTo m n).length = k then [setTo m n] else [])
def sets (n k : Nat) : List (List Int) := setsTo n k (2 ^ n)
theorem setTo_len (m i : Nat) : (setTo m i).length ≤ i := by
  induction i with
  | zero => exact Nat.le_refl _
  | succ i ih => unfold setTo; split <;> simp <;> omega
theorem setsTo_len (n k m : Nat) : (setsTo n k m).length ≤ m := by
  induction m with
  | zero => exact Nat.le_refl _
  | succ i ih => unfold setsTo; split <;> simp <;> omega
theorem setTo_yes {m i : Nat} (h : bitOf m i = true) : setTo m (i + 1) = setTo m i ++ [(i : Int)] := by simp [setTo, h]
theorem setTo_no {m i : Nat} (h : bitOf m i = false) : setTo m (i + 1) = setTo m i := by simp [setTo, h]
theorem setsTo_yes {n k m : Nat} (h : (setTo m n).length = k) : setsTo n k (m + 1) = setsTo n k m ++ [setTo m n] := by simp [setsTo, h]
theorem setsTo_no {n k m : Nat} (h : (setTo m n).length ≠ k) : setsTo n k (m + 1) = setsTo n k m := by simp [setsTo, h]
theorem setTo_mem {m i : Nat} {x : Int} (h : x ∈ setTo m i) : 0 ≤ x ∧ x < i := by
  induction i with
  | zero => simp [setTo] at h
  | succ i ih =>
    unfold setTo at h
    rw [List.mem_append] at h
    rcases h with h | h
    · have := ih h; omega
    · split at h
      · simp at h; omega
      · simp at h
theorem setsTo_mem {n k m : Nat} {s : List Int} (h : s ∈ setsTo n k m) : s.length = k ∧ ∀ x ∈ s, 0 ≤ x ∧ x < n := by
  induction m with
  | zero => simp [setsTo] at h
  | succ i ih =>
    unfold setsTo at h
    rw [List.mem_append] at h
    rcases h with h | h
    · exact ih h
    · split at h
      · rename_i e
        simp at h
        subst h
        exact ⟨e, fun x hx => setTo_mem hx⟩
      · simp at h
theorem bits_all : ∀ m : Fin 16, ∀ i : Fin 4, (bits BinOp.and IntKind.i64 ((m.val : Int) / 2 ^ i.val) 1 == 1) = bitOf m.val i.val := by decide
theorem bits_bit {m i : Nat} (hm : m < 16) (hi : i < 4) : (bits BinOp.and IntKind.i64 ((m : Int) / 2 ^ i) 1 == 1) = bitOf m i := bits_all ⟨m, hm⟩ ⟨i, hi⟩
end Go.Proofs.Ytmkodbkbgpjgoaa

namespace Go.Proofs.Ytmkodbkbgpjgoaa
open Go.RowKit
set_option linter.all false
def pickRow (r cs : List Int) : List Int := cs.map (fun c => r.getD c.toNat 0)
def someT (t : List (List Int)) (rs cs : List Int) : List (List Int) := rs.map (fun a => pickRow (t.getD a.toNat []) cs)
theorem pickRow_len (r cs : List Int) : (pickRow r cs).length = cs.length := by simp [pickRow]
theorem someT_len (t : List (List Int)) (rs cs : List Int) : (someT t rs cs).length = rs.length := by simp [someT]
theorem pickRow_get {r cs : List Int} {j c : Nat} {x : Int} (h : cs[j]? = some (c : Int)) (hx : r[c]? = some x) : (pickRow r cs)[j]? = some x := by
  simp [pickRow, h, List.getD, hx]
theorem someT_get {t : List (List Int)} {rs cs r : List Int} {i a : Nat} (h : rs[i]? = some (a : Int)) (hr : t[a]? = some r) : (someT t rs cs)[i]? = some (pickRow r cs) := by
  simp [someT, h, List.getD, hr]
theorem someT_rowsLen (t : List (List Int)) (rs cs : List Int) : RowsLen (someT t rs cs) cs.length := by
  intro k r hk
  simp only [someT, List.getElem?_map, Option.map_eq_some_iff] at hk
  obtain ⟨q, _, rfl⟩ := hk
  exact pickRow_len _ _
/-- All numbers of a list are indices below n. -/
def Idx (n : Nat) (xs : List Int) : Prop := ∀ x ∈ xs, 0 ≤ x ∧ x < n
theorem Idx.get {n k : Nat} {xs : List Int} {x : Int} (h : Idx n xs) (hk : xs[k]? = some x) : ∃ a : Nat, x = (a : Int) ∧ a < n := by
  have := h x (List.mem_of_getElem? hk)
  exact ⟨x.toNat, by omega, by omega⟩
end Go.Proofs.Ytmkodbkbgpjgoaa

namespace Go.Proofs.Ytmkodbkbgpjgoaa
open Go.RowKit
set_option linter.all false
def minTo (t : List (List Int)) (n k : Nat) : Nat → Int
  | 0 => 0
  | m + 1 => if (setTo m n).length = k then wrap64 (minTo t n k m + det k (someT t (setTo m n) (setTo m n))) else minTo t n k m
def sg (k : Nat) : Int := if k % 2 = 0 then 1 else -1
def pE (t : List (List Int)) (n k : Nat) : Int := wrap64 (sg k * minTo t n k (2 ^ n))
def polyL (t : List (List Int)) : List Int := (List.range (t.length + 1)).map (pE t t.length)
def cutN (p : List Int) : Nat → Nat
  | 0 => 0
  | n + 1 => if p.getD n 0 = 0 then cutN p n else n + 1
def cutZ (p : List Int) : List Int := p.take (cutN p p.length)
def turnedP (t : List (List Int)) : List Int := if isSmallM t then cutZ (polyL t) else []
def sameZ (a b : List (List Int)) : Bool := isSmallM a && (isSmallM b && eqL (turnedP a) (turnedP b))
theorem sg_next (k : Nat) : sg (k + 1) = -sg k := by unfold sg; split <;> split <;> omega
theorem sg_cases (k : Nat) : sg k = 1 ∨ sg k = -1 := by unfold sg; split <;> simp
theorem polyL_len (t : List (List Int)) : (polyL t).length = t.length + 1 := by simp [polyL]
theorem polyL_get {t : List (List Int)} {k : Nat} (h : k < t.length + 1) : (polyL t)[k]? = some (pE t t.length k) := by simp [polyL, h]
theorem cutN_le (p : List Int) (n : Nat) : cutN p n ≤ n := by
  induction n with
  | zero => exact Nat.le_refl _
  | succ n ih => unfold cutN; split <;> omega
theorem cutN_zero {p : List Int} {n : Nat} {x : Int} {R : Nat} (hx : p[n]? = some x) (h : cutN p (n + 1) = R) : (x = 0 → cutN p n = R) ∧ (x ≠ 0 → n + 1 = R) := by
  have e : p.getD n 0 = x := by simp [List.getD, hx]
  rw [cutN, e] at h
  constructor
  · intro h0; simpa [h0] using h
  · intro h0; simpa [h0] using h
theorem minTo_yes {t : List (List Int)} {n k m : Nat} (h : (setTo m n).length = k) : minTo t n k (m + 1) = wrap64 (minTo t n k m + det k (someT t (setTo m n) (setTo m n))) := by rw [minTo, if_pos h]
theorem minTo_no {t : List (List Int)} {n k m : Nat} (h : (setTo m n).length ≠ k) : minTo t n k (m + 1) = minTo t n k m := by rw [minTo, if_neg h]
def accS (t : List (List Int)) (k : Nat) (g : Int) (css : List (List Int)) (s : Int) : Int := css.foldl (fun s cs => wrap64 (s + wrap64 (g * det k (someT t cs cs)))) s
theorem accS_step {t : List (List Int)} {k i : Nat} {g s R : Int} {css : List (List Int)} {cs : List Int} (hc : css[i]? = some cs) (h : accS t k g (css.drop i) s = R) : accS t k g (css.drop (i + 1)) (wrap64 (s + wrap64 (g * det k (someT t cs cs)))) = R := by
  rw [drop_of_get hc] at h
  exact h
theorem accS_end {t : List (List Int)} {k i : Nat} {g s R : Int} {css : List (List Int)} (hi : css.length ≤ i) (h : accS t k g (css.drop i) s = R) : s = R := by
  rw [drop_all css i hi] at h
  exact h
theorem wr_pos (a z : Int) : wrap64 (wrap64 (1 * a) + wrap64 (1 * z)) = wrap64 (1 * wrap64 (a + z)) := by unfold wrap64; omega
theorem wr_neg (a z : Int) : wrap64 (wrap64 (-1 * a) + wrap64 (-1 * z)) = wrap64 (-1 * wrap64 (a + z)) := by unfold wrap64; omega
theorem accS_minTo {t : List (List Int)} {n k : Nat} {g : Int} (hg : g = 1 ∨ g = -1) : ∀ m, accS t k g (setsTo n k m) 0 = wrap64 (g * minTo t n k m)
  | 0 => by rcases hg with rfl | rfl <;> simp [accS, setsTo, minTo, wrap64]
  | m + 1 => by
    have ih := accS_minTo (t := t) (n := n) (k := k) hg m
    by_cases h : (setTo m n).length = k
    · rw [setsTo_yes h, minTo_yes h]
      unfold accS at ih ⊢
      rw [List.foldl_append, ih]
      simp only [List.foldl_cons, List.foldl_nil]
      rcases hg with rfl | rfl
      · exact wr_pos _ _
      · exact wr_neg _ _
    · rw [setsTo_no h, minTo_no h]; exact ih
theorem accS_pE {t : List (List Int)} {n k : Nat} : accS t k (sg k) (sets n k) 0 = pE t n k := accS_minTo (sg_cases k) _
/-- The numbers of the polynomial, the greatest power first, as far as power k. -/
def charL (t : List (List Int)) (n k : Nat) : List Int := (List.range (n + 1)).map fun j => if n - j < k then pE t n (n - j) else 0
theorem charL_len (t : List (List Int)) (n k : Nat) : (charL t n k).length = n + 1 := by simp [charL]
theorem charL_zero (t : List (List Int)) (n : Nat) : charL t n 0 = List.replicate (n + 1) 0 := by
  apply List.ext_getElem?
  intro i
  by_cases h : i < n + 1
  · simp [charL, h]
  · simp [charL, h]
theorem charL_get {t : List (List Int)} {n k : Nat} (h : k ≤ n) : (charL t n k)[n - k]? = some 0 := by
  have : n - (n - k) = k := by omega
  simp [charL, show n - k < n + 1 by omega, this]
theorem charL_set {t : List (List Int)} {n k : Nat} (h : k ≤ n) : (charL t n k).set (n - k) (pE t n k) = charL t n (k + 1) := by
  apply List.ext_getElem?
  intro i
  rw [List.getElem?_set]
  by_cases hi : n - k = i
  · subst hi
    have : n - (n - k) = k := by omega
    simp [charL, show n - k < n + 1 by omega, this]
  · rw [if_neg hi]
    by_cases hl : i < n + 1
    · have : (n - i < k) = (n - i < k + 1) := by apply propext; omega
      simp [charL, hl, this]
    · simp [charL, hl]
theorem charL_end {t : List (List Int)} {i : Nat} (h : i ≤ t.length) : (charL t t.length (t.length + 1))[t.length - i]? = (polyL t)[i]? := by
  have e : t.length - (t.length - i) = i := by omega
  rw [polyL_get (by omega)]
  simp [charL, show t.length - i < t.length + 1 by omega, e]
  omega
theorem set_idx (m n : Nat) : Idx n (setTo m n) := fun _ hx => setTo_mem hx
end Go.Proofs.Ytmkodbkbgpjgoaa

namespace Go.Proofs.Ytmkodbkbgpjgoaa
open Go.RowKit
set_option linter.all false
def RowsAt (w : World) (vs : List Value) (xss : List (List Int)) : Prop :=
  vs.length = xss.length ∧ ∀ (i : Nat) (u : Value) (r : List Int), vs[i]? = some u → xss[i]? = some r → ∃ ai ci, u = .slice ai r.length ci ∧ Ints w ai r.length r ∧ r.length ≤ ci
theorem RowsAt.nil (w : World) : RowsAt w [] [] := ⟨rfl, fun i u r h => by simp at h⟩
theorem RowsAt.push {w : World} {vs : List Value} {xss : List (List Int)} {r : List Int} {ai : Option Addr} {ci : Nat} (h : RowsAt w vs xss) (hr : Ints w ai r.length r) (hc : r.length ≤ ci) : RowsAt w (vs ++ [.slice ai r.length ci]) (xss ++ [r]) := by
  refine ⟨by simp [h.1], fun i u r' hu hx => ?_⟩
  by_cases hi : i < vs.length
  · rw [List.getElem?_append_left hi] at hu
    rw [List.getElem?_append_left (by rw [← h.1]; exact hi)] at hx
    exact h.2 i u r' hu hx
  · rw [List.getElem?_append_right (by omega)] at hu
    rw [List.getElem?_append_right (by rw [← h.1]; omega), ← h.1] at hx
    have hz : i - vs.length = 0 := by
      have := (List.getElem?_eq_some_iff.1 hu).1
      simp at this
      omega
    rw [hz] at hu hx
    simp at hu hx
    subst hu
    subst hx
    exact ⟨ai, ci, rfl, hr, hc⟩
theorem own_rows {w w' : World} {lo n : Nat} {v : Value} {vs : List Value} {xss : List (List Int)} (ho : w'.ownsRow lo 42 1 v n vs) (hn : n ≤ 1099511627776) (h : RowsAt w vs xss) (hb : Below w.heap.size w w') : ∃ ao cap, v = .slice ao n cap ∧ Intss w' ao n xss := by
  have hvl : vs.length = n := by simpa using ho.1
  rcases ho.2 with ⟨rfl, rfl⟩ | ⟨g, cap, cur, rfl, hg, hh, hnc, _, _, ht⟩
  · refine ⟨none, 0, rfl, by rw [← h.1]; exact hvl, by omega, fun i r hi => ?_⟩
    have := (List.getElem?_eq_some_iff.1 hi).1
    rw [← h.1] at this
    omega
  · refine ⟨some ⟨g, 0, none⟩, cap, rfl, by rw [← h.1]; exact hvl, hn, fun i r hi => ?_⟩
    have hil : i < vs.length := by rw [h.1]; exact (List.getElem?_eq_some_iff.1 hi).1
    have hv : vs[i]? = some vs[i] := List.getElem?_eq_getElem hil
    obtain ⟨ai, ci, e, hr, hc⟩ := h.2 i _ r hv hi
    have hcl := ho.cells (g := g) rfl i _ hv
    rw [Addr.add_lit, e] at hcl
    exact ⟨g, 0, ai, ci, rfl, hcl, hr.keep hb, hc⟩
theorem wpList_push_val {ops : Array Oper} {rest : List Oper} {o : Oper} {a : Act} {Q : Exit → Act → World → Prop} (W : World) (u : Value) (hgd : o.guard = none) (s x : Operand)
    (ho : o.op = .call { callee := .builtin .append, args := #[s, x], argTypes := #[92, 92] })
    (lo : Nat) (v : Value) (n : Nat) (vs : List Value) (hs : a.eval s = v) (h : W.ownsRow lo 42 1 v n vs) (hn : n + 1 ≤ 1099511627776) (hlo : lo ≤ W.heap.size) (hone : u.oneCell' = true)
    (tb : Nat) (htb : tb = W.heap.size) (hx : a.eval x = .slice (some ⟨tb, 0, none⟩) 1 1)
    (K : ∀ v' w', w'.ownsRow lo 42 1 v' (n + 1) (vs ++ [u]) → Below lo W w' → wpList Try.prog ops Q rest (a.put o.dst v') w') : wpList Try.prog ops Q (o :: rest) a (W.alloc (.cells #[u] 42)) := by
  subst htb
  obtain ⟨i0, hi, hz0, hz1, hz2⟩ := info_parts info_ints
  refine wpList_append_own _ hgd s x 92 ho lo 42 i0 (.slice none 0 0) 1 24 Try.underlying92 hi hz0 hz1 hz2 rfl (by decide) v n vs hs (h.alloc _) ⟨W.heap.size, 0, none⟩ 1 1 [u] hx rfl ?_ ?_ ?_ ?_ (by simp; omega) ?_
  · intro j u' hj
    match j, hj with
    | 0, hj =>
      simp at hj
      subst hj
      exact World.cell?_alloc_new _ _ _ _
  · intro u' hu'
    simp at hu'
    subst hu'
    exact hone
  · unfold maxLen; omega
  · omega
  · intro v' w' hown hgrow _
    exact K v' w' hown (((Below.refl lo W).alloc hlo _).grown hgrow (by simp; omega) (fun k hk => (h.lt k hk).1))
theorem elem_intss : Try.prog.elem 92 = 42 := by kernel_rfl
theorem sizeOf_ints (w : World) : (sizeOf 42).run Try.prog w = .ok 1 w := by
  obtain ⟨i, hi, _, hz, _⟩ := info_parts info_ints
  simp [sizeOf, typeInfo, hi, hz]
theorem slice_to2 (a : Option Addr) (len cap j : Nat) (hj : j ≤ cap) (w : World) :
    (Instr.slice 92 (.slice a len cap) none (some (.int .i64 (j : Int))) none).run Try.prog w = .ok (.slice a j cap) w := by
  rw [run_slice_h (P := Try.prog) w 92 a len cap (by rw [elem_intss]; exact Try.underlying92) .i64 (j : Int) (by omega) (by omega), elem_intss, sizeOf_ints]
  cases a <;> simp [sliced, Result.andThen, Addr.add]
theorem Intss.capLe {w : World} {lo n : Nat} {v : Value} {xss : List (List Int)} {ao : Option Addr} {m cap : Nat} (h : OIntss w lo v n xss) (e : v = .slice ao m cap) : n ≤ cap := by
  obtain ⟨_, _, vs, ho, _⟩ := h
  rcases ho.2 with ⟨rfl, rfl⟩ | ⟨g, c, cur, rfl, _, _, hnc, _⟩
  · exact Nat.zero_le _
  · injection e with _ _ e3
    omega
end Go.Proofs.Ytmkodbkbgpjgoaa

namespace Go.Proofs.Ytmkodbkbgpjgoaa
open Go.RowKit
set_option linter.all false
def bit (b : Bool) : Int := if b then 1 else 0
theorem l1Bit_any (b : Bool) (w : World) : Calls Try.prog 29 #[.bool b] w fun e w' => e = .returned (.int .i64 (bit b)) ∧ w = w' := by
  cases b
  · go_enter Try.func29, Try.ntmps29
    go_wp2_with fail
    go_ret
    exact ⟨rfl, rfl⟩
  · go_enter Try.func29, Try.ntmps29
    go_wp2_with fail
    go_ret
    exact ⟨rfl, rfl⟩
end Go.Proofs.Ytmkodbkbgpjgoaa

namespace Go.Proofs.Ytmkodbkbgpjgoaa
open Go.RowKit
set_option linter.all false
def arcB (s l : Int) (x : Ar) : Bool := inR x.1 0 s && (inR x.2.1 0 s && inR x.2.2 0 l)
def ltA (x y : Ar) : Bool := if x.1 ≠ y.1 then decide (x.1 < y.1) else if x.2.2 ≠ y.2.2 then decide (x.2.2 < y.2.2) else decide (x.2.1 < y.2.1)
def behind (x : Ar) : Option Ar → Bool
  | none => true
  | some q => ltA q x
def okFrom (s l : Int) : Option Ar → List Ar → Bool
  | _, [] => true
  | p, x :: r => (arcB s l x && behind x p) && okFrom s l (some x) r
def isLab (L S : Int) (xs : List Ar) : Bool := inR L 1 3 && (inR S 1 12 && okFrom (S - 1) (L - 1) none xs)
def prevOf (xs : List Ar) (k : Nat) : Option Ar := if k = 0 then none else xs[k - 1]?
theorem prevOf_succ {xs : List Ar} {k : Nat} {x : Ar} (h : xs[k]? = some x) : prevOf xs (k + 1) = some x := by
  simp [prevOf, h]
theorem prevOf_pos {xs : List Ar} {k : Nat} (h : 0 < k) : prevOf xs k = xs[k - 1]? := by
  rw [prevOf, if_neg (by omega)]
theorem okFrom_step {s l : Int} {xs : List Ar} {k : Nat} {x : Ar} {b : Bool} (hx : xs[k]? = some x) (h : okFrom s l (prevOf xs k) (xs.drop k) = b) :
    (arcB s l x = false → b = false) ∧ (behind x (prevOf xs k) = false → b = false) ∧ (arcB s l x = true → behind x (prevOf xs k) = true → okFrom s l (prevOf xs (k + 1)) (xs.drop (k + 1)) = b) := by
  rw [drop_of_get hx] at h
  rw [prevOf_succ hx]
  generalize List.drop (k + 1) xs = r at *
  refine ⟨fun e => ?_, fun e => ?_, fun e1 e2 => ?_⟩
  · simpa [okFrom, e] using h.symm
  · simpa [okFrom, e] using h.symm
  · simpa [okFrom, e1, e2] using h
theorem okFrom_end {s l : Int} {xs : List Ar} {k : Nat} {b : Bool} (hk : xs.length ≤ k) (h : okFrom s l (prevOf xs k) (xs.drop k) = b) : b = true := by
  rw [drop_all xs k hk] at h
  exact h.symm
theorem isLab_eq {L S : Int} {xs : List Ar} : (okFrom (wrap64 (S - 1)) (wrap64 (L - 1)) none xs && (inR L 1 3 && inR S 1 12)) = isLab L S xs := by
  cases h1 : inR L 1 3
  · simp [isLab, h1]
  cases h2 : inR S 1 12
  · simp [isLab, h2]
  have a := inR_true h1
  have b := inR_true h2
  rw [wrap_id (by omega), wrap_id (by omega)]
  simp [isLab, h1, h2]
theorem arcB_1 {s l x y z : Int} (h : inR x 0 s = false) : arcB s l (x, y, z) = false := by simp [arcB, h]
theorem arcB_2 {s l x y z : Int} (h : inR y 0 s = false) : arcB s l (x, y, z) = false := by simp [arcB, h]
theorem arcB_3 {s l x y z : Int} (h : inR z 0 l = false) : arcB s l (x, y, z) = false := by simp [arcB, h]
theorem arcB_t {s l x y z : Int} (h1 : inR x 0 s = true) (h2 : inR y 0 s = true) (h3 : inR z 0 l = true) : arcB s l (x, y, z) = true := by simp [arcB, h1, h2, h3]
theorem arcB_get {s l x y z : Int} (h : arcB s l (x, y, z) = true) : (0 ≤ x ∧ x ≤ s) ∧ (0 ≤ y ∧ y ≤ s) ∧ (0 ≤ z ∧ z ≤ l) := by
  simp only [arcB, Bool.and_eq_true] at h
  exact ⟨inR_true h.1, inR_true h.2.1, inR_true h.2.2⟩
theorem okFrom_all {s l : Int} : ∀ {xs : List Ar} {p : Option Ar}, okFrom s l p xs = true → ∀ x ∈ xs, arcB s l x = true
  | [], _, _, _, h => by simp at h
  | y :: r, p, h, x, hx => by
    simp only [okFrom, Bool.and_eq_true] at h
    rcases List.mem_cons.1 hx with rfl | hx
    · exact h.1.1
    · exact okFrom_all h.2 x hx
theorem isLab_get {L S : Int} {xs : List Ar} (h : isLab L S xs = true) : (1 ≤ L ∧ L ≤ 3) ∧ (1 ≤ S ∧ S ≤ 12) ∧ okFrom (S - 1) (L - 1) none xs = true := by
  simp only [isLab, Bool.and_eq_true] at h
  exact ⟨inR_true h.1, inR_true h.2.1, h.2.2⟩
theorem ltA_1 {x y : Ar} (h : x.1 ≠ y.1) : ltA x y = decide (x.1 < y.1) := by rw [ltA, if_pos h]
theorem ltA_2 {x y : Ar} (h : x.1 = y.1) (h2 : x.2.2 ≠ y.2.2) : ltA x y = decide (x.2.2 < y.2.2) := by rw [ltA, if_neg (by simp [h]), if_pos h2]
theorem ltA_3 {x y : Ar} (h : x.1 = y.1) (h2 : x.2.2 = y.2.2) : ltA x y = decide (x.2.1 < y.2.1) := by rw [ltA, if_neg (by simp [h]), if_neg (by simp [h2])]
theorem wrapI (n : Int) : IntKind.i64.wrap n = wrap64 n := by rw [IntKind.wrap_i64]; unfold wrap64; rfl
theorem behind_0 (xs : List Ar) (x : Ar) : behind x (prevOf xs 0) = true := rfl
theorem behind_S {xs : List Ar} {j : Nat} {q x : Ar} (h : xs[j]? = some q) : behind x (prevOf xs (j + 1)) = ltA q x := by rw [prevOf_succ h]; rfl
end Go.Proofs.Ytmkodbkbgpjgoaa

namespace Go.Proofs.Ytmkodbkbgpjgoaa
open Go.RowKit
set_option linter.all false
def ixFrom (p : Int) : Nat → List Ar → List Int
  | _, [] => []
  | k, x :: r => if x.1 = p then (k : Int) :: ixFrom p (k + 1) r else ixFrom p (k + 1) r
def fromL (p : Int) : List Ar → List Ar
  | [] => []
  | x :: r => if x.1 = p then x :: fromL p r else fromL p r
theorem ix_len (p : Int) : ∀ (xs : List Ar) (k : Nat), (ixFrom p k xs).length = (fromL p xs).length
  | [], _ => rfl
  | x :: r, k => by
    by_cases h : x.1 = p <;> simp [ixFrom, fromL, h, ix_len p r (k + 1)]
theorem fromL_le (p : Int) : ∀ (xs : List Ar), (fromL p xs).length ≤ xs.length
  | [] => Nat.le_refl _
  | x :: r => by
    have := fromL_le p r
    by_cases h : x.1 = p <;> simp [fromL, h] <;> omega
theorem ix_step {p : Int} {xs : List Ar} {k : Nat} {x : Ar} {acc R : List Int} (hx : xs[k]? = some x) (h : acc ++ ixFrom p k (xs.drop k) = R) :
    (x.1 = p → (acc ++ [(k : Int)]) ++ ixFrom p (k + 1) (xs.drop (k + 1)) = R) ∧ (x.1 ≠ p → acc ++ ixFrom p (k + 1) (xs.drop (k + 1)) = R) := by
  rw [drop_of_get hx] at h
  generalize List.drop (k + 1) xs = r at *
  constructor
  · intro e; simpa [ixFrom, e] using h
  · intro e; simpa [ixFrom, e] using h
theorem ix_end {p : Int} {xs : List Ar} {k : Nat} {acc R : List Int} (hk : xs.length ≤ k) (h : acc ++ ixFrom p k (xs.drop k) = R) : acc = R := by
  rw [drop_all xs k hk] at h
  simpa [ixFrom] using h
theorem fr_step {p : Int} {xs : List Ar} {k : Nat} {x : Ar} {acc R : List Ar} (hx : xs[k]? = some x) (h : acc ++ fromL p (xs.drop k) = R) :
    (x.1 = p → (acc ++ [x]) ++ fromL p (xs.drop (k + 1)) = R) ∧ (x.1 ≠ p → acc ++ fromL p (xs.drop (k + 1)) = R) := by
  rw [drop_of_get hx] at h
  generalize List.drop (k + 1) xs = r at *
  constructor
  · intro e; simpa [fromL, e] using h
  · intro e; simpa [fromL, e] using h
theorem fr_end {p : Int} {xs : List Ar} {k : Nat} {acc R : List Ar} (hk : xs.length ≤ k) (h : acc ++ fromL p (xs.drop k) = R) : acc = R := by
  rw [drop_all xs k hk] at h
  simpa [fromL] using h
/-- The index that stands at a place names the arc that stands there. -/
theorem ix_get (p : Int) : ∀ (xs : List Ar) (k i : Nat) (a : Ar), (fromL p xs)[i]? = some a → ∃ t : Nat, (ixFrom p k xs)[i]? = some ((k + t : Nat) : Int) ∧ xs[t]? = some a
  | [], _, _, _, h => by simp [fromL] at h
  | x :: r, k, i, a, h => by
    by_cases hx : x.1 = p
    · rw [fromL, if_pos hx] at h
      rw [ixFrom, if_pos hx]
      match i, h with
      | 0, h => simp at h; subst h; exact ⟨0, by simp, rfl⟩
      | i + 1, h =>
        obtain ⟨t, h1, h2⟩ := ix_get p r (k + 1) i a (by simpa using h)
        exact ⟨t + 1, by simpa [Nat.add_assoc, Nat.add_comm 1] using h1, by simpa using h2⟩
    · rw [fromL, if_neg hx] at h
      rw [ixFrom, if_neg hx]
      obtain ⟨t, h1, h2⟩ := ix_get p r (k + 1) i a h
      exact ⟨t + 1, by simpa [Nat.add_assoc, Nat.add_comm 1] using h1, by simpa using h2⟩
def differ (x : Ar) : Option Ar → Bool
  | none => true
  | some q => !(decide (q.1 = x.1) && decide (q.2.2 = x.2.2))
def resF : Option Ar → List Ar → Bool
  | _, [] => true
  | p, x :: r => differ x p && resF (some x) r
theorem res_step {xs : List Ar} {k : Nat} {x : Ar} {b : Bool} (hx : xs[k]? = some x) (h : resF (prevOf xs k) (xs.drop k) = b) :
    (differ x (prevOf xs k) = false → b = false) ∧ (differ x (prevOf xs k) = true → resF (prevOf xs (k + 1)) (xs.drop (k + 1)) = b) := by
  rw [drop_of_get hx] at h
  rw [prevOf_succ hx]
  generalize List.drop (k + 1) xs = r at *
  refine ⟨fun e => ?_, fun e => ?_⟩
  · simpa [resF, e] using h.symm
  · simpa [resF, e] using h
theorem res_end {xs : List Ar} {k : Nat} {b : Bool} (hk : xs.length ≤ k) (h : resF (prevOf xs k) (xs.drop k) = b) : b = true := by
  rw [drop_all xs k hk] at h
  exact h.symm
theorem res_one (xs : List Ar) : resF (prevOf xs 1) (xs.drop 1) = resF none xs := by
  cases xs with
  | nil => rfl
  | cons x r => simp [resF, prevOf, differ]
theorem differ_0 (xs : List Ar) (x : Ar) : differ x (prevOf xs 0) = true := rfl
theorem differ_S {xs : List Ar} {j : Nat} {q x : Ar} (h : xs[j]? = some q) : differ x (prevOf xs (j + 1)) = !(decide (q.1 = x.1) && decide (q.2.2 = x.2.2)) := by rw [prevOf_succ h]; rfl
def sumsL (S : Nat) (xs : List Ar) : List Int := (List.range S).map fun p => ((fromL (p : Nat) xs).length : Int)
theorem sumsL_len (S : Nat) (xs : List Ar) : (sumsL S xs).length = S := by simp [sumsL]
theorem sumsL_get {S p : Nat} {xs : List Ar} (h : p < S) : (sumsL S xs)[p]? = some ((fromL (p : Nat) xs).length : Int) := by simp [sumsL, h]
def stSums (L S : Int) (xs : List Ar) : List Int := if isLab L S xs then sumsL S.toNat xs else []
def isRes (L S : Int) (xs : List Ar) : Bool := isLab L S xs && resF none xs
def manyF (xs : List Ar) : Nat → Nat → Bool
  | _, 0 => true
  | p, m + 1 => decide (2 ≤ (fromL (p : Nat) xs).length) && manyF xs (p + 1) m
def isEnc (L S : Int) (xs : List Ar) : Bool := isRes L S xs && manyF xs 0 S.toNat
theorem many_step {xs : List Ar} {p m : Nat} {b : Bool} (h : manyF xs p (m + 1) = b) : (¬ 2 ≤ (fromL (p : Nat) xs).length → b = false) ∧ (2 ≤ (fromL (p : Nat) xs).length → manyF xs (p + 1) m = b) := by
  constructor
  · intro e; simpa [manyF, e] using h.symm
  · intro e; simpa [manyF, e] using h
theorem many_get {xs : List Ar} : ∀ {m p q : Nat}, manyF xs p m = true → p ≤ q → q < p + m → 2 ≤ (fromL (q : Nat) xs).length
  | 0, p, q, _, h1, h2 => by omega
  | m + 1, p, q, h, h1, h2 => by
    simp only [manyF, Bool.and_eq_true, decide_eq_true_eq] at h
    by_cases e : p = q
    · subst e; exact h.1
    · exact many_get h.2 (by omega) (by omega)
theorem isEnc_get {L S : Int} {xs : List Ar} (h : isEnc L S xs = true) : isLab L S xs = true ∧ resF none xs = true ∧ ∀ q : Nat, (q : Int) < S → 2 ≤ (fromL (q : Nat) xs).length := by
  simp only [isEnc, isRes, Bool.and_eq_true] at h
  exact ⟨h.1.1, h.1.2, fun q hq => many_get h.2 (Nat.zero_le _) (by omega)⟩
end Go.Proofs.Ytmkodbkbgpjgoaa
