/- Parts of the proof of a law, joined: Base LawKit LawHelp DoorWrap TxtT STexts WordT SSplB SFormat SRead1 ParseD RowAt SIsMatrix SParse. -/
import Derived.WalkKit
import Derived.WalkSpells
import Derived.WalkLawsBesides
import Derived.BigQuiet
import Derived.Deep.QuietTactic
import Derived.Deep.Draws
import Derived.Deep.OwnRows
import Derived.Deep.DeepCutAuto
import Derived.Deep.RegionHeld3
import Derived.Lib.Hide
import Derived.Test.YtdmpokanfnlbgaaGreatDoorProg
import Derived.Deep.RegionLaw
import Derived.Maps.AppendAt
import Derived.Test.YtdmpokanfnlbgaaGreatDoorRows
import Derived.ProofKit
import Derived.OpenShut
import Derived.ShutString
import Derived.ChangeOld
import Derived.Deep.Matrix
import Derived.Handed
import Derived.Stop.Joined
import Derived.JoinedCond
import Derived.Lay
import Derived.LaidMore
import Derived.LaidOnce
import Derived.LaidLaws
import Derived.SevenTiedAt
import Derived.Lib.ItoaLen
import Derived.Laws.BytesString
import Derived.Laws.Cells
import Derived.Lib.AppendStr
import Derived.Lib.Join
namespace Go.Proofs.YtdmpokanfnlbgaaGreatDoor
open Go.RowKit
set_option linter.all false

/-- The slice value '.slice ao n cap' reads in w as the list xs. -/
def Ints (w : World) (ao : Option Addr) (n : Nat) (xs : List Int) : Prop :=
  xs.length = n ∧ n ≤ 1099511627776 ∧ ∀ i, i < xs.length → ∃ b o, ao = some ⟨b, o, none⟩ ∧ w.cell? ⟨b, o + i, none⟩ = some (.int .i64 (xs.getD i 0))

theorem Ints.keep {w w' : World} {ao : Option Addr} {n : Nat} {xs : List Int} (h : Ints w ao n xs) (hb : Below w.heap.size w w') : Ints w' ao n xs := by
  refine ⟨h.1, h.2.1, fun i hi => ?_⟩
  obtain ⟨b, o, e, hc⟩ := h.2.2 i hi
  exact ⟨b, o, e, (hb.cell (p := ⟨b, o + i, none⟩) (World.block_lt_of_cell? w _ hc)).trans hc⟩

theorem Ints.drewN {w : World} {ao : Option Addr} {n : Nat} {xs : List Int} (h : Ints w ao n xs) (k : Nat) : Ints (w.drewN k) ao n xs := h

theorem drop_all {α : Type} (xs : List α) (k : Nat) (h : xs.length ≤ k) : xs.drop k = [] := List.drop_eq_nil_of_le h

theorem below_drewN {B : Nat} {a w : World} (h : Below B a w) (n : Nat) : Below B a (w.drewN n) := ⟨h.os, h.tape, h.output, h.size, h.block⟩

/-- Only the tape has moved on. -/
def Drew (w w' : World) : Prop := ∃ m, w' = w.drewN m
theorem Drew.refl (w : World) : Drew w w := ⟨0, rfl⟩
theorem Drew.below {w w' : World} (h : Drew w w') (B : Nat) : Below B w w' := by
  obtain ⟨m, rfl⟩ := h
  exact below_drewN (Below.refl B w) m

/-- Two lists are one. -/
def eqL {α : Type} [DecidableEq α] (xs ys : List α) : Bool := decide (xs = ys)
theorem eqL_self {α : Type} [DecidableEq α] (xs : List α) : eqL xs xs = true := by simp [eqL]
theorem eqL_true {α : Type} [DecidableEq α] {xs ys : List α} (h : xs = ys) : eqL xs ys = true := by simp [eqL, h]
theorem eqL_false {α : Type} [DecidableEq α] {xs ys : List α} (h : xs ≠ ys) : eqL xs ys = false := by simp [eqL, h]
theorem eqL_len {α : Type} [DecidableEq α] {xs ys : List α} (h : xs.length ≠ ys.length) : eqL xs ys = false := eqL_false (by rintro rfl; exact h rfl)
theorem eqL_nil {α : Type} [DecidableEq α] {xs ys : List α} {k : Nat} (hx : xs.length ≤ k) (hy : ys.length ≤ k) : eqL (xs.drop k) (ys.drop k) = true := by
  rw [List.drop_eq_nil_of_le hx, List.drop_eq_nil_of_le hy]; simp [eqL]
theorem eqL_step {α : Type} [DecidableEq α] {xs ys : List α} {k : Nat} (hx : k < xs.length) (hy : k < ys.length) {b : Bool} (h : eqL (xs.drop k) (ys.drop k) = b) :
    (xs[k] = ys[k] → eqL (xs.drop (k + 1)) (ys.drop (k + 1)) = b) ∧ (xs[k] ≠ ys[k] → b = false) := by
  rw [List.drop_eq_getElem_cons hx, List.drop_eq_getElem_cons hy] at h
  simp only [eqL] at h ⊢
  subst h
  generalize List.drop (k + 1) xs = p
  generalize List.drop (k + 1) ys = q
  constructor
  · intro e; rw [e]; simp
  · intro e; simp [e]

theorem ret_int {k : IntKind} {a b : Int} (h : a = b) : Ending.returned (.int k a) = .returned (.int k b) := by rw [h]
theorem ret_bool {a b : Bool} (h : a = b) : Ending.returned (.bool a) = .returned (.bool b) := by rw [h]
theorem Drew.mk (w : World) (m : Nat) : Drew w (w.drewN m) := ⟨m, rfl⟩
theorem Drew.drewN {w w' : World} (h : Drew w w') (n : Nat) : Drew w (w'.drewN n) := by
  obtain ⟨m, rfl⟩ := h
  exact ⟨m + n, by simp⟩
theorem Drew.drew {w w' : World} (h : Drew w w') : Drew w w'.drew := h.drewN 1
theorem Drew.trans {a b c : World} (h : Drew a b) (k : Drew b c) : Drew a c := by
  obtain ⟨m, rfl⟩ := k
  exact h.drewN m

theorem info_int : (Tryz.prog.info? 3).map (fun i => (i.zero, i.size, i.bytes)) = some (some (.int .i64 0), 1, 8) := by kernel_rfl

/-- The slice value v is the call's own (its block lies from lo on), and holds just the list xs. -/
def OInts (w : World) (lo : Nat) (v : Value) (n : Nat) (xs : List Int) : Prop :=
  n ≤ 1099511627776 ∧ w.ownsRow lo 3 1 v n (xs.map (Value.int .i64))

theorem own_keep {w w' : World} {lo e size n : Nat} {v : Value} {xs : List Value} (h : w.ownsRow lo e size v n xs) (hb : Below w.heap.size w w') : w'.ownsRow lo e size v n xs := by
  refine ⟨h.1, ?_⟩
  rcases h.2 with h2 | ⟨g, cap, cur, hv, hg, hh, r⟩
  · exact .inl h2
  · refine .inr ⟨g, cap, cur, hv, hg, ?_, r⟩
    rw [hb.block g (Array.getElem?_eq_some_iff.1 hh).1]; exact hh

section
variable {w w' : World} {lo n : Nat} {v : Value} {xs : List Int}
theorem OInts.len (h : OInts w lo v n xs) : xs.length = n := by simpa using h.2.1
theorem OInts.keep (h : OInts w lo v n xs) (hb : Below w.heap.size w w') : OInts w' lo v n xs := ⟨h.1, own_keep h.2 hb⟩
theorem OInts.grown {row : Option Nat} (h : OInts w lo v n xs) (hg : w.grownBy w' row) (hne : v.ownBlock = none ∨ v.ownBlock ≠ row) : OInts w' lo v n xs := ⟨h.1, h.2.kept hg hne⟩
theorem OInts.alloc (h : OInts w lo v n xs) (o : Obj) : OInts (w.alloc o) lo v n xs := ⟨h.1, h.2.alloc o⟩
theorem OInts.drewN (h : OInts w lo v n xs) (k : Nat) : OInts (w.drewN k) lo v n xs := h
theorem OInts.mono {lo' : Nat} (h : OInts w lo v n xs) (hl : lo' ≤ lo) : OInts w lo' v n xs := by
  refine ⟨h.1, h.2.1, ?_⟩
  rcases h.2.2 with h2 | ⟨g, cap, cur, hv, hg, r⟩
  · exact .inl h2
  · exact .inr ⟨g, cap, cur, hv, Nat.le_trans hl hg, r⟩
/-- nil, or a slice at the head of a block. -/
theorem OInts.form (h : OInts w lo v n xs) : ∃ ao cap, v = .slice ao n cap ∧ Ints w ao n xs := by
  have hl := h.len
  rcases h.2.2 with ⟨rfl, rfl⟩ | ⟨g, cap, cur, rfl, hg, hh, hnc, _, _, ht⟩
  · exact ⟨none, 0, rfl, hl, h.1, fun i hi => by omega⟩
  · refine ⟨some ⟨g, 0, none⟩, cap, rfl, hl, h.1, fun i hi => ⟨g, 0, rfl, ?_⟩⟩
    have hc := h.2.cells (g := g) rfl i (.int .i64 (xs.getD i 0)) (by simp [List.getD, hi])
    rw [Addr.add_lit] at hc
    simpa using hc
end

section
variable {w w' : World} {lo g n cap : Nat} {xs : List Int}
theorem OInts.ints (h : OInts w lo (.slice (some ⟨g, 0, none⟩) n cap) n xs) : Ints w (some ⟨g, 0, none⟩) n xs := by
  obtain ⟨ao, c, e, hi⟩ := h.form
  injection e with e1 e2 e3
  subst e1
  exact hi
theorem OInts.lt (h : OInts w lo (.slice (some ⟨g, 0, none⟩) n cap) n xs) : lo ≤ g ∧ g < w.heap.size := h.2.lt g rfl
theorem OInts.cell (h : OInts w lo (.slice (some ⟨g, 0, none⟩) n cap) n xs) (k : Nat) (hk : k < n) : w.cell? ⟨g, k, none⟩ = some (.int .i64 (xs.getD k 0)) := by
  have hl := h.len
  obtain ⟨b, o, e, hc⟩ := h.ints.2.2 k (by omega)
  injection e with e
  injection e with e1 e2
  subst e1
  subst e2
  simpa using hc
theorem OInts.frozen (h : OInts w lo (.slice (some ⟨g, 0, none⟩) n cap) n xs) (k : Nat) : w.frozen? ⟨g, k, none⟩ = false := h.2.frozenAt k
theorem OInts.set (h : OInts w lo (.slice (some ⟨g, 0, none⟩) n cap) n xs) (k : Nat) (x : Int) : OInts (w.setCell ⟨g, k, none⟩ (.int .i64 x)) lo (.slice (some ⟨g, 0, none⟩) n cap) n (xs.set k x) := by
  refine ⟨h.1, ?_⟩
  rw [List.map_set]
  exact (h.2.stored k _).1
end

/-- What 'make([]int, n)' leaves. -/
theorem OInts.made (w : World) (n : Nat) (hn : n ≤ 1099511627776) : OInts (w.alloc (.cells (madeCells #[.int .i64 0] n) 3)) w.heap.size (.slice (some ⟨w.heap.size, 0, none⟩) n n) n (List.replicate n 0) := by
  refine ⟨hn, ?_⟩
  have h := World.ownsRow_lit (base := w.heap.size) (e := 3) (size := 1) w (madeCells #[.int .i64 0] n) n (Nat.le_refl _) (by unfold maxLen; omega) (by simp [madeCells])
  rw [toList_madeCells_one] at h
  simpa using h

theorem make_ints (n : Nat) (hn : n ≤ 1099511627776) (w : World) :
    (Instr.makeSlice 49 (.int .i64 (n : Int)) (.int .i64 (n : Int))).run Tryz.prog w = .ok (.slice (some ⟨w.heap.size, 0, none⟩) n n) (w.alloc (.cells (madeCells #[.int .i64 0] n) 3)) :=
  run_make_row' (P := Tryz.prog) 49 3 (.int .i64 0) 8 Tryz.underlying49 info_int rfl .i64 .i64 n (by omega) (by omega) w

theorem drop_of_get {α : Type} {xs : List α} {k : Nat} {x : α} (h : xs[k]? = some x) : xs.drop k = x :: xs.drop (k + 1) := by
  obtain ⟨hk, rfl⟩ := List.getElem?_eq_some_iff.1 h
  exact List.drop_eq_getElem_cons hk

theorem Ints.at_ {w : World} {ao : Option Addr} {n k : Nat} {xs : List Int} (h : Ints w ao n xs) (hk : k < n) :
    ∃ b o x, ao = some ⟨b, o, none⟩ ∧ w.cell? ⟨b, o + k, none⟩ = some (.int .i64 x) ∧ Hid (xs[k]? = some x) := by
  have hl : k < xs.length := by rw [h.1]; exact hk
  obtain ⟨b, o, e, hc⟩ := h.2.2 k hl
  exact ⟨b, o, xs.getD k 0, e, hc, by show xs[k]? = some _; simp [List.getD, hl]⟩

section
variable {P : Program} {f : FuncId} {args : Array Value} {w : World} {a n : Nat} {v : Value}
theorem quiet_D (h : Calls P f args (w.drewN n) fun e w' => e = .returned v ∧ Drew (w.drewN n) w') : Calls P f args (w.drewN n) fun e w'' => e = .returned v ∧ ∃ m, w'' = w.drewN m :=
  h.mono fun _ _ ⟨he, m, hm⟩ => ⟨he, n + m, by rw [hm, World.drewN_drewN]⟩
theorem quiet_Da (h : Calls P f args (w.drewN (a + n)) fun e w' => e = .returned v ∧ Drew (w.drewN (a + n)) w') : Calls P f args (w.drewN (a + n)) fun e w'' => e = .returned v ∧ ∃ m, w'' = w.drewN (a + m) :=
  h.mono fun _ _ ⟨he, m, hm⟩ => ⟨he, n + m, by rw [hm, World.drewN_drewN, Nat.add_assoc]⟩
theorem quiet_L (h : Calls P f args (w.drewN n) fun e w' => e = .returned v ∧ w.drewN n = w') : Calls P f args (w.drewN n) fun e w'' => e = .returned v ∧ ∃ m, w'' = w.drewN m :=
  h.mono fun _ _ ⟨he, hm⟩ => ⟨he, n, hm.symm⟩
theorem quiet_La (h : Calls P f args (w.drewN (a + n)) fun e w' => e = .returned v ∧ w.drewN (a + n) = w') : Calls P f args (w.drewN (a + n)) fun e w'' => e = .returned v ∧ ∃ m, w'' = w.drewN (a + m) :=
  h.mono fun _ _ ⟨he, hm⟩ => ⟨he, n, hm.symm⟩
end

theorem step2 {a b c : World} (h : Below a.heap.size a b) (k : Below b.heap.size b c) : Below a.heap.size a c := h.trans (k.mono h.size)
section
variable {P : Program} {f : FuncId} {args : Array Value} {w : World} {v : Value}
theorem ofL (h : Calls P f args w fun e w' => e = .returned v ∧ w = w') : Calls P f args w fun e w' => e = .returned v ∧ Below w.heap.size w w' :=
  h.mono fun _ _ ⟨he, hw⟩ => ⟨he, by subst hw; exact Below.refl _ _⟩
theorem ofD (h : Calls P f args w fun e w' => e = .returned v ∧ Drew w w') : Calls P f args w fun e w' => e = .returned v ∧ Below w.heap.size w w' :=
  h.mono fun _ _ ⟨he, hw⟩ => ⟨he, hw.below _⟩
theorem ofB (h : Calls P f args w fun e w' => e = .returned v ∧ Below w.heap.size w w') : Calls P f args w fun e w' => e = .returned v ∧ Below w.heap.size w w' := h
end
end Go.Proofs.YtdmpokanfnlbgaaGreatDoor

namespace Go.Proofs.YtdmpokanfnlbgaaGreatDoor
open Go.RowKit
set_option linter.all false
theorem info_ints : (Tryz.prog.info? 49).map (fun i => (i.zero, i.size, i.bytes)) = some (some (.slice none 0 0), 1, 24) := by kernel_rfl

/-- The slice value '.slice ao n cap' reads in w as the list xss of lists. -/
def Intss (w : World) (ao : Option Addr) (n : Nat) (xss : List (List Int)) : Prop :=
  xss.length = n ∧ n ≤ 1099511627776 ∧ ∀ i r, xss[i]? = some r → ∃ b o ai ci, ao = some ⟨b, o, none⟩ ∧ w.cell? ⟨b, o + i, none⟩ = some (.slice ai r.length ci) ∧ Ints w ai r.length r ∧ r.length ≤ ci

theorem Intss.keep {w w' : World} {ao : Option Addr} {n : Nat} {xss : List (List Int)} (h : Intss w ao n xss) (hb : Below w.heap.size w w') : Intss w' ao n xss := by
  refine ⟨h.1, h.2.1, fun i r hi => ?_⟩
  obtain ⟨b, o, ai, ci, e, hc, hr, hl⟩ := h.2.2 i r hi
  exact ⟨b, o, ai, ci, e, (hb.cell (p := ⟨b, o + i, none⟩) (World.block_lt_of_cell? w _ hc)).trans hc, hr.keep hb, hl⟩

theorem Intss.drewN {w : World} {ao : Option Addr} {n : Nat} {xss : List (List Int)} (h : Intss w ao n xss) (k : Nat) : Intss (w.drewN k) ao n xss := h

theorem Intss.at_ {w : World} {ao : Option Addr} {n k : Nat} {xss : List (List Int)} (h : Intss w ao n xss) (hk : k < n) :
    ∃ b o ai ci r, ao = some ⟨b, o, none⟩ ∧ w.cell? ⟨b, o + k, none⟩ = some (.slice ai r.length ci) ∧ Ints w ai r.length r ∧ Hid (xss[k]? = some r) := by
  have hl : k < xss.length := by rw [h.1]; exact hk
  obtain ⟨b, o, ai, ci, e, hc, hr, _⟩ := h.2.2 k xss[k] (List.getElem?_eq_getElem hl)
  exact ⟨b, o, ai, ci, _, e, hc, hr, List.getElem?_eq_getElem hl⟩
theorem Intss.cap_ {w : World} {ao : Option Addr} {n k : Nat} {xss : List (List Int)} (h : Intss w ao n xss) (hk : k < n) :
    ∃ b o ai ci r, ao = some ⟨b, o, none⟩ ∧ w.cell? ⟨b, o + k, none⟩ = some (.slice ai r.length ci) ∧ Ints w ai r.length r ∧ Hid (xss[k]? = some r) ∧ r.length ≤ ci := by
  have hl : k < xss.length := by rw [h.1]; exact hk
  obtain ⟨b, o, ai, ci, e, hc, hr, hl2⟩ := h.2.2 k xss[k] (List.getElem?_eq_getElem hl)
  exact ⟨b, o, ai, ci, _, e, hc, hr, List.getElem?_eq_getElem hl, hl2⟩

theorem OInts.capLe {w : World} {lo n m cap : Nat} {v : Value} {ao : Option Addr} {xs : List Int} (h : OInts w lo v n xs) (e : v = .slice ao m cap) : n ≤ cap := by
  rcases h.2.2 with ⟨rfl, rfl⟩ | ⟨g, c, cur, rfl, _, _, hnc, _⟩
  · exact Nat.zero_le _
  · injection e with _ _ e3
    omega

/-- The slice value v and its rows are the call's own, and hold just xss; no two rows share a block. -/
def OIntss (w : World) (lo : Nat) (v : Value) (n : Nat) (xss : List (List Int)) : Prop :=
  n ≤ 1099511627776 ∧ xss.length = n ∧ ∃ vs : List Value, w.ownsRow lo 49 1 v n vs ∧
    (∀ (i : Nat) (u : Value) (r : List Int), vs[i]? = some u → xss[i]? = some r → OInts w lo u r.length r) ∧
    (∀ (i j : Nat) (u u' : Value), i ≠ j → vs[i]? = some u → vs[j]? = some u' → u.ownBlock = none ∨ u.ownBlock ≠ u'.ownBlock)

section
variable {w w' : World} {lo n : Nat} {v : Value} {xss : List (List Int)}
theorem OIntss.len (h : OIntss w lo v n xss) : xss.length = n := h.2.1
theorem OIntss.keep (h : OIntss w lo v n xss) (hb : Below w.heap.size w w') : OIntss w' lo v n xss := by
  obtain ⟨h1, h2, vs, ho, hr, hd⟩ := h
  exact ⟨h1, h2, vs, own_keep ho hb, fun i u r hu hr' => (hr i u r hu hr').keep hb, hd⟩
theorem OIntss.alloc (h : OIntss w lo v n xss) (o : Obj) : OIntss (w.alloc o) lo v n xss := h.keep ((Below.refl _ _).alloc (Nat.le_refl _) o)
theorem OIntss.drewN (h : OIntss w lo v n xss) (k : Nat) : OIntss (w.drewN k) lo v n xss := h
theorem OIntss.mono {lo' : Nat} (h : OIntss w lo v n xss) (hl : lo' ≤ lo) : OIntss w lo' v n xss := by
  obtain ⟨h1, h2, vs, ho, hr, hd⟩ := h
  refine ⟨h1, h2, vs, ⟨ho.1, ?_⟩, fun i u r hu hr' => (hr i u r hu hr').mono hl, hd⟩
  rcases ho.2 with h2 | ⟨g, cap, cur, hv, hg, r⟩
  · exact .inl h2
  · exact .inr ⟨g, cap, cur, hv, Nat.le_trans hl hg, r⟩
theorem OIntss.form (h : OIntss w lo v n xss) : ∃ ao cap, v = .slice ao n cap ∧ Intss w ao n xss := by
  obtain ⟨h1, h2, vs, ho, hr, hd⟩ := h
  have hvl : vs.length = n := by simpa using ho.1
  rcases ho.2 with ⟨rfl, rfl⟩ | ⟨g, cap, cur, rfl, hg, hh, hnc, _, _, ht⟩
  · exact ⟨none, 0, rfl, h2, h1, fun i r hi => by rw [List.eq_nil_of_length_eq_zero h2] at hi; simp at hi⟩
  · refine ⟨some ⟨g, 0, none⟩, cap, rfl, h2, h1, fun i r hi => ?_⟩
    have hil : i < n := by rw [← h2]; exact (List.getElem?_eq_some_iff.1 hi).1
    have hv : vs[i]? = some vs[i] := List.getElem?_eq_getElem (by omega)
    obtain ⟨ai, ci, e, hints⟩ := (hr i _ r hv hi).form
    have hcap := (hr i _ r hv hi).capLe e
    have hc := ho.cells (g := g) rfl i _ hv
    rw [Addr.add_lit, e] at hc
    exact ⟨g, 0, ai, ci, rfl, hc, hints, hcap⟩
end

section
variable {w w' : World} {lo g n cap : Nat} {xss : List (List Int)}
theorem OIntss.intss (h : OIntss w lo (.slice (some ⟨g, 0, none⟩) n cap) n xss) : Intss w (some ⟨g, 0, none⟩) n xss := by
  obtain ⟨ao, c, e, hi⟩ := h.form
  injection e with e1 e2 e3
  subst e1
  exact hi
theorem OIntss.lt (h : OIntss w lo (.slice (some ⟨g, 0, none⟩) n cap) n xss) : lo ≤ g ∧ g < w.heap.size := by
  obtain ⟨_, _, vs, ho, _⟩ := h
  exact ho.lt g rfl
theorem OIntss.frozen (h : OIntss w lo (.slice (some ⟨g, 0, none⟩) n cap) n xss) (k : Nat) : w.frozen? ⟨g, k, none⟩ = false := by
  obtain ⟨_, _, vs, ho, _⟩ := h
  exact ho.frozenAt k
/-- The cell of a row. -/
theorem OIntss.cell (h : OIntss w lo (.slice (some ⟨g, 0, none⟩) n cap) n xss) (k : Nat) (hk : k < n) :
    ∃ u r, w.cell? ⟨g, k, none⟩ = some u ∧ xss[k]? = some r ∧ OInts w lo u r.length r ∧ u.ownBlock ≠ some g := by
  obtain ⟨h1, h2, vs, ho, hr, hd⟩ := h
  have hvl : vs.length = n := by simpa using ho.1
  have hv : vs[k]? = some vs[k] := List.getElem?_eq_getElem (by omega)
  have hx : xss[k]? = some xss[k] := List.getElem?_eq_getElem (by omega)
  have hc := ho.cells (g := g) rfl k _ hv
  rw [Addr.add_lit] at hc
  refine ⟨_, _, by simpa using hc, hx, hr k _ _ hv hx, ?_⟩
  intro e
  rcases (hr k _ _ hv hx).2.2 with ⟨e2, _⟩ | ⟨g', cap', cur', e2, _, hh, _⟩
  · rw [e2] at e; simp [Value.ownBlock] at e
  · rw [e2] at e
    simp [Value.ownBlock] at e
    subst e
    rcases ho.2 with ⟨e3, _⟩ | ⟨g3, cap3, cur3, e3, _, hh3, _⟩
    · simp at e3
    · simp only [Value.slice.injEq, Option.some.injEq, Addr.mk.injEq, and_true, true_and] at e3
      obtain ⟨rfl, rfl⟩ := e3
      rw [hh] at hh3
      simp at hh3
/-- A row of the call's own is stored; it lies in a block of its own. -/
theorem OIntss.set (h : OIntss w lo (.slice (some ⟨g, 0, none⟩) n cap) n xss) (k : Nat) {u : Value} {r : List Int} (hu : OInts w lo u r.length r)
    (hnew : ∀ b, u.ownBlock = some b → ∀ i u' r', i ≠ k → w.cell? ⟨g, i, none⟩ = some u' → xss[i]? = some r' → u'.ownBlock ≠ some b) :
    OIntss (w.setCell ⟨g, k, none⟩ u) lo (.slice (some ⟨g, 0, none⟩) n cap) n (xss.set k r) := by
  obtain ⟨h1, h2, vs, ho, hr, hd⟩ := h
  have hvl : vs.length = n := by simpa using ho.1
  have hst := ho.stored k u
  have hg : ∀ {u' : Value} {r' : List Int}, OInts w lo u' r'.length r' → u'.ownBlock = none ∨ u'.ownBlock ≠ some g := by
    intro u' r' ho'
    rcases ho'.2.2 with ⟨rfl, _⟩ | ⟨g', cap', cur', rfl, _, hh, _⟩
    · exact .inl rfl
    · right
      intro e
      simp [Value.ownBlock] at e
      subst e
      rcases ho.2 with ⟨e3, _⟩ | ⟨g3, cap3, cur3, e3, _, hh3, _⟩
      · simp at e3
      · simp only [Value.slice.injEq, Option.some.injEq, Addr.mk.injEq, and_true, true_and] at e3
        obtain ⟨rfl, rfl⟩ := e3
        rw [hh] at hh3
        simp at hh3
  have hcell : ∀ i u', vs[i]? = some u' → w.cell? ⟨g, i, none⟩ = some u' := by
    intro i u' hv
    have hc := ho.cells (g := g) rfl i _ hv
    rw [Addr.add_lit] at hc
    simpa using hc
  refine ⟨h1, by simpa using h2, vs.set k u, hst.1, ?_, ?_⟩
  · intro i u' r' hv hx
    rw [List.getElem?_set] at hv hx
    by_cases e : k = i
    · rw [if_pos e] at hv hx
      split at hv <;> split at hx <;> simp_all
      obtain ⟨rfl⟩ := hv
      obtain ⟨rfl⟩ := hx
      exact hu.grown hst.2 (hg hu)
    · rw [if_neg e] at hv hx
      exact (hr i u' r' hv hx).grown hst.2 (hg (hr i u' r' hv hx))
  · have key : ∀ i u', i ≠ k → vs[i]? = some u' → u.ownBlock = none ∨ u.ownBlock ≠ u'.ownBlock := by
      intro i u' hik hv
      cases hb : u.ownBlock with
      | none => exact .inl rfl
      | some b =>
        right
        have hi : i < xss.length := by rw [h2, ← hvl]; exact (List.getElem?_eq_some_iff.1 hv).1
        exact fun e => hnew b hb i u' _ hik (hcell i u' hv) (List.getElem?_eq_getElem hi) e.symm
    intro i j u1 u2 hij h3 h4
    rw [List.getElem?_set] at h3 h4
    by_cases ei : k = i
    · rw [if_pos ei] at h3
      rw [if_neg (by omega)] at h4
      split at h3
      · injection h3 with h3
        subst h3
        exact key j u2 (by omega) h4
      · cases h3
    · rw [if_neg ei] at h3
      by_cases ej : k = j
      · rw [if_pos ej] at h4
        split at h4
        · injection h4 with h4
          subst h4
          rcases key i u1 (by omega) h3 with h5 | h5
          · cases hb : u1.ownBlock with
            | none => exact .inl rfl
            | some b => right; rw [h5]; simp
          · cases hb : u1.ownBlock with
            | none => exact .inl rfl
            | some b => right; rw [← hb]; exact fun e => h5 e.symm
        · cases h4
      · rw [if_neg ej] at h4
        exact hd i j u1 u2 hij h3 h4
end

/-- What 'make([][]int, n)' leaves: n nil rows. -/
theorem OIntss.made (w : World) (n : Nat) (hn : n ≤ 1099511627776) : OIntss (w.alloc (.cells (madeCells #[.slice none 0 0] n) 49)) w.heap.size (.slice (some ⟨w.heap.size, 0, none⟩) n n) n (List.replicate n []) := by
  have h := World.ownsRow_lit (base := w.heap.size) (e := 49) (size := 1) w (madeCells #[.slice none 0 0] n) n (Nat.le_refl _) (by unfold maxLen; omega) (by simp [madeCells])
  rw [toList_madeCells_one] at h
  refine ⟨hn, by simp, _, h, ?_, ?_⟩
  · intro i u r hu hr
    have e1 : u = .slice none 0 0 := by rw [List.getElem?_replicate] at hu; split at hu <;> simp_all
    have e2 : r = [] := by rw [List.getElem?_replicate] at hr; split at hr <;> simp_all
    subst e1
    subst e2
    exact ⟨by simp, by simp, .inl ⟨rfl, rfl⟩⟩
  · intro i j u u' _ hu _
    left
    rw [List.getElem?_replicate] at hu
    split at hu
    · injection hu with hu
      subst hu
      rfl
    · cases hu

theorem make_intss (n : Nat) (hn : n ≤ 1099511627776) (w : World) :
    (Instr.makeSlice 24 (.int .i64 (n : Int)) (.int .i64 (n : Int))).run Tryz.prog w = .ok (.slice (some ⟨w.heap.size, 0, none⟩) n n) (w.alloc (.cells (madeCells #[.slice none 0 0] n) 49)) :=
  run_make_row' (P := Tryz.prog) 24 49 (.slice none 0 0) 24 Tryz.underlying24 info_ints rfl .i64 .i64 n (by omega) (by omega) w
end Go.Proofs.YtdmpokanfnlbgaaGreatDoor

namespace Go.Proofs.YtdmpokanfnlbgaaGreatDoor
open Go.RowKit
set_option linter.all false
section
variable {w w' : World} {lo n : Nat} {v u : Value} {xss : List (List Int)} {r : List Int}

/-- Two values of which the blocks differ. -/
def Apart (u v : Value) : Prop := ∀ b, u.ownBlock = some b → v.ownBlock ≠ some b

theorem own_int_ne {lo' m : Nat} {vs : List Value} (hu : OInts w lo u r.length r) (hv : w.ownsRow lo' 49 1 v m vs) : u.ownBlock = none ∨ u.ownBlock ≠ v.ownBlock := by
  rcases hu.2.2 with ⟨rfl, _⟩ | ⟨g, cap, cur, rfl, _, hh, _⟩
  · exact .inl rfl
  · right
    rcases hv.2 with ⟨rfl, _⟩ | ⟨g', cap', cur', rfl, _, hh', _⟩
    · simp [Value.ownBlock]
    · intro e
      simp [Value.ownBlock] at e
      subst e
      rw [hh] at hh'
      simp at hh'

/-- What an append of one row leaves. -/
theorem OIntss.pushed {v' : Value} (h : OIntss w lo v n xss) (hn : n + 1 ≤ 1099511627776) (hu : OInts w lo u r.length r)
    (hfar : ∀ (i : Nat) (u' : Value) (r' : List Int), (∃ vs : List Value, w.ownsRow lo 49 1 v n vs ∧ vs[i]? = some u') → xss[i]? = some r' → OInts w lo u' r'.length r' → Apart u u')
    (hg : w.grownBy w' v.ownBlock) (hown : ∀ vs, w.ownsRow lo 49 1 v n vs → w'.ownsRow lo 49 1 v' (n + 1) (vs ++ [u])) :
    OIntss w' lo v' (n + 1) (xss ++ [r]) := by
  obtain ⟨h1, h2, vs, ho, hr, hd⟩ := h
  have hvl : vs.length = n := by simpa using ho.1
  have key : ∀ (i : Nat) (u' : Value), vs[i]? = some u' → Apart u u' := by
    intro i u' hv
    have hi : i < xss.length := by rw [h2, ← hvl]; exact (List.getElem?_eq_some_iff.1 hv).1
    exact hfar i u' _ ⟨vs, ho, hv⟩ (List.getElem?_eq_getElem hi) (hr i u' _ hv (List.getElem?_eq_getElem hi))
  refine ⟨hn, by simp [h2], vs ++ [u], hown vs ho, ?_, ?_⟩
  · intro i u' r' hv hx
    by_cases hi : i < n
    · rw [List.getElem?_append_left (by omega)] at hv hx
      have := hr i u' r' hv hx
      exact this.grown hg (own_int_ne this ho)
    · rw [List.getElem?_append_right (by omega)] at hv hx
      rw [hvl] at hv
      rw [h2] at hx
      have hz : i - n = 0 := by
        have := (List.getElem?_eq_some_iff.1 hv).1
        simp at this
        omega
      rw [hz] at hv hx
      simp at hv hx
      subst hv
      subst hx
      exact hu.grown hg (own_int_ne hu ho)
  · intro i j u1 u2 hij h3 h4
    by_cases hi : i < n
    · rw [List.getElem?_append_left (by omega)] at h3
      by_cases hj : j < n
      · rw [List.getElem?_append_left (by omega)] at h4
        exact hd i j u1 u2 hij h3 h4
      · rw [List.getElem?_append_right (by omega), hvl] at h4
        have hz : j - n = 0 := by
          have := (List.getElem?_eq_some_iff.1 h4).1
          simp at this
          omega
        rw [hz] at h4
        simp at h4
        subst h4
        cases hb : u1.ownBlock with
        | none => exact .inl rfl
        | some b => right; exact fun e => key i u1 h3 b (by rw [← e]) hb
    · rw [List.getElem?_append_right (by omega), hvl] at h3
      have hz : i - n = 0 := by
        have := (List.getElem?_eq_some_iff.1 h3).1
        simp at this
        omega
      rw [hz] at h3
      simp at h3
      subst h3
      have hj : j < n := by
        have := (List.getElem?_eq_some_iff.1 h4).1
        simp [hvl] at this
        omega
      rw [List.getElem?_append_left (by omega)] at h4
      cases hb : u.ownBlock with
      | none => exact .inl rfl
      | some b => right; exact fun e => key j u2 h4 b hb e.symm

/-- The row lies in a block that is newer than all that was there when the slice was looked at last. -/
theorem far_new {w0 : World} (h : OIntss w0 lo v n xss) (hb : Below w0.heap.size w0 w) (hu : ∀ b, u.ownBlock = some b → w0.heap.size ≤ b) :
    ∀ (i : Nat) (u' : Value) (r' : List Int), (∃ vs : List Value, w.ownsRow lo 49 1 v n vs ∧ vs[i]? = some u') → xss[i]? = some r' → OInts w lo u' r'.length r' → Apart u u' := by
  intro i u' r' ⟨vs, ho, hv⟩ _ _ b hbu hbu'
  obtain ⟨h1, h2, vs0, ho0, hr0, _⟩ := h
  have ho0' := own_keep ho0 hb
  have e : vs = vs0 := by
    rcases ho.2 with ⟨rfl, hn⟩ | ⟨g, cap, cur, rfl, _, hh, _, _, _, ht⟩
    · have l1 := ho.1
      have l2 := ho0.1
      rw [hn, Nat.zero_mul] at l1 l2
      rw [List.eq_nil_of_length_eq_zero l1, List.eq_nil_of_length_eq_zero l2]
    · rcases ho0'.2 with ⟨e, _⟩ | ⟨g', cap', cur', e, _, hh', _, _, _, ht'⟩
      · simp at e
      · simp only [Value.slice.injEq, Option.some.injEq, Addr.mk.injEq, and_true, true_and] at e
        obtain ⟨rfl, rfl⟩ := e
        rw [hh] at hh'
        simp at hh'
        subst hh'
        rw [← ht, ← ht']
  subst e
  have hi : i < xss.length := by rw [h2]; have := (List.getElem?_eq_some_iff.1 hv).1; have := ho0.1; simp at this; omega
  have := (hr0 i u' _ hv (List.getElem?_eq_getElem hi)).2.lt b hbu'
  have := hu b hbu
  omega
end

section
variable {w w' : World} {lo g n cap : Nat} {xss : List (List Int)}
/-- Row k, where it is not empty. -/
theorem OIntss.rowAt (h : OIntss w lo (.slice (some ⟨g, 0, none⟩) n cap) n xss) {k : Nat} {r : List Int} (hk : xss[k]? = some r) (hr : 0 < r.length) :
    ∃ gk ck, w.cell? ⟨g, k, none⟩ = some (.slice (some ⟨gk, 0, none⟩) r.length ck) ∧ OInts w lo (.slice (some ⟨gk, 0, none⟩) r.length ck) r.length r ∧ gk ≠ g ∧ lo ≤ gk := by
  have hkn : k < n := by rw [← h.len]; exact (List.getElem?_eq_some_iff.1 hk).1
  obtain ⟨u, r', hc, hx, ho, hne⟩ := h.cell k hkn
  rw [hk] at hx
  injection hx with hx
  subst hx
  rcases ho.2.2 with ⟨_, hz⟩ | ⟨gk, ck, cur, rfl, hlo, hh, rest⟩
  · omega
  · exact ⟨gk, ck, hc, ⟨ho.1, ho.2.1, .inr ⟨gk, ck, cur, rfl, hlo, hh, rest⟩⟩, fun e => hne (by simp [Value.ownBlock, e]), hlo⟩

/-- A number is stored into row k. -/
theorem OIntss.setIn (h : OIntss w lo (.slice (some ⟨g, 0, none⟩) n cap) n xss) {k : Nat} {r : List Int} (hk : xss[k]? = some r) {gk ck : Nat}
    (hc : w.cell? ⟨g, k, none⟩ = some (.slice (some ⟨gk, 0, none⟩) r.length ck)) (ho : OInts w lo (.slice (some ⟨gk, 0, none⟩) r.length ck) r.length r) (j : Nat) (x : Int) :
    OIntss (w.setCell ⟨gk, j, none⟩ (.int .i64 x)) lo (.slice (some ⟨g, 0, none⟩) n cap) n (xss.set k (r.set j x)) := by
  obtain ⟨h1, h2, vs, hv, hr, hd⟩ := h
  have hvl : vs.length = n := by simpa using hv.1
  have hkn : k < n := by rw [← h2]; exact (List.getElem?_eq_some_iff.1 hk).1
  have hvk : vs[k]? = some (.slice (some ⟨gk, 0, none⟩) r.length ck) := by
    have h3 : vs[k]? = some vs[k] := List.getElem?_eq_getElem (by omega)
    have h4 := hv.cells (g := g) rfl k _ h3
    rw [Addr.add_lit] at h4
    simp at h4
    rw [h4] at hc
    injection hc with hc
    rw [h3, hc]
  have hst := ho.2.stored j (.int .i64 x)
  have hset := ho.set j x
  refine ⟨h1, by simpa using h2, vs, ?_, ?_, hd⟩
  · refine hv.kept hst.2 ?_
    have := own_int_ne ho hv
    rcases this with e | e
    · simp [Value.ownBlock] at e
    · right
      intro e2
      exact e (by rw [e2]; rfl)
  · intro i u' r' hu' hr'
    rw [List.getElem?_set] at hr'
    by_cases e : k = i
    · subst e
      rw [hvk] at hu'
      injection hu' with hu'
      subst hu'
      rw [if_pos rfl] at hr'
      split at hr'
      · injection hr' with hr'
        subst hr'
        simpa using hset
      · cases hr'
    · rw [if_neg e] at hr'
      have h3 := hr i u' r' hu' hr'
      refine h3.grown hst.2 ?_
      rcases hd i k u' _ (by omega) hu' hvk with e2 | e2
      · exact .inl e2
      · right
        intro e3
        exact e2 (by rw [e3]; rfl)
end
end Go.Proofs.YtdmpokanfnlbgaaGreatDoor

namespace Go.Proofs.YtdmpokanfnlbgaaGreatDoor
open Go.RowKit
set_option linter.all false
theorem info_int_parts : ∃ i, Tryz.prog.info? 3 = some i ∧ i.zero = some (.int .i64 0) ∧ i.size = 1 ∧ i.bytes = 8 := info_parts info_int

theorem wpList_push_int {ops : Array Oper} {rest : List Oper} {o : Oper} {a : Act} {Q : Exit → Act → World → Prop} (w : World) (hgd : o.guard = none) (s x : Operand)
    (ho : o.op = .call { callee := .builtin .append, args := #[s, x], argTypes := #[49, 49] })
    (lo : Nat) (v : Value) (n : Nat) (xs : List Int) (hs : a.eval s = v) (h : OInts w lo v n xs) (hn : n + 1 ≤ 1099511627776)
    (tb : Nat) (y : Int) (hx : a.eval x = .slice (some ⟨tb, 0, none⟩) 1 1) (hc : w.cell? ⟨tb, 0, none⟩ = some (.int .i64 y))
    (hlo : lo ≤ w.heap.size)
    (K : ∀ v' w', OInts w' lo v' (n + 1) (xs ++ [y]) → w.grownBy w' v.ownBlock → wpList Tryz.prog ops Q rest (a.put o.dst v') w') : wpList Tryz.prog ops Q (o :: rest) a w := by
  obtain ⟨i0, hi, hz0, hz1, hz2⟩ := info_int_parts
  refine wpList_append_own w hgd s x 49 ho lo 3 i0 (.int .i64 0) 1 8 Tryz.underlying49 hi hz0 hz1 hz2 rfl (by decide) v n _ hs h.2 ⟨tb, 0, none⟩ 1 1 [.int .i64 y] hx rfl ?_ ?_ ?_ ?_ hlo ?_
  · intro j u' hj
    match j, hj with
    | 0, hj =>
      simp at hj
      subst hj
      simpa [Addr.add] using hc
  · intro u' hu'
    simp at hu'
    subst hu'
    rfl
  · unfold maxLen; omega
  · omega
  · intro v' w' hown hgrow _
    refine K v' w' ⟨hn, ?_⟩ hgrow
    rw [List.map_append]
    exact hown

theorem run_append_nil_src {P : Program} {w : World} {lo t ty e size n : Nat} {i : TypeInfo} {v : Value} {xs : List Value} (ht : P.underlying t = some (.slice e)) (hi : P.info? e = some i)
    (h : w.ownsRow lo e size v n xs) (c : Nat) : (Builtin.append_ #[t, t] ty #[v, .slice none 0 c]).run P w = .ok v w := by
  rcases h.2 with ⟨rfl, rfl⟩ | ⟨g, cap, cur, rfl, _, _, hnc, _⟩
  · simp [Builtin.append_, run_underlying ht, sizeOf, typeInfo, hi, Builtin.lenOf, Builtin.firstCells]
  · simp [Builtin.append_, run_underlying ht, sizeOf, typeInfo, hi, Builtin.lenOf, Builtin.firstCells, hnc, storeCells]

set_option maxRecDepth 8000 in
theorem wpList_app_ints {ops : Array Oper} {rest : List Oper} {o : Oper} {a : Act} {Q : Exit → Act → World → Prop} (w : World) (hgd : o.guard = none) (s x : Operand)
    (ho : o.op = .call { callee := .builtin .append, args := #[s, x], argTypes := #[49, 49] })
    (lo : Nat) (v : Value) (n : Nat) (xs : List Int) (hs : a.eval s = v) (h : OInts w lo v n xs)
    (ao : Option Addr) (m c : Nat) (ys : List Int) (hx : a.eval x = .slice ao m c) (hy : Ints w ao m ys) (hn : n + m ≤ 1099511627776)
    (hlo : lo ≤ w.heap.size)
    (K : ∀ v' w', OInts w' lo v' (n + m) (xs ++ ys) → w.grownBy w' v.ownBlock → wpList Tryz.prog ops Q rest (a.put o.dst v') w') : wpList Tryz.prog ops Q (o :: rest) a w := by
  obtain ⟨i0, hi, hz0, hz1, hz2⟩ := info_int_parts
  rcases ao with _ | ad
  · have hm : m = 0 := by
      rcases Nat.eq_zero_or_pos m with h0 | h0
      · exact h0
      · obtain ⟨b, o', e, _⟩ := hy.2.2 0 (by rw [hy.1]; exact h0)
        cases e
    subst hm
    have hyn : ys = [] := List.eq_nil_of_length_eq_zero hy.1
    subst hyn
    refine wpList_plain hgd fun K' hK => ?_
    have hrun := run_append_nil_src (ty := o.type) (lo := lo) Tryz.underlying49 hi h.2 c
    unfold Oper.wp execOp
    simp only [ho, resolve, invoke, builtin, Sem.run_bind, Sem.run_pure, Result.andThen_ok, List.map_toArray, List.map_cons, List.map_nil, hs, hx, hrun]
    exact hK _ _ (K v w (by simpa using h) (World.grownBy.refl w _))
  · have hcells : ∀ j u, (ys.map (Value.int .i64))[j]? = some u → w.cell? (ad.add j) = some u := by
      intro j u hu
      have hj : j < ys.length := by simpa using (List.getElem?_eq_some_iff.1 hu).1
      obtain ⟨b, o', e, hc⟩ := hy.2.2 j hj
      injection e with e
      subst e
      rw [Addr.add_lit, hc]
      simpa [List.getD, hj] using hu
    refine wpList_append_own w hgd s x 49 ho lo 3 i0 (.int .i64 0) 1 8 Tryz.underlying49 hi hz0 hz1 hz2 rfl (by decide) v n _ hs h.2 ad m c (ys.map (Value.int .i64)) hx (by simp [hy.1]) hcells (ints_oneCell _ _) ?_ ?_ hlo ?_
    · unfold maxLen; omega
    · omega
    · intro v' w' hown hgrow _
      refine K v' w' ⟨hn, ?_⟩ hgrow
      rw [List.map_append]
      exact hown

/-- An empty slice that the call makes ('[]int{}'). -/
theorem OInts.none_ (w : World) (lo : Nat) : OInts w lo (.slice none 0 0) 0 [] := ⟨by omega, by simp, .inl ⟨rfl, rfl⟩⟩
theorem OInts.empty (w : World) (lo : Nat) (hlo : lo ≤ w.heap.size) : OInts (w.alloc (.cells #[] 3)) lo (.slice (some ⟨w.heap.size, 0, none⟩) 0 0) 0 [] := by
  refine ⟨by omega, ?_⟩
  have h := World.ownsRow_made (base := lo) (e := 3) (size := 1) w #[] 0 hlo (by unfold maxLen; omega) rfl
  simpa using h
/-- The parts of a slice that reads as a list. -/
theorem Ints.take {w : World} {ao : Option Addr} {n k : Nat} {xs : List Int} (h : Ints w ao n xs) (hk : k ≤ n) : Ints w ao k (xs.take k) := by
  refine ⟨by rw [List.length_take, h.1]; omega, by have := h.2.1; omega, fun i hi => ?_⟩
  rw [List.length_take, h.1] at hi
  obtain ⟨b, o, e, hc⟩ := h.2.2 i (by rw [h.1]; omega)
  refine ⟨b, o, e, ?_⟩
  rw [hc]
  congr 2
  simp [List.getD, List.getElem?_take, show i < k by omega]
theorem Ints.drop {w : World} {ao : Option Addr} {n k cap : Nat} {xs : List Int} (h : Ints w ao n xs) (hk : k ≤ n) (hcap : n ≤ cap) : Ints w (if cap = k then ao else ao.map (·.add k)) (n - k) (xs.drop k) := by
  refine ⟨by rw [List.length_drop, h.1], by have := h.2.1; omega, fun i hi => ?_⟩
  rw [List.length_drop, h.1] at hi
  obtain ⟨b, o, e, hc⟩ := h.2.2 (k + i) (by rw [h.1]; omega)
  rw [if_neg (by omega), e]
  refine ⟨b, o + k, by simp [Addr.add_lit], ?_⟩
  rw [Nat.add_assoc, hc]
  congr 2
  simp [List.getD]
end Go.Proofs.YtdmpokanfnlbgaaGreatDoor

namespace Go.Proofs.YtdmpokanfnlbgaaGreatDoor
open Go.RowKit
set_option linter.all false
theorem own_unique {w : World} {lo lo' e size n : Nat} {v : Value} {xs ys : List Value} (h : w.ownsRow lo e size v n xs) (h' : w.ownsRow lo' e size v n ys) : xs = ys := by
  rcases h.2 with ⟨rfl, hn⟩ | ⟨g, cap, cur, rfl, _, hh, _, _, _, ht⟩
  · have l1 := h.1
    have l2 := h'.1
    rw [hn, Nat.zero_mul] at l1 l2
    rw [List.eq_nil_of_length_eq_zero l1, List.eq_nil_of_length_eq_zero l2]
  · rcases h'.2 with ⟨e, _⟩ | ⟨g', cap', cur', e, _, hh', _, _, _, ht'⟩
    · simp at e
    · simp only [Value.slice.injEq, Option.some.injEq, Addr.mk.injEq, and_true, true_and] at e
      obtain ⟨rfl, rfl⟩ := e
      rw [hh] at hh'
      simp at hh'
      subst hh'
      rw [← ht, ← ht']

theorem wpList_push_row {ops : Array Oper} {rest : List Oper} {o : Oper} {a : Act} {Q : Exit → Act → World → Prop} (w : World) (hgd : o.guard = none) (s x : Operand)
    (ho : o.op = .call { callee := .builtin .append, args := #[s, x], argTypes := #[24, 24] })
    (lo : Nat) (v : Value) (n : Nat) (xss : List (List Int)) (hs : a.eval s = v) (h : OIntss w lo v n xss) (hn : n + 1 ≤ 1099511627776)
    (tb : Nat) (u : Value) (r : List Int) (hx : a.eval x = .slice (some ⟨tb, 0, none⟩) 1 1) (hc : w.cell? ⟨tb, 0, none⟩ = some u) (hu : OInts w lo u r.length r)
    (hfar : ∀ (i : Nat) (u' : Value) (r' : List Int), (∃ vs : List Value, w.ownsRow lo 49 1 v n vs ∧ vs[i]? = some u') → xss[i]? = some r' → OInts w lo u' r'.length r' → Apart u u')
    (hlo : lo ≤ w.heap.size)
    (K : ∀ v' w', OIntss w' lo v' (n + 1) (xss ++ [r]) → w.grownBy w' v.ownBlock → wpList Tryz.prog ops Q rest (a.put o.dst v') w') : wpList Tryz.prog ops Q (o :: rest) a w := by
  obtain ⟨i0, hi, hz0, hz1, hz2⟩ := info_parts info_ints
  obtain ⟨h1, h2, vs, hv, hr, hd⟩ := h
  have hone : u.oneCell' = true := by
    rcases hu.2.2 with ⟨rfl, _⟩ | ⟨_, _, _, rfl, _⟩ <;> rfl
  refine wpList_append_own w hgd s x 24 ho lo 49 i0 (.slice none 0 0) 1 24 Tryz.underlying24 hi hz0 hz1 hz2 rfl (by decide) v n vs hs hv ⟨tb, 0, none⟩ 1 1 [u] hx rfl ?_ ?_ ?_ ?_ hlo ?_
  · intro j u' hj
    match j, hj with
    | 0, hj =>
      simp at hj
      subst hj
      simpa [Addr.add] using hc
  · intro u' hu'
    simp at hu'
    subst hu'
    exact hone
  · unfold maxLen; omega
  · omega
  · intro v' w' hown hgrow _
    refine K v' w' ?_ hgrow
    exact OIntss.pushed ⟨h1, h2, vs, hv, hr, hd⟩ hn hu hfar hgrow fun vs' hv' => by rw [own_unique hv' hv]; exact hown

theorem OIntss.ownlt {w : World} {lo n : Nat} {v : Value} {xss : List (List Int)} (h : OIntss w lo v n xss) : ∀ k, v.ownBlock = some k → lo ≤ k ∧ k < w.heap.size := by
  obtain ⟨_, _, vs, ho, _⟩ := h
  exact ho.lt
theorem OInts.ownlt {w : World} {lo n : Nat} {v : Value} {xs : List Int} (h : OInts w lo v n xs) : ∀ k, v.ownBlock = some k → lo ≤ k ∧ k < w.heap.size := h.2.lt
theorem OIntss.none_ (w : World) (lo : Nat) : OIntss w lo (.slice none 0 0) 0 [] :=
  ⟨by omega, rfl, [], ⟨by simp, .inl ⟨rfl, rfl⟩⟩, fun i u r h => by simp at h, fun i j u u' _ h => by simp at h⟩
theorem OIntss.empty (w : World) (lo : Nat) (hlo : lo ≤ w.heap.size) : OIntss (w.alloc (.cells #[] 49)) lo (.slice (some ⟨w.heap.size, 0, none⟩) 0 0) 0 [] :=
  ⟨by omega, rfl, [], World.ownsRow_made (base := lo) (e := 49) (size := 1) w #[] 0 hlo (by unfold maxLen; omega) rfl, fun i u r h => by simp at h, fun i j u u' _ h => by simp at h⟩

/-- A row that is newer than the world wr, in which the slice was looked at last, is pushed. -/
theorem wpList_push_fresh {ops : Array Oper} {rest : List Oper} {o : Oper} {a : Act} {Q : Exit → Act → World → Prop} (W : World) (u : Value) (wr : World) (hgd : o.guard = none) (s x : Operand)
    (ho : o.op = .call { callee := .builtin .append, args := #[s, x], argTypes := #[24, 24] })
    (lo : Nat) (v : Value) (n : Nat) (xss : List (List Int)) (hs : a.eval s = v) (h : OIntss wr lo v n xss) (hn : n + 1 ≤ 1099511627776) (hlo : lo ≤ wr.heap.size) (hW : Below wr.heap.size wr W)
    (m : Nat) (r : List Int) (hu : OInts W wr.heap.size u m r) (tb : Nat) (htb : tb = W.heap.size) (hx : a.eval x = .slice (some ⟨tb, 0, none⟩) 1 1)
    (K : ∀ v' w', OIntss w' lo v' (n + 1) (xss ++ [r]) → Below lo wr w' → (W.alloc (.cells #[u] 49)).grownBy w' v.ownBlock → wpList Tryz.prog ops Q rest (a.put o.dst v') w') : wpList Tryz.prog ops Q (o :: rest) a (W.alloc (.cells #[u] 49)) := by
  subst htb
  have hml := hu.len
  subst hml
  have hW2 : Below wr.heap.size wr (W.alloc (.cells #[u] 49)) := hW.alloc hW.size _
  refine wpList_push_row _ hgd s x ho lo v n xss hs (h.keep hW2) hn W.heap.size u r hx (World.cell?_alloc_new _ _ _ _) ((hu.alloc _).mono hlo) (far_new h hW2 fun b hb => (hu.ownlt b hb).1) (by simp; have := hW.size; omega) ?_
  intro v' w' hown hgrow
  exact K v' w' hown ((hW2.mono hlo).grown hgrow (by simp; have := hW.size; omega) fun k hk => (h.ownlt k hk).1) hgrow
end Go.Proofs.YtdmpokanfnlbgaaGreatDoor

namespace Go.Proofs.YtdmpokanfnlbgaaGreatDoor
open Go.RowKit
set_option linter.all false
/- The same laws for a region that draws its order. -/
theorem step_of_wp {P : Program} {ops : Array Oper} {o : Oper} {a : Act} {w : World} {K : Act → World → Prop} {Q : Exit → Act → World → Prop} {E : Prop} (hgd : o.guard = none) (h : o.wp P a w K Q) :
    if Region.wanted o (yielded ops a.tmps) = true then Oper.wp P o a w K Q else E := by
  have hw : Region.wanted o (yielded ops a.tmps) = true := by simp [Region.wanted, hgd]
  rw [if_pos hw]
  exact h

theorem wp_push_int {o : Oper} {a : Act} {K0 : Act → World → Prop} {Q : Exit → Act → World → Prop} (w : World) (s x : Operand)
    (ho : o.op = .call { callee := .builtin .append, args := #[s, x], argTypes := #[49, 49] })
    (lo : Nat) (v : Value) (n : Nat) (xs : List Int) (hs : a.eval s = v) (h : OInts w lo v n xs) (hn : n + 1 ≤ 1099511627776)
    (tb : Nat) (y : Int) (hx : a.eval x = .slice (some ⟨tb, 0, none⟩) 1 1) (hc : w.cell? ⟨tb, 0, none⟩ = some (.int .i64 y))
    (hlo : lo ≤ w.heap.size)
    (K : ∀ v' w', OInts w' lo v' (n + 1) (xs ++ [y]) → w.grownBy w' v.ownBlock → K0 (a.put o.dst v') w') : o.wp Tryz.prog a w K0 Q := by
  obtain ⟨i0, hi, hz0, hz1, hz2⟩ := info_int_parts
  refine wp_append_own w s x 49 ho lo 3 i0 (.int .i64 0) 1 8 Tryz.underlying49 hi hz0 hz1 hz2 rfl (by decide) v n _ hs h.2 ⟨tb, 0, none⟩ 1 1 [.int .i64 y] hx rfl ?_ ?_ ?_ ?_ hlo ?_
  · intro j u' hj
    match j, hj with
    | 0, hj =>
      simp at hj
      subst hj
      simpa [Addr.add] using hc
  · intro u' hu'
    simp at hu'
    subst hu'
    rfl
  · unfold maxLen; omega
  · omega
  · intro v' w' hown hgrow _
    refine K v' w' ⟨hn, ?_⟩ hgrow
    rw [List.map_append]
    exact hown

set_option maxRecDepth 8000 in
theorem wp_app_ints {o : Oper} {a : Act} {K0 : Act → World → Prop} {Q : Exit → Act → World → Prop} (w : World) (s x : Operand)
    (ho : o.op = .call { callee := .builtin .append, args := #[s, x], argTypes := #[49, 49] })
    (lo : Nat) (v : Value) (n : Nat) (xs : List Int) (hs : a.eval s = v) (h : OInts w lo v n xs)
    (ao : Option Addr) (m c : Nat) (ys : List Int) (hx : a.eval x = .slice ao m c) (hy : Ints w ao m ys) (hn : n + m ≤ 1099511627776)
    (hlo : lo ≤ w.heap.size)
    (K : ∀ v' w', OInts w' lo v' (n + m) (xs ++ ys) → w.grownBy w' v.ownBlock → K0 (a.put o.dst v') w') : o.wp Tryz.prog a w K0 Q := by
  obtain ⟨i0, hi, hz0, hz1, hz2⟩ := info_int_parts
  rcases ao with _ | ad
  · have hm : m = 0 := by
      rcases Nat.eq_zero_or_pos m with h0 | h0
      · exact h0
      · obtain ⟨b, o', e, _⟩ := hy.2.2 0 (by rw [hy.1]; exact h0)
        cases e
    subst hm
    have hyn : ys = [] := List.eq_nil_of_length_eq_zero hy.1
    subst hyn
    have hrun := run_append_nil_src (ty := o.type) (lo := lo) Tryz.underlying49 hi h.2 c
    unfold Oper.wp execOp
    simp only [ho, resolve, invoke, builtin, Sem.run_bind, Sem.run_pure, Result.andThen_ok, List.map_toArray, List.map_cons, List.map_nil, hs, hx, hrun]
    exact (K v w (by simpa using h) (World.grownBy.refl w _))
  · have hcells : ∀ j u, (ys.map (Value.int .i64))[j]? = some u → w.cell? (ad.add j) = some u := by
      intro j u hu
      have hj : j < ys.length := by simpa using (List.getElem?_eq_some_iff.1 hu).1
      obtain ⟨b, o', e, hc⟩ := hy.2.2 j hj
      injection e with e
      subst e
      rw [Addr.add_lit, hc]
      simpa [List.getD, hj] using hu
    refine wp_append_own w s x 49 ho lo 3 i0 (.int .i64 0) 1 8 Tryz.underlying49 hi hz0 hz1 hz2 rfl (by decide) v n _ hs h.2 ad m c (ys.map (Value.int .i64)) hx (by simp [hy.1]) hcells (ints_oneCell _ _) ?_ ?_ hlo ?_
    · unfold maxLen; omega
    · omega
    · intro v' w' hown hgrow _
      refine K v' w' ⟨hn, ?_⟩ hgrow
      rw [List.map_append]
      exact hown

theorem wp_push_row {o : Oper} {a : Act} {K0 : Act → World → Prop} {Q : Exit → Act → World → Prop} (w : World) (s x : Operand)
    (ho : o.op = .call { callee := .builtin .append, args := #[s, x], argTypes := #[24, 24] })
    (lo : Nat) (v : Value) (n : Nat) (xss : List (List Int)) (hs : a.eval s = v) (h : OIntss w lo v n xss) (hn : n + 1 ≤ 1099511627776)
    (tb : Nat) (u : Value) (r : List Int) (hx : a.eval x = .slice (some ⟨tb, 0, none⟩) 1 1) (hc : w.cell? ⟨tb, 0, none⟩ = some u) (hu : OInts w lo u r.length r)
    (hfar : ∀ (i : Nat) (u' : Value) (r' : List Int), (∃ vs : List Value, w.ownsRow lo 49 1 v n vs ∧ vs[i]? = some u') → xss[i]? = some r' → OInts w lo u' r'.length r' → Apart u u')
    (hlo : lo ≤ w.heap.size)
    (K : ∀ v' w', OIntss w' lo v' (n + 1) (xss ++ [r]) → w.grownBy w' v.ownBlock → K0 (a.put o.dst v') w') : o.wp Tryz.prog a w K0 Q := by
  obtain ⟨i0, hi, hz0, hz1, hz2⟩ := info_parts info_ints
  obtain ⟨h1, h2, vs, hv, hr, hd⟩ := h
  have hone : u.oneCell' = true := by
    rcases hu.2.2 with ⟨rfl, _⟩ | ⟨_, _, _, rfl, _⟩ <;> rfl
  refine wp_append_own w s x 24 ho lo 49 i0 (.slice none 0 0) 1 24 Tryz.underlying24 hi hz0 hz1 hz2 rfl (by decide) v n vs hs hv ⟨tb, 0, none⟩ 1 1 [u] hx rfl ?_ ?_ ?_ ?_ hlo ?_
  · intro j u' hj
    match j, hj with
    | 0, hj =>
      simp at hj
      subst hj
      simpa [Addr.add] using hc
  · intro u' hu'
    simp at hu'
    subst hu'
    exact hone
  · unfold maxLen; omega
  · omega
  · intro v' w' hown hgrow _
    refine K v' w' ?_ hgrow
    exact OIntss.pushed ⟨h1, h2, vs, hv, hr, hd⟩ hn hu hfar hgrow fun vs' hv' => by rw [own_unique hv' hv]; exact hown

theorem wp_push_fresh {o : Oper} {a : Act} {K0 : Act → World → Prop} {Q : Exit → Act → World → Prop} (W : World) (u : Value) (wr : World) (s x : Operand)
    (ho : o.op = .call { callee := .builtin .append, args := #[s, x], argTypes := #[24, 24] })
    (lo : Nat) (v : Value) (n : Nat) (xss : List (List Int)) (hs : a.eval s = v) (h : OIntss wr lo v n xss) (hn : n + 1 ≤ 1099511627776) (hlo : lo ≤ wr.heap.size) (hW : Below wr.heap.size wr W)
    (m : Nat) (r : List Int) (hu : OInts W wr.heap.size u m r) (tb : Nat) (htb : tb = W.heap.size) (hx : a.eval x = .slice (some ⟨tb, 0, none⟩) 1 1)
    (K : ∀ v' w', OIntss w' lo v' (n + 1) (xss ++ [r]) → Below lo wr w' → (W.alloc (.cells #[u] 49)).grownBy w' v.ownBlock → K0 (a.put o.dst v') w') : o.wp Tryz.prog a (W.alloc (.cells #[u] 49)) K0 Q := by
  subst htb
  have hml := hu.len
  subst hml
  have hW2 : Below wr.heap.size wr (W.alloc (.cells #[u] 49)) := hW.alloc hW.size _
  refine wp_push_row _ s x ho lo v n xss hs (h.keep hW2) hn W.heap.size u r hx (World.cell?_alloc_new _ _ _ _) ((hu.alloc _).mono hlo) (far_new h hW2 fun b hb => (hu.ownlt b hb).1) (by simp; have := hW.size; omega) ?_
  intro v' w' hown hgrow
  exact K v' w' hown ((hW2.mono hlo).grown hgrow (by simp; have := hW.size; omega) fun k hk => (h.ownlt k hk).1) hgrow
end Go.Proofs.YtdmpokanfnlbgaaGreatDoor

namespace Go.Proofs.YtdmpokanfnlbgaaGreatDoor
open Go.RowKit
set_option linter.all false
theorem push_one_grown {w w' : World} {lo n : Nat} {v : Value} {xs : List Int} (h : OInts w lo v n xs) (hlo : lo ≤ w.heap.size) (o : Obj) (hg : (w.alloc o).grownBy w' v.ownBlock) : Below lo w w' :=
  ((Below.refl lo w).alloc hlo o).grown hg (by simp; omega) (fun k hk => (h.ownlt k hk).1)

theorem wpList_push_one {ops : Array Oper} {rest : List Oper} {o : Oper} {a : Act} {Q : Exit → Act → World → Prop} (W : World) (y : Int) (hgd : o.guard = none) (s x : Operand)
    (ho : o.op = .call { callee := .builtin .append, args := #[s, x], argTypes := #[49, 49] })
    (lo : Nat) (v : Value) (n : Nat) (xs : List Int) (hs : a.eval s = v) (h : OInts W lo v n xs) (hn : n + 1 ≤ 1099511627776) (hlo : lo ≤ W.heap.size)
    (tb : Nat) (htb : tb = W.heap.size) (hx : a.eval x = .slice (some ⟨tb, 0, none⟩) 1 1)
    (K : ∀ v' w', OInts w' lo v' (n + 1) (xs ++ [y]) → Below lo W w' → wpList Tryz.prog ops Q rest (a.put o.dst v') w') : wpList Tryz.prog ops Q (o :: rest) a (W.alloc (.cells #[.int .i64 y] 3)) := by
  subst htb
  refine wpList_push_int _ hgd s x ho lo v n xs hs (h.alloc _) hn W.heap.size y hx (World.cell?_alloc_new _ _ _ _) (by simp; omega) ?_
  intro v' w' hown hg
  exact K v' w' hown (push_one_grown h hlo _ hg)

theorem wp_push_one {o : Oper} {a : Act} {K0 : Act → World → Prop} {Q : Exit → Act → World → Prop} (W : World) (y : Int) (s x : Operand)
    (ho : o.op = .call { callee := .builtin .append, args := #[s, x], argTypes := #[49, 49] })
    (lo : Nat) (v : Value) (n : Nat) (xs : List Int) (hs : a.eval s = v) (h : OInts W lo v n xs) (hn : n + 1 ≤ 1099511627776) (hlo : lo ≤ W.heap.size)
    (tb : Nat) (htb : tb = W.heap.size) (hx : a.eval x = .slice (some ⟨tb, 0, none⟩) 1 1)
    (K : ∀ v' w', OInts w' lo v' (n + 1) (xs ++ [y]) → Below lo W w' → K0 (a.put o.dst v') w') : o.wp Tryz.prog a (W.alloc (.cells #[.int .i64 y] 3)) K0 Q := by
  subst htb
  refine wp_push_int _ s x ho lo v n xs hs (h.alloc _) hn W.heap.size y hx (World.cell?_alloc_new _ _ _ _) (by simp; omega) ?_
  intro v' w' hown hg
  exact K v' w' hown (push_one_grown h hlo _ hg)
end Go.Proofs.YtdmpokanfnlbgaaGreatDoor

namespace Go.Proofs.YtdmpokanfnlbgaaGreatDoor
open Go.RowKit
set_option linter.all false
/- 'out = append(out, y)' beside other slices of the call's own: where the new value lies. -/
/-- v' lies where v lay, or in a block that is new. -/
def NewOr (s : Nat) (v v' : Value) : Prop := v'.ownBlock = v.ownBlock ∨ ∃ b, v'.ownBlock = some b ∧ s ≤ b
theorem NewOr.apart {s : Nat} {u v v' : Value} (h : NewOr s v v') (ha : Apart u v) (hu : ∀ b, u.ownBlock = some b → b < s) : Apart u v' := by
  intro b hb e
  rcases h with h | ⟨c, h, hc⟩
  · exact ha b hb (by rw [← h]; exact e)
  · rw [h] at e
    injection e with e
    have := hu b hb
    omega
theorem NewOr.refl (s : Nat) (v : Value) : NewOr s v v := .inl rfl
theorem Apart.ne {u v : Value} (h : Apart u v) : u.ownBlock = none ∨ u.ownBlock ≠ v.ownBlock := by
  cases hb : u.ownBlock with
  | none => exact .inl rfl
  | some b => right; exact fun e => h b hb e.symm
theorem OInts.ltAll {w : World} {lo n : Nat} {v : Value} {xs : List Int} (h : OInts w lo v n xs) : ∀ b, v.ownBlock = some b → lo ≤ b ∧ b < w.heap.size := fun b hb => h.2.lt b hb
theorem OInts.apartOf {w : World} {lo n s m : Nat} {u v : Value} {xs ys : List Int} (hu : OInts w lo u n xs) (hv : OInts w s v m ys) (h : ∀ b, u.ownBlock = some b → b < s) : Apart u v := by
  intro b hb e
  have := (hv.ltAll b e).1
  have := h b hb
  omega
theorem OInts.far {w w' : World} {lo n : Nat} {u v : Value} {xs : List Int} (h : OInts w lo u n xs) (hg : w.grownBy w' v.ownBlock) (ha : Apart u v) : OInts w' lo u n xs := h.grown hg ha.ne
theorem grown_alloc (w : World) (o : Obj) (row : Option Nat) : w.grownBy (w.alloc o) row := by
  have h := (Below.refl w.heap.size w).alloc (Nat.le_refl _) o
  exact ⟨h.os, h.tape, h.output, h.size, fun k hk _ => h.block k hk⟩
theorem Below.far {B : Nat} {a w w' : World} {row : Option Nat} (h : Below B a w) (hg : w.grownBy w' row) (hB : B ≤ w.heap.size) (hr : ∀ b, row = some b → B ≤ b) : Below B a w' := h.grown hg hB hr

theorem wp_push_at {o : Oper} {a : Act} {K0 : Act → World → Prop} {Q : Exit → Act → World → Prop} (W : World) (y : Int) (s x : Operand)
    (ho : o.op = .call { callee := .builtin .append, args := #[s, x], argTypes := #[49, 49] })
    (lo : Nat) (v : Value) (n : Nat) (xs : List Int) (hs : a.eval s = v) (h : OInts W lo v n xs) (hn : n + 1 ≤ 1099511627776) (hlo : lo ≤ W.heap.size)
    (tb : Nat) (htb : tb = W.heap.size) (hx : a.eval x = .slice (some ⟨tb, 0, none⟩) 1 1)
    (K : ∀ v' w', OInts w' lo v' (n + 1) (xs ++ [y]) → W.grownBy w' v.ownBlock → NewOr W.heap.size v v' → K0 (a.put o.dst v') w') : o.wp Tryz.prog a (W.alloc (.cells #[.int .i64 y] 3)) K0 Q := by
  subst htb
  obtain ⟨i0, hi, hz0, hz1, hz2⟩ := info_int_parts
  obtain ⟨v', w', hr, h2, h3, _, h5⟩ := run_append_own_at (P := Tryz.prog) (W.alloc (.cells #[.int .i64 y] 3)) lo 49 o.type 3 i0 (.int .i64 0) 1 8 Tryz.underlying49 hi hz0 hz1 hz2 rfl (by decide) v n _ (h.alloc _).2 ⟨W.heap.size, 0, none⟩ 1 1 [.int .i64 y] rfl
    (cell_one_new _ _ _) (by intro u hu; simp at hu; subst hu; rfl) (by unfold maxLen; omega) (by omega) (by simp; omega)
  unfold Oper.wp execOp
  simp only [ho, resolve, invoke, builtin, Sem.run_bind, Sem.run_pure, Result.andThen_ok, List.map_toArray, List.map_cons, List.map_nil, hs, hx, hr]
  refine K v' w' ⟨hn, ?_⟩ ((grown_alloc W _ _).trans h3) ?_
  · rw [List.map_append]; exact h2
  · rcases h5 with h5 | h5
    · exact .inl h5
    · exact .inr ⟨_, h5, by simp⟩

theorem wpList_push_at {ops : Array Oper} {rest : List Oper} {o : Oper} {a : Act} {Q : Exit → Act → World → Prop} (W : World) (y : Int) (hgd : o.guard = none) (s x : Operand)
    (ho : o.op = .call { callee := .builtin .append, args := #[s, x], argTypes := #[49, 49] })
    (lo : Nat) (v : Value) (n : Nat) (xs : List Int) (hs : a.eval s = v) (h : OInts W lo v n xs) (hn : n + 1 ≤ 1099511627776) (hlo : lo ≤ W.heap.size)
    (tb : Nat) (htb : tb = W.heap.size) (hx : a.eval x = .slice (some ⟨tb, 0, none⟩) 1 1)
    (K : ∀ v' w', OInts w' lo v' (n + 1) (xs ++ [y]) → W.grownBy w' v.ownBlock → NewOr W.heap.size v v' → wpList Tryz.prog ops Q rest (a.put o.dst v') w') : wpList Tryz.prog ops Q (o :: rest) a (W.alloc (.cells #[.int .i64 y] 3)) := by
  refine wpList_plain hgd fun K' hK => ?_
  exact wp_push_at W y s x ho lo v n xs hs h hn hlo tb htb hx fun v' w' h1 h2 h3 => hK _ _ (K v' w' h1 h2 h3)
end Go.Proofs.YtdmpokanfnlbgaaGreatDoor

namespace Go.Proofs.YtdmpokanfnlbgaaGreatDoor
open Go.RowKit
set_option linter.all false
section
variable {α : Type} {A B M : List α} {x y Z : α} {i k n : Nat}
theorem at_mid (h : A.length = i) : (A ++ x :: B)[i]? = some x := by
  rw [List.getElem?_append_right (by omega), h, Nat.sub_self]; rfl
theorem set_mid (h : A.length = i) : (A ++ x :: B).set i y = A ++ y :: B := by
  rw [List.set_append_right _ _ (by omega), h, Nat.sub_self]; rfl
theorem fill_start (n : Nat) (M : List α) (Z : α) : M.take 0 ++ List.replicate (n - 0) Z = List.replicate n Z := by simp
theorem fill_open (hk : k < n) : M.take k ++ List.replicate (n - k) Z = M.take k ++ Z :: List.replicate (n - (k + 1)) Z := by
  rw [show n - k = (n - (k + 1)) + 1 from by omega, List.replicate_succ]
theorem fill_shut (hx : M[k]? = some x) : M.take k ++ x :: B = M.take (k + 1) ++ B := by
  obtain ⟨hk, rfl⟩ := List.getElem?_eq_some_iff.1 hx
  rw [List.take_succ_eq_append_getElem hk, List.append_assoc]
  rfl
theorem fill_end (hM : M.length = n) : M.take n ++ List.replicate (n - n) Z = M := by
  rw [← hM]; simp
theorem take_len (h : k ≤ M.length) : (M.take k).length = k := by simp; omega
theorem push_take (hx : M[k]? = some x) : M.take k ++ [x] = M.take (k + 1) := by
  obtain ⟨hk, rfl⟩ := List.getElem?_eq_some_iff.1 hx
  rw [List.take_succ_eq_append_getElem hk]
/-- One list as far as i, another from there on. -/
theorem mix_get {N : List α} (hM : i ≤ M.length) (hx : N[i]? = some x) : (M.take i ++ N.drop i)[i]? = some x := by
  rw [drop_of_get hx]; exact at_mid (take_len hM)
theorem mix_set {N : List α} (hx : N[i]? = some x) (hy : M[i]? = some y) : (M.take i ++ N.drop i).set i y = M.take (i + 1) ++ N.drop (i + 1) := by
  have hi := (List.getElem?_eq_some_iff.1 hy).1
  rw [drop_of_get hx, set_mid (take_len (by omega)), fill_shut hy]
theorem mix_end {N : List α} (hM : M.length = n) (hN : N.length = n) : M.take n ++ N.drop n = M := by
  rw [← hM, List.take_length, hM, ← hN, List.drop_length, List.append_nil]
theorem rep_push (k : Nat) (x : α) : List.replicate k x ++ [x] = List.replicate (k + 1) x := by
  rw [List.replicate_succ']
end
end Go.Proofs.YtdmpokanfnlbgaaGreatDoor

namespace Go.Proofs.YtdmpokanfnlbgaaGreatDoor
open Go.RowKit
set_option linter.all false
def oneRow (n i : Nat) : List Int := (List.replicate n 0).set i 1
def oneT (n : Nat) : List (List Int) := (List.range n).map (oneRow n)
theorem oneT_len (n : Nat) : (oneT n).length = n := by simp [oneT]
theorem oneT_get {n k : Nat} (h : k < n) : (oneT n)[k]? = some (oneRow n k) := by simp [oneT, h]
theorem oneRow_len (n k : Nat) : (oneRow n k).length = n := by simp [oneRow]
/-- A slice of slices of the call's own that is not empty lies at the head of a block. -/
theorem OIntss.head {w : World} {lo n : Nat} {v : Value} {xss : List (List Int)} (h : OIntss w lo v n xss) (hn : 0 < n) : ∃ g cap, v = .slice (some ⟨g, 0, none⟩) n cap := by
  obtain ⟨_, _, vs, ho, _⟩ := h
  rcases ho.2 with ⟨_, h0⟩ | ⟨g, cap, cur, e, _⟩
  · omega
  · exact ⟨g, cap, e⟩
theorem OInts.head {w : World} {lo n : Nat} {v : Value} {xs : List Int} (h : OInts w lo v n xs) (hn : 0 < n) : ∃ g cap, v = .slice (some ⟨g, 0, none⟩) n cap := by
  rcases h.2.2 with ⟨_, h0⟩ | ⟨g, cap, cur, e, _⟩
  · omega
  · exact ⟨g, cap, e⟩
end Go.Proofs.YtdmpokanfnlbgaaGreatDoor

namespace Go.Proofs.YtdmpokanfnlbgaaGreatDoor
open Go.RowKit
set_option linter.all false
theorem sizeOf_int (w : World) : (sizeOf 3).run Tryz.prog w = .ok 1 w := by
  obtain ⟨i, hi, _, hz, _⟩ := info_parts info_int
  simp [sizeOf, typeInfo, hi, hz]
theorem elem_ints : Tryz.prog.elem 49 = 3 := by kernel_rfl
theorem slice_to (a : Option Addr) (len cap j : Nat) (hj : j ≤ cap) (w : World) :
    (Instr.slice 49 (.slice a len cap) none (some (.int .i64 (j : Int))) none).run Tryz.prog w = .ok (.slice a j cap) w := by
  rw [run_slice_h (P := Tryz.prog) w 49 a len cap (by rw [elem_ints]; exact Tryz.underlying49) .i64 (j : Int) (by omega) (by omega), elem_ints, sizeOf_int]
  cases a <;> simp [sliced, Result.andThen, Addr.add]
theorem slice_from (a : Option Addr) (len cap j : Nat) (hj : j + 1 ≤ len) (w : World) :
    (Instr.slice 49 (.slice a len cap) (some (.int .i64 ((j : Int) + 1))) none none).run Tryz.prog w = .ok (.slice (if cap = j + 1 then a else a.map (·.add (j + 1))) (len - (j + 1)) (cap - (j + 1))) w := by
  rw [run_slice_l (P := Tryz.prog) w 49 a len cap (by rw [elem_ints]; exact Tryz.underlying49) .i64 ((j : Int) + 1) (by omega) (by omega), elem_ints, sizeOf_int]
  simp [sliced, Result.andThen, show ((j : Int) + 1).toNat = j + 1 from by omega]
end Go.Proofs.YtdmpokanfnlbgaaGreatDoor

namespace Go.Proofs.YtdmpokanfnlbgaaGreatDoor
open Go.RowKit
set_option linter.all false
def readInts (w : World) : Value → List Int
  | .slice (some a) n _ => (List.range n).map (fun i => match w.cell? (a.add i) with | some (.int _ x) => x | _ => 0)
  | _ => []
theorem readInts_is {w : World} {ao : Option Addr} {n cap : Nat} {xs : List Int} (h : Ints w ao n xs) : readInts w (.slice ao n cap) = xs := by
  obtain ⟨hn, _, hc⟩ := h
  subst hn
  cases ao with
  | none =>
    cases xs with
    | nil => rfl
    | cons x r =>
      obtain ⟨b, o, e, _⟩ := hc 0 (by simp)
      cases e
  | some a =>
    apply List.ext_getElem
    · simp [readInts]
    · intro i h1 h2
      obtain ⟨b, o, e, hcell⟩ := hc i h2
      injection e with e
      subst e
      simp [readInts, Addr.add_lit, hcell, List.getD, h2]
end Go.Proofs.YtdmpokanfnlbgaaGreatDoor

namespace Go.Proofs.YtdmpokanfnlbgaaGreatDoor
open Go.RowKit
set_option linter.all false
def marks (k : Int) (n : Nat) : List Int := (List.range n).map (fun i => k + (i : Nat))
theorem marks_len (k : Int) (n : Nat) : (marks k n).length = n := by simp [marks]
theorem marks_get {k : Int} {n i : Nat} (h : i < n) : (marks k n)[i]? = some (k + (i : Nat)) := by simp [marks, h]
def markT : Int → List (List Int) → List (List Int)
  | _, [] => []
  | k, r :: rs => marks k r.length :: markT (k + r.length) rs
def tot (xss : List (List Int)) : Int := (xss.map (fun r => (r.length : Int))).sum
theorem markT_len : ∀ (xss : List (List Int)) (k : Int), (markT k xss).length = xss.length
  | [], _ => rfl
  | r :: rs, k => by simp [markT, markT_len rs]
theorem tot_cons (r : List Int) (rs : List (List Int)) : tot (r :: rs) = r.length + tot rs := by simp [tot]
theorem tot_nonneg : ∀ (xss : List (List Int)), 0 ≤ tot xss
  | [] => by simp [tot]
  | r :: rs => by rw [tot_cons]; have := tot_nonneg rs; omega
theorem tot_rows {n : Nat} : ∀ {xss : List (List Int)}, (∀ r ∈ xss, r.length ≤ n) → tot xss ≤ (xss.length : Int) * n
  | [], _ => by simp [tot]
  | r :: rs, h => by
    have h1 := tot_rows (n := n) (xss := rs) (fun q hq => h q (List.mem_cons_of_mem _ hq))
    have h2 := h r (List.mem_cons_self ..)
    have e : (((r :: rs).length : Nat) : Int) * n = (rs.length : Int) * n + n := by rw [List.length_cons, Int.natCast_add, Int.add_mul]; omega
    rw [tot_cons, e]
    omega
theorem tot_take_succ {xss : List (List Int)} {i : Nat} {r : List Int} (h : xss[i]? = some r) : tot (xss.take (i + 1)) = tot (xss.take i) + r.length := by
  rw [← push_take h]
  simp [tot]
theorem tot_take_le {xss : List (List Int)} (i : Nat) : tot (xss.take i) ≤ tot xss := by
  have h : tot xss = tot (xss.take i) + tot (xss.drop i) := by
    simp only [tot, ← List.sum_append, ← List.map_append, List.take_append_drop]
  have := tot_nonneg (xss.drop i)
  omega
theorem markT_get : ∀ (xss : List (List Int)) (k : Int) (i : Nat) (r : List Int), xss[i]? = some r → (markT k xss)[i]? = some (marks (k + tot (xss.take i)) r.length)
  | [], _, _, _, h => by simp at h
  | q :: rs, k, 0, r, h => by
    simp at h
    subst h
    simp [markT, tot]
  | q :: rs, k, i + 1, r, h => by
    have := markT_get rs (k + q.length) i r (by simpa using h)
    simp only [markT, List.getElem?_cons_succ, List.take_succ_cons, tot_cons]
    rw [this, Int.add_assoc]

theorem only_setCell {a w : World} {g : Nat} (h : a.grownBy w (some g)) {p : Addr} (hp : p.block = g) (u : Value) : a.grownBy (w.setCell p u) (some g) :=
  ⟨h.os, h.tape, h.output, by simpa [World.setCell] using h.size, fun i hi hne => (Below.heap_setCell w p u i (by
    rintro rfl
    exact hne (by rw [hp]))).trans (h.block i hi hne)⟩

/-- Only blocks from lo to hi have changed. -/
structure Within (lo hi : Nat) (w w' : World) : Prop where
  os : w'.os = w.os
  tape : w'.tape = w.tape
  output : w'.output = w.output
  size : w.heap.size ≤ w'.heap.size
  block : ∀ k, k < w.heap.size → k < lo ∨ hi ≤ k → w'.heap[k]? = w.heap[k]?
theorem Within.refl (lo hi : Nat) (w : World) : Within lo hi w w := ⟨rfl, rfl, rfl, Nat.le_refl _, fun _ _ _ => rfl⟩
theorem Within.trans {lo hi : Nat} {a b c : World} (h : Within lo hi a b) (k : Within lo hi b c) : Within lo hi a c :=
  ⟨k.os.trans h.os, k.tape.trans h.tape, k.output.trans h.output, Nat.le_trans h.size k.size, fun i hi' ho => (k.block i (Nat.lt_of_lt_of_le hi' h.size) ho).trans (h.block i hi' ho)⟩
theorem Within.below {lo hi : Nat} {w w' : World} (h : Within lo hi w w') (hl : lo ≤ w.heap.size) : Below lo w w' :=
  ⟨h.os, h.tape, h.output, h.size, fun k hk => h.block k (by omega) (.inl hk)⟩
theorem Within.grown {lo hi : Nat} {w w' : World} {row : Option Nat} (h : w.grownBy w' row) (hr : ∀ b, row = some b → lo ≤ b ∧ b < hi) : Within lo hi w w' :=
  ⟨h.os, h.tape, h.output, h.size, fun k hk ho => h.block k hk (fun e => by have := hr k e.symm; omega)⟩
theorem Within.drewN {lo hi : Nat} {w w' : World} (h : Within lo hi w w') (n : Nat) : Within lo hi w (w'.drewN n) := ⟨h.os, h.tape, h.output, h.size, h.block⟩

theorem own_within {w w' : World} {lo lo' hi e size n : Nat} {v : Value} {xs : List Value} (h : w.ownsRow lo' e size v n xs) (hw : Within lo hi w w') (hl : hi ≤ lo') : w'.ownsRow lo' e size v n xs := by
  refine ⟨h.1, ?_⟩
  rcases h.2 with h2 | ⟨g, cap, cur, hv, hg, hh, r⟩
  · exact .inl h2
  · refine .inr ⟨g, cap, cur, hv, hg, ?_, r⟩
    rw [hw.block g (Array.getElem?_eq_some_iff.1 hh).1 (.inr (by omega))]; exact hh
theorem OInts.within {w w' : World} {lo lo' hi n : Nat} {v : Value} {xs : List Int} (h : OInts w lo' v n xs) (hw : Within lo hi w w') (hl : hi ≤ lo') : OInts w' lo' v n xs := ⟨h.1, own_within h.2 hw hl⟩
theorem OIntss.within {w w' : World} {lo lo' hi n : Nat} {v : Value} {xss : List (List Int)} (h : OIntss w lo' v n xss) (hw : Within lo hi w w') (hl : hi ≤ lo') : OIntss w' lo' v n xss := by
  obtain ⟨h1, h2, vs, ho, hr, hd⟩ := h
  exact ⟨h1, h2, vs, own_within ho hw hl, fun i u r hu hr' => (hr i u r hu hr').within hw hl, hd⟩

/-- A slice of the call's own, nil or at the head of a block. -/
theorem OInts.two {w : World} {lo n cap : Nat} {ao : Option Addr} {xs : List Int} (h : OInts w lo (.slice ao n cap) n xs) : (ao = none ∧ n = 0) ∨ ∃ g, ao = some ⟨g, 0, none⟩ := by
  rcases h.2.2 with ⟨e, hn⟩ | ⟨g, c, cur, e, _⟩
  · injection e with e1
    exact .inl ⟨e1, hn⟩
  · injection e with e1
    exact .inr ⟨g, e1⟩

/-- One row has been written by a callee. -/
theorem OIntss.written {w w' : World} {lo n : Nat} {v u : Value} {xss : List (List Int)} {k : Nat} {r r' : List Int} (h : OIntss w lo v n xss) (hk : xss[k]? = some r) {vs : List Value} (hvs : w.ownsRow lo 49 1 v n vs) (hu : vs[k]? = some u)
    (hr' : OInts w' lo u r'.length r') (hl : OInts w lo u r.length r) (hg : w.grownBy w' u.ownBlock) : OIntss w' lo v n (xss.set k r') := by
  obtain ⟨h1, h2, vs0, hv, hr, hd⟩ := h
  have e : vs = vs0 := by
    rcases hvs.2 with ⟨rfl, hn⟩ | ⟨g, cap, cur, rfl, _, hh, _, _, _, ht⟩
    · have l1 := hvs.1
      have l2 := hv.1
      rw [hn, Nat.zero_mul] at l1 l2
      rw [List.eq_nil_of_length_eq_zero l1, List.eq_nil_of_length_eq_zero l2]
    · rcases hv.2 with ⟨e, _⟩ | ⟨g', cap', cur', e, _, hh', _, _, _, ht'⟩
      · simp at e
      · simp only [Value.slice.injEq, Option.some.injEq, Addr.mk.injEq, and_true, true_and] at e
        obtain ⟨rfl, rfl⟩ := e
        rw [hh] at hh'
        simp at hh'
        subst hh'
        rw [← ht, ← ht']
  subst e
  refine ⟨h1, by simpa using h2, vs, ?_, ?_, hd⟩
  · refine hv.kept hg ?_
    rcases own_int_ne hl hv with e | e
    · cases hb : v.ownBlock with
      | none => exact .inl rfl
      | some b => right; rw [e]; simp
    · cases hb : v.ownBlock with
      | none => exact .inl rfl
      | some b => right; rw [← hb]; exact fun e2 => e e2.symm
  · intro i u' q hu' hq
    rw [List.getElem?_set] at hq
    by_cases e : k = i
    · subst e
      rw [hu] at hu'
      injection hu' with hu'
      subst hu'
      rw [if_pos rfl] at hq
      split at hq
      · injection hq with hq
        subst hq
        exact hr'
      · cases hq
    · rw [if_neg e] at hq
      have h3 := hr i u' q hu' hq
      exact h3.grown hg (hd i k u' u (by omega) hu' hu)
/-- The rows' values, each with its cell. -/
theorem OIntss.rows {w : World} {lo g n cap : Nat} {xss : List (List Int)} (h : OIntss w lo (.slice (some ⟨g, 0, none⟩) n cap) n xss) {k : Nat} {r : List Int} (hk : xss[k]? = some r) :
    ∃ vs ai ci, w.ownsRow lo 49 1 (.slice (some ⟨g, 0, none⟩) n cap) n vs ∧ vs[k]? = some (.slice ai r.length ci) ∧ w.cell? ⟨g, k, none⟩ = some (.slice ai r.length ci) ∧ OInts w lo (.slice ai r.length ci) r.length r := by
  obtain ⟨h1, h2, vs, hv, hr, hd⟩ := h
  have hvl : vs.length = n := by simpa using hv.1
  have hkn : k < n := by rw [← h2]; exact (List.getElem?_eq_some_iff.1 hk).1
  have h3 : vs[k]? = some vs[k] := List.getElem?_eq_getElem (by omega)
  have ho := hr k _ r h3 hk
  obtain ⟨ai, ci, e, _⟩ := ho.form
  have h4 := hv.cells (g := g) rfl k _ h3
  rw [Addr.add_lit] at h4
  rw [e] at h3 h4 ho
  exact ⟨vs, ai, ci, hv, h3, by simpa using h4, ho⟩
end Go.Proofs.YtdmpokanfnlbgaaGreatDoor

namespace Go.Proofs.YtdmpokanfnlbgaaGreatDoor
open Go.RowKit
set_option linter.all false
structure Since (lo hi : Nat) (w w' : World) : Prop where
  size : w.heap.size ≤ w'.heap.size
  block : ∀ k, lo ≤ k → k < hi → w'.heap[k]? = w.heap[k]?
theorem Since.refl (lo hi : Nat) (w : World) : Since lo hi w w := ⟨Nat.le_refl _, fun _ _ _ => rfl⟩
theorem Since.below {lo hi : Nat} {a b c : World} (h : Since lo hi a b) (k : Below b.heap.size b c) (hs : hi ≤ b.heap.size) : Since lo hi a c :=
  ⟨Nat.le_trans h.size k.size, fun i h1 h2 => (k.block i (by omega)).trans (h.block i h1 h2)⟩
theorem Since.older {lo hi l r : Nat} {a b c : World} (h : Since lo hi a b) (k : Within l r b c) (hl : hi ≤ l) (hs : hi ≤ b.heap.size) : Since lo hi a c :=
  ⟨Nat.le_trans h.size k.size, fun i h1 h2 => (k.block i (by omega) (.inl (by omega))).trans (h.block i h1 h2)⟩
theorem Since.newer {lo hi l r : Nat} {a b c : World} (h : Since lo hi a b) (k : Within l r b c) (hl : r ≤ lo) (hs : hi ≤ b.heap.size) : Since lo hi a c :=
  ⟨Nat.le_trans h.size k.size, fun i h1 h2 => (k.block i (by omega) (.inr (by omega))).trans (h.block i h1 h2)⟩
theorem own_since {w w' : World} {lo e size n : Nat} {v : Value} {xs : List Value} (h : w.ownsRow lo e size v n xs) (hw : Since lo w.heap.size w w') : w'.ownsRow lo e size v n xs := by
  refine ⟨h.1, ?_⟩
  rcases h.2 with h2 | ⟨g, cap, cur, hv, hg, hh, r⟩
  · exact .inl h2
  · refine .inr ⟨g, cap, cur, hv, hg, ?_, r⟩
    rw [hw.block g hg (Array.getElem?_eq_some_iff.1 hh).1]; exact hh
theorem OInts.since {w w' : World} {lo n : Nat} {v : Value} {xs : List Int} (h : OInts w lo v n xs) (hw : Since lo w.heap.size w w') : OInts w' lo v n xs := ⟨h.1, own_since h.2 hw⟩
theorem OIntss.since {w w' : World} {lo n : Nat} {v : Value} {xss : List (List Int)} (h : OIntss w lo v n xss) (hw : Since lo w.heap.size w w') : OIntss w' lo v n xss := by
  obtain ⟨h1, h2, vs, ho, hr, hd⟩ := h
  exact ⟨h1, h2, vs, own_since ho hw, fun i u r hu hr' => (hr i u r hu hr').since hw, hd⟩
theorem OInts.read {w : World} {lo n cap : Nat} {ao : Option Addr} {xs : List Int} (h : OInts w lo (.slice ao n cap) n xs) : Ints w ao n xs := by
  obtain ⟨ao', cap', e, hi⟩ := h.form
  injection e with e1
  subst e1
  exact hi
theorem OIntss.read {w : World} {lo n cap : Nat} {ao : Option Addr} {xss : List (List Int)} (h : OIntss w lo (.slice ao n cap) n xss) : Intss w ao n xss := by
  obtain ⟨ao', cap', e, hi⟩ := h.form
  injection e with e1
  subst e1
  exact hi
theorem Below.past {a b c : World} {l r : Nat} (h : Below a.heap.size a b) (k : Within l r b c) (h1 : l ≤ b.heap.size) (h2 : a.heap.size ≤ l) : Below a.heap.size a c :=
  h.trans ((k.below h1).mono h2)
end Go.Proofs.YtdmpokanfnlbgaaGreatDoor

namespace Go.Proofs.YtdmpokanfnlbgaaGreatDoor
open Go.RowKit
set_option linter.all false
/-- x lies from lo to hi. -/
def inR (x lo hi : Int) : Bool := decide (lo ≤ x) && decide (x ≤ hi)
theorem inR_true {x lo hi : Int} (h : inR x lo hi = true) : lo ≤ x ∧ x ≤ hi := by simpa [inR] using h
theorem inR_mk {x lo hi : Int} (h : lo ≤ x ∧ x ≤ hi) : inR x lo hi = true := by simpa [inR] using h
theorem inR_false {x lo hi : Int} (h : inR x lo hi = false) : x < lo ∨ hi < x := by
  rcases Int.lt_or_le x lo with h1 | h1
  · exact .inl h1
  · rcases Int.lt_or_le hi x with h2 | h2
    · exact .inr h2
    · rw [inR_mk ⟨h1, h2⟩] at h; cases h
theorem inR_no {x lo hi : Int} (h : x < lo ∨ hi < x) : inR x lo hi = false := by
  cases hb : inR x lo hi with
  | false => rfl
  | true => have := inR_true hb; omega

set_option maxHeartbeats 400000 in
theorem l1In_any (x lo hi : Int) (w : World) :
    Calls Tryz.prog 33 #[.int .i64 x, .int .i64 lo, .int .i64 hi] w fun e w' => e = .returned (.bool (inR x lo hi)) ∧ w = w' := by
  by_cases h : lo ≤ x
  · have h1 : decide (lo ≤ x) = true := by simpa using h
    have H : Hid (inR x lo hi = decide (x ≤ hi)) := by show inR x lo hi = _; simp [inR, h]
    go_enter Tryz.func33, Tryz.ntmps33
    go_wp2
    go_ret
    exact ⟨ret_bool H.out.symm, rfl⟩
  · have h1 : decide (lo ≤ x) = false := by simpa using h
    have H : Hid (inR x lo hi = false) := by show inR x lo hi = _; simp [inR, h]
    go_enter Tryz.func33, Tryz.ntmps33
    go_wp2
    go_ret
    exact ⟨ret_bool H.out.symm, rfl⟩
end Go.Proofs.YtdmpokanfnlbgaaGreatDoor

namespace Go.Proofs.YtdmpokanfnlbgaaGreatDoor
open Go.RowKit
set_option linter.all false
theorem wrap_id {a : Int} (h : -9223372036854775808 ≤ a ∧ a ≤ 9223372036854775807) : wrap64 a = a := by unfold wrap64; omega
def allIn (lo hi : Int) (xs : List Int) : Bool := xs.all (fun x => inR x lo hi)
def tabIn (n : Nat) (lo hi : Int) (xss : List (List Int)) : Bool := xss.all (fun r => decide (r.length = n) && allIn lo hi r)
def isMat (xss : List (List Int)) : Bool := tabIn xss.length 0 1000000 xss && inR xss.length 1 9

theorem allIn_step {lo hi : Int} {xs : List Int} {k : Nat} {x : Int} {b : Bool} (hk : xs[k]? = some x) (h : allIn lo hi (xs.drop k) = b) :
    (inR x lo hi = true → allIn lo hi (xs.drop (k + 1)) = b) ∧ (inR x lo hi = false → b = false) := by
  rw [drop_of_get hk] at h
  generalize List.drop (k + 1) xs = r at *
  constructor
  · intro e; simpa [allIn, e] using h
  · intro e; simpa [allIn, e] using h.symm

theorem tabIn_step {n : Nat} {lo hi : Int} {xss : List (List Int)} {k : Nat} {r : List Int} {b : Bool} (hk : xss[k]? = some r) (h : tabIn n lo hi (xss.drop k) = b) :
    (r.length ≠ n → b = false) ∧ (allIn lo hi r = false → b = false) ∧ (r.length = n → allIn lo hi r = true → tabIn n lo hi (xss.drop (k + 1)) = b) := by
  rw [drop_of_get hk] at h
  generalize List.drop (k + 1) xss = q at *
  refine ⟨fun e => ?_, fun e => ?_, fun e1 e2 => ?_⟩
  · simpa [tabIn, e] using h.symm
  · simpa [tabIn, e] using h.symm
  · simpa [tabIn, e1, e2] using h

theorem allIn_get {lo hi : Int} {xs : List Int} (h : allIn lo hi xs = true) {k : Nat} {x : Int} (hk : xs[k]? = some x) : lo ≤ x ∧ x ≤ hi := by
  simp only [allIn, List.all_eq_true] at h
  exact inR_true (h x (List.mem_of_getElem? hk))
theorem tabIn_get {n : Nat} {lo hi : Int} {xss : List (List Int)} (h : tabIn n lo hi xss = true) {k : Nat} {r : List Int} (hk : xss[k]? = some r) : r.length = n ∧ allIn lo hi r = true := by
  simp only [tabIn, List.all_eq_true] at h
  simpa using h r (List.mem_of_getElem? hk)
theorem isMat_len {xss : List (List Int)} (h : isMat xss = true) : 1 ≤ xss.length ∧ xss.length ≤ 9 := by
  simp only [isMat, Bool.and_eq_true] at h
  have := inR_true h.2
  omega
theorem isMat_row {xss : List (List Int)} (h : isMat xss = true) {k : Nat} {r : List Int} (hk : xss[k]? = some r) : r.length = xss.length ∧ allIn 0 1000000 r = true := by
  simp only [isMat, Bool.and_eq_true] at h
  exact tabIn_get h.1 hk
end Go.Proofs.YtdmpokanfnlbgaaGreatDoor

namespace Go.Proofs.YtdmpokanfnlbgaaGreatDoor
open Go.RowKit
set_option linter.all false
def wdot : Int → List Int → List Int → Int
  | a, x :: r, y :: v => wdot (wrap64 (a + wrap64 (x * y))) r v
  | a, _, _ => a
theorem wdot_step {r v : List Int} {j : Nat} {x y a b : Int} (hx : r[j]? = some x) (hy : v[j]? = some y) (h : wdot a (r.drop j) (v.drop j) = b) :
    wdot (wrap64 (a + wrap64 (x * y))) (r.drop (j + 1)) (v.drop (j + 1)) = b := by
  rw [drop_of_get hx, drop_of_get hy] at h
  exact h
theorem wdot_end {r v : List Int} {j : Nat} {a b : Int} (hx : r.length ≤ j) (h : wdot a (r.drop j) (v.drop j) = b) : a = b := by
  rw [drop_all r j hx] at h
  exact h
end Go.Proofs.YtdmpokanfnlbgaaGreatDoor

namespace Go.Proofs.YtdmpokanfnlbgaaGreatDoor
open Go.RowKit
set_option linter.all false
open Go.ChangeShapes Go.WideShapes Go.ChangeAt
theorem ownKnobNone : ownKnob Tryz.prog.godebug = none := by kernel_rfl
theorem laidOutYes : laidOutB Tryz.prog = true := by kernel_rfl

/-- A slice of ints that came in: it reads as the list xs, each number an int. -/
def IntsIn (w : World) (ao : Option Addr) (n : Nat) (xs : List Int) : Prop :=
  xs.length = n ∧ (∀ i, i < xs.length → ∃ b o, ao = some ⟨b, o, none⟩ ∧ w.cell? ⟨b, o + i, none⟩ = some (.int .i64 (xs.getD i 0))) ∧ ∀ x ∈ xs, (Lit.int .i64 x).wf = true

theorem IntsIn.ints {w : World} {ao : Option Addr} {n : Nat} {xs : List Int} (h : IntsIn w ao n xs) (hn : n ≤ 1099511627776) : Ints w ao n xs := ⟨h.1, hn, h.2.1⟩

theorem cell_plain {w : World} {x : Addr} {i : Nat} {v u : Value} (h0 : w.cell? (x.add 0) = some u) (h : w.cell? (x.add i) = some v) : ∃ b o, x = ⟨b, o, none⟩ ∧ w.cell? ⟨b, o + i, none⟩ = some v := by
  obtain ⟨b, off, spot⟩ := x
  have hs : spot = none := by simpa [Addr.add] using World.cell?_spot h0
  subst hs
  rw [Addr.add_lit] at h
  exact ⟨b, off, rfl, h⟩

theorem open_intsIn {H : Type} {enc : TypeId × Value → H} {W : World} {base : Nat} {held : Bool} {ao : Option Addr} {n cap : Nat} {d : DataW H} {p : List MemPlace}
    (h : DataW.Trod enc Tryz.prog W base (fun _ => true) held 49 (.slice ao n cap) d p) : ∃ xs, IntsIn W ao n xs := by
  obtain ⟨fuel, hf⟩ := h
  rcases open_ints Tryz.underlying49 Tryz.underlying3 (by kernel_rfl) hf with ⟨hcs, _⟩ | ⟨x, l, c, zs, hcs, _, hl, hm, hz, _, hcell, hwz⟩
  · simp [Value.cells] at hcs
    obtain ⟨rfl, rfl, rfl⟩ := hcs
    exact ⟨[], rfl, fun i hi => by simp at hi, by simp⟩
  · simp [Value.cells] at hcs
    obtain ⟨rfl, rfl, rfl⟩ := hcs
    have hz' : zs.length = cap := by simpa using hz
    refine ⟨zs.take n, by simp; omega, fun i hi => ?_, fun x hx => hwz x (List.mem_of_mem_take hx)⟩
    have hi' : i < n := by simp at hi; omega
    obtain ⟨b, o, rfl, hc⟩ := cell_plain (hcell 0 (by omega)) (hcell i (by omega))
    refine ⟨b, o, rfl, ?_⟩
    rw [hc]
    congr 2
    simp [List.getD, List.getElem?_take, hi']
end Go.Proofs.YtdmpokanfnlbgaaGreatDoor

namespace Go.Proofs.YtdmpokanfnlbgaaGreatDoor
open Go.RowKit
set_option linter.all false
open Go.ChangeShapes Go.WideShapes Go.ChangeAt
/-- A slice of slices of ints that came in: it reads as the list xss of lists. -/
def IntssIn (w : World) (ao : Option Addr) (n : Nat) (xss : List (List Int)) : Prop :=
  xss.length = n ∧ n ≤ 9223372036854775807 ∧ ∀ i r, xss[i]? = some r → ∃ b o ai ci, ao = some ⟨b, o, none⟩ ∧ w.cell? ⟨b, o + i, none⟩ = some (.slice ai r.length ci) ∧ r.length ≤ 9223372036854775807 ∧ IntsIn w ai r.length r ∧ r.length ≤ ci

theorem IntssIn.at_ {w : World} {ao : Option Addr} {n k : Nat} {xss : List (List Int)} (h : IntssIn w ao n xss) (hk : k < n) :
    ∃ b o ai ci r, ao = some ⟨b, o, none⟩ ∧ w.cell? ⟨b, o + k, none⟩ = some (.slice ai r.length ci) ∧ r.length ≤ 9223372036854775807 ∧ Hid (xss[k]? = some r) := by
  have hl : k < xss.length := by rw [h.1]; exact hk
  obtain ⟨b, o, ai, ci, e, hc, hr, _⟩ := h.2.2 k xss[k] (List.getElem?_eq_getElem hl)
  exact ⟨b, o, ai, ci, _, e, hc, hr, List.getElem?_eq_getElem hl⟩

theorem IntssIn.intss {w : World} {ao : Option Addr} {n : Nat} {xss : List (List Int)} (h : IntssIn w ao n xss) (hn : n ≤ 1099511627776) (hr : ∀ r ∈ xss, r.length ≤ 1099511627776) : Intss w ao n xss := by
  refine ⟨h.1, hn, fun i r hi => ?_⟩
  obtain ⟨b, o, ai, ci, e, hc, _, hin, hl⟩ := h.2.2 i r hi
  exact ⟨b, o, ai, ci, e, hc, hin.ints (hr r (List.mem_of_getElem? hi)), hl⟩

theorem open_intssIn {H : Type} {enc : TypeId × Value → H} {W : World} {base : Nat} {held : Bool} {ao : Option Addr} {n cap : Nat} {d : DataW H} {p : List MemPlace}
    (h : DataW.Trod enc Tryz.prog W base (fun _ => true) held 24 (.slice ao n cap) d p) : ∃ xss, IntssIn W ao n xss := by
  obtain ⟨fuel, hf⟩ := h
  rcases Go.Deep.open_int_rows Tryz.underlying24 Tryz.underlying49 Tryz.underlying3 (by kernel_rfl) (by kernel_rfl) hf with ⟨hcs, _⟩ | ⟨x, l, c, A, L, C, Z, hcs, _, hl, hm, _, hrow⟩
  · simp [Value.cells] at hcs
    obtain ⟨rfl, rfl, rfl⟩ := hcs
    exact ⟨[], rfl, by omega, fun i r hi => by simp at hi⟩
  · simp [Value.cells] at hcs
    obtain ⟨rfl, rfl, rfl⟩ := hcs
    unfold maxLen at hm
    refine ⟨(List.range n).map fun r => (Z r).take (L r), by simp, by omega, fun i r hi => ?_⟩
    have hin : i < n := by simpa using (List.getElem?_eq_some_iff.1 hi).1
    have hr : r = (Z i).take (L i) := by simpa [hin, eq_comm] using hi
    subst hr
    obtain ⟨hc, h1, h2, h3, h4, h5, h6⟩ := hrow i (by omega)
    obtain ⟨hc0, _⟩ := hrow 0 (by omega)
    unfold maxLen at h2
    obtain ⟨b, o, rfl, hc'⟩ := cell_plain hc0 hc
    have hlen : ((Z i).take (L i)).length = L i := by simp; omega
    rw [hlen]
    refine ⟨b, o, A i, C i, rfl, hc', by omega, ⟨hlen, fun j hj => ?_, fun y hy => h4 y (List.mem_of_mem_take hy)⟩, h1⟩
    have hj' : j < L i := by omega
    cases ha : A i with
    | none => have := h5 ha; omega
    | some a' =>
      obtain ⟨_, hcell⟩ := h6 a' ha
      obtain ⟨b', o', rfl, hc2⟩ := cell_plain (hcell 0 (by omega)) (hcell j (by omega))
      refine ⟨b', o', rfl, ?_⟩
      rw [hc2]
      congr 2
      simp [List.getD, List.getElem?_take, hj']
end Go.Proofs.YtdmpokanfnlbgaaGreatDoor

namespace Go.Proofs.YtdmpokanfnlbgaaGreatDoor
open Go.RowKit
set_option linter.all false
set_option maxHeartbeats 400000 in
theorem sameInts_any (ao : Option Addr) (n cap : Nat) (xs : List Int) (ao' : Option Addr) (n' cap' : Nat) (ys : List Int) (w : World) (h : Ints w ao n xs) (h' : Ints w ao' n' ys) :
    Calls Tryz.prog 46 #[.slice ao n cap, .slice ao' n' cap'] w fun e w' => e = .returned (.bool (eqL xs ys)) ∧ Drew w w' := by
  obtain ⟨hn, hm, hc⟩ := h
  obtain ⟨hn', hm', hc'⟩ := h'
  subst hn
  subst hn'
  by_cases hl : xs.length = ys.length
  · have HL := Lib.hid hl
    have hl1 : ((xs.length : Int) != (ys.length : Int)) = false := by simp [hl]
    clear hl
    go_enter Tryz.func46, Tryz.ntmps46
    go_wp2
    go_loopw [5] (fun i wr => ∃ k : Nat, k ≤ xs.length ∧ i = .int .i64 k ∧ Drew w wr ∧ Hid (eqL (xs.drop k) (ys.drop k) = eqL xs ys)) (fun i _ => xs.length - (intOf i).toNat)
    case atStart => exact ⟨0, Nat.zero_le _, rfl, Drew.refl w, rfl⟩
    case round =>
      obtain ⟨k, hk, rfl, ⟨m, rfl⟩, hr⟩ := hrel
      by_cases hlt : k < xs.length
      · have hlt' : k < ys.length := by have := HL.out; omega
        obtain ⟨b, o, rfl, hcell⟩ := hc k hlt
        obtain ⟨b', o', rfl, hcell'⟩ := hc' k hlt'
        clear hc hc'
        have hst := eqL_step hlt hlt' hr.out
        have Hst := Lib.hid hst
        clear hst
        by_cases he : xs[k] = ys[k]
        · have he1 : (xs[k] != ys[k]) = false := by simp [he]
          have hr1 : Hid _ := Hst.out.1 he
          clear he Hst hr
          go_wp2_with fail
          go_quiet (fail)
          go_wp2
          go_roundw
          case rel => exact ⟨k + 1, hlt, by go_num, (by first | exact Drew.refl _ | exact Drew.mk _ _ | exact (Drew.mk _ _).drewN _), hr1⟩
          case measure => simp [intOf]; omega
        · have he1 : (xs[k] != ys[k]) = true := by simp [he]
          have hr1 : Hid _ := Hst.out.2 he
          clear he Hst hr
          go_wp2_with fail
          go_quiet (fail)
          go_wp2
          go_ret
          exact ⟨ret_bool hr1.out.symm, (by first | exact Drew.refl _ | exact Drew.mk _ _ | exact (Drew.mk _ _).drewN _)⟩
      · go_wp2
        go_ret
        rw [eqL_nil (by omega) (by have := HL.out; omega)] at hr
        exact ⟨ret_bool hr.out, (by first | exact Drew.refl _ | exact Drew.mk _ _ | exact (Drew.mk _ _).drewN _)⟩
  · have hl1 : ((xs.length : Int) != (ys.length : Int)) = true := by simp; omega
    have HL : Hid _ := eqL_len hl
    clear hl
    go_enter Tryz.func46, Tryz.ntmps46
    go_wp2
    go_ret
    exact ⟨ret_bool HL.out.symm, Drew.refl w⟩
end Go.Proofs.YtdmpokanfnlbgaaGreatDoor

namespace Go.Proofs.YtdmpokanfnlbgaaGreatDoor
open Go.RowKit
set_option linter.all false
theorem eqL_step3 {α : Type} [DecidableEq α] {xs ys : List α} {k : Nat} {x y : α} (hx : xs[k]? = some x) (hy : ys[k]? = some y) {b : Bool} (h : eqL (xs.drop k) (ys.drop k) = b) :
    (x = y → eqL (xs.drop (k + 1)) (ys.drop (k + 1)) = b) ∧ (x ≠ y → b = false) := by
  obtain ⟨h1, rfl⟩ := List.getElem?_eq_some_iff.1 hx
  obtain ⟨h2, rfl⟩ := List.getElem?_eq_some_iff.1 hy
  exact eqL_step h1 h2 h

set_option maxHeartbeats 800000 in
theorem sameLists_any (ao : Option Addr) (n cap : Nat) (xs : List (List Int)) (ao' : Option Addr) (n' cap' : Nat) (ys : List (List Int)) (w : World) (h : Intss w ao n xs) (h' : Intss w ao' n' ys) :
    Calls Tryz.prog 19 #[.slice ao n cap, .slice ao' n' cap'] w fun e w' => e = .returned (.bool (eqL xs ys)) ∧ Drew w w' := by
  have hm := h.2.1
  have hm' := h'.2.1
  have HX := Lib.hid h.1
  have HY := Lib.hid h'.1
  by_cases hl : n = n'
  · subst hl
    have hl1 : ((n : Int) != (n : Int)) = false := by simp
    have H := Lib.hid h
    have H' := Lib.hid h'
    clear h h'
    go_enter Tryz.func19, Tryz.ntmps19
    go_wp2
    go_loopw [5] (fun i wr => ∃ k : Nat, k ≤ n ∧ i = .int .i64 k ∧ Drew w wr ∧ Hid (eqL (xs.drop k) (ys.drop k) = eqL xs ys)) (fun i _ => n - (intOf i).toNat)
    case atStart => exact ⟨0, Nat.zero_le _, rfl, Drew.refl w, rfl⟩
    case round =>
      obtain ⟨k, hk, rfl, ⟨m, rfl⟩, hr⟩ := hrel
      by_cases hlt : k < n
      · obtain ⟨b, o, ai, ci, r, rfl, hcell, hrow, hget⟩ := H.out.at_ hlt
        obtain ⟨b', o', ai', ci', r', rfl, hcell', hrow', hget'⟩ := H'.out.at_ hlt
        clear H H'
        have Hst := Lib.hid (eqL_step3 hget.out hget'.out hr.out)
        have Hr := Lib.hid hrow
        have Hr' := Lib.hid hrow'
        clear hrow hrow' hr
        by_cases he : r = r'
        · have he1 : eqL r r' = true := eqL_true he
          have hr1 : Hid _ := Hst.out.1 he
          clear he Hst
          go_wp2_with fail
          go_quiet ((go_at_call 46; exact quiet_Da (sameInts_any _ _ _ r _ _ _ r' _ Hr.out Hr'.out)))
          go_wp2
          go_roundw
          case rel => exact ⟨k + 1, hlt, by go_num, (by first | exact Drew.refl _ | exact Drew.mk _ _ | exact (Drew.mk _ _).drewN _), hr1⟩
          case measure => simp [intOf]; omega
        · have he1 : eqL r r' = false := eqL_false he
          have hr1 : Hid _ := Hst.out.2 he
          clear he Hst
          go_wp2_with fail
          go_quiet ((go_at_call 46; exact quiet_Da (sameInts_any _ _ _ r _ _ _ r' _ Hr.out Hr'.out)))
          go_wp2
          go_ret
          exact ⟨ret_bool hr1.out.symm, (by first | exact Drew.refl _ | exact Drew.mk _ _ | exact (Drew.mk _ _).drewN _)⟩
      · go_wp2
        go_ret
        rw [eqL_nil (by have := HX.out; omega) (by have := HY.out; omega)] at hr
        exact ⟨ret_bool hr.out, (by first | exact Drew.refl _ | exact Drew.mk _ _ | exact (Drew.mk _ _).drewN _)⟩
  · have hl1 : ((n : Int) != (n' : Int)) = true := by simp; omega
    have HL : Hid _ := eqL_len (xs := xs) (ys := ys) (by have := HX.out; have := HY.out; omega)
    clear hl h h'
    go_enter Tryz.func19, Tryz.ntmps19
    go_wp2
    go_ret
    exact ⟨ret_bool HL.out.symm, Drew.refl w⟩
end Go.Proofs.YtdmpokanfnlbgaaGreatDoor

namespace Go.Proofs.YtdmpokanfnlbgaaGreatDoor
open Go.RowKit
set_option linter.all false
theorem lBig_no (ao : Option Addr) (n c : Nat) (w : World) (h : n ≤ 1048576) : Calls Tryz.prog 4 #[.slice ao n c] w fun e w' => e = .returned (.bool false) ∧ w = w' := by
  have hd : decide ((1048576 : Int) < (n : Int)) = false := decide_eq_false (by omega)
  go_enter Tryz.func4, Tryz.ntmps4
  go_wp2_with fail
  go_ret
  exact ⟨rfl, rfl⟩
theorem lBig_yes (ao : Option Addr) (n c : Nat) (w : World) (h : 1048576 < n) : Calls Tryz.prog 4 #[.slice ao n c] w fun e w' => e = .returned (.bool true) ∧ w = w' := by
  have hd : decide ((1048576 : Int) < (n : Int)) = true := decide_eq_true (by omega)
  go_enter Tryz.func4, Tryz.ntmps4
  go_wp2_with fail
  go_ret
  exact ⟨rfl, rfl⟩
end Go.Proofs.YtdmpokanfnlbgaaGreatDoor

namespace Go.Proofs.YtdmpokanfnlbgaaGreatDoor
open Go.RowKit
set_option linter.all false
open Go.ChangeShapes Go.WideShapes Go.ChangeAt
/-- A slice of bytes that came in: it reads as the list xs. -/
def BytesIn (w : World) (ao : Option Addr) (n : Nat) (xs : List Int) : Prop :=
  xs.length = n ∧ (∀ i, i < xs.length → ∃ b o, ao = some ⟨b, o, none⟩ ∧ w.cell? ⟨b, o + i, none⟩ = some (.int .u8 (xs.getD i 0))) ∧ ∀ x ∈ xs, 0 ≤ x ∧ x ≤ 255
theorem BytesIn.cells {w : World} {ao : Option Addr} {n : Nat} {xs : List Int} (h : BytesIn w ao n xs) : ∀ i, i < n → ∃ b o x, ao = some ⟨b, o, none⟩ ∧ w.cell? ⟨b, o + i, none⟩ = some (.int .u8 x) ∧ 0 ≤ x ∧ x ≤ 255 := by
  intro i hi
  have hl : i < xs.length := by rw [h.1]; exact hi
  obtain ⟨b, o, e, hc⟩ := h.2.1 i hl
  exact ⟨b, o, _, e, hc, h.2.2 _ (List.mem_of_getElem? (show xs[i]? = some (xs.getD i 0) by simp [List.getD, hl]))⟩
theorem open_bytesIn {H : Type} {enc : TypeId × Value → H} {W : World} {base : Nat} {held : Bool} {ao : Option Addr} {n cap : Nat} {d : DataW H} {p : List MemPlace}
    (h : DataW.Trod enc Tryz.prog W base (fun _ => true) held 22 (.slice ao n cap) d p) : ∃ xs, BytesIn W ao n xs := by
  obtain ⟨fuel, hf⟩ := h
  rcases open_ints Tryz.underlying22 Tryz.underlying5 (by kernel_rfl) hf with ⟨hcs, _⟩ | ⟨x, l, c, zs, hcs, _, hl, hm, hz, _, hcell, hwz⟩
  · simp [Value.cells] at hcs
    obtain ⟨rfl, rfl, rfl⟩ := hcs
    exact ⟨[], rfl, fun i hi => by simp at hi, by simp⟩
  · simp [Value.cells] at hcs
    obtain ⟨rfl, rfl, rfl⟩ := hcs
    have hz' : zs.length = cap := by simpa using hz
    refine ⟨zs.take n, by simp; omega, fun i hi => ?_, fun x hx => ?_⟩
    · have hi' : i < n := by simp at hi; omega
      obtain ⟨b, o, rfl, hc⟩ := cell_plain (hcell 0 (by omega)) (hcell i (by omega))
      refine ⟨b, o, rfl, ?_⟩
      rw [hc]
      congr 2
      simp [List.getD, List.getElem?_take, hi']
    · have hw := hwz x (List.mem_of_mem_take hx)
      exact bounds_u8 hw
end Go.Proofs.YtdmpokanfnlbgaaGreatDoor

namespace Go.Proofs.YtdmpokanfnlbgaaGreatDoor
open Go.RowKit
set_option linter.all false
/- The wrap of a row that lists variables, the world's shape handed on. -/
section
variable {H : Type} {enc : TypeId × Value → H}
theorem returnsInHanded_door {a : Assume} {C : Checked} {os : Os} {f : FuncId} {fn : Func} {s : ChangeSpec} {conds : List PathCond} {apart fresh handsOn again : Bool} {X : World → Array Value → Prop}
    (hX : ∀ (w w' : World) (args : Array Value), w.heap = w'.heap → X w args → X w' args)
    (own : ownKnob C.prog.godebug = none) (started : os.Started) (noInit : C.prog.inits.idxOf? f = none) (hfn : C.prog.funcs[f]? = some fn)
    (witness : ∃ (w : World) (tape : Tape) (i : Input), w.os = os ∧ (w.forCall tape i).Shaped C.prog ∧ i.vars = [] ∧ Input.okWide C.prog (w.forCall tape i) .any w.heap.size f i ∧
      ((s.pre enc C.prog fn conds apart (w.forCall tape i).memory i.args ∧ X (w.forCall tape i).memory i.args) ∧ sizedMet enc C.prog fn (OpenSpec.ofChange s) apart (w.forCall tape i).memory i.args) ∧ a.holds C.prog (lone (Frame.enter C.prog f i.args .normal) [] (w.forCall tape i)))
    (walked : ∀ (W : World) (base : Nat) (args : Array Value) (ds gs : List (DataW H)) (before : List MemPlace),
      (∀ (j : Nat) t v, fn.params[j]? = some t → args[j]? = some v → Value.okWide C.prog W .any base t v) →
      DataW.Whole enc C.prog fn.params.toList s.vars apart W args.toList ds gs before →
      X W args → W.ShapedOpen C.prog →
      Calls C.prog f args W fun e W' => ∃ v, e = .returned v ∧ s.post enc C.prog fn apart fresh handsOn again W args v W') :
    ReturnsInHanded a C os f .any (fun w args => (s.pre enc C.prog fn conds apart w args ∧ X w args) ∧ sizedMet enc C.prog fn (OpenSpec.ofChange s) apart w args) (s.post enc C.prog fn apart fresh handsOn again) := by
  refine returnsInHanded_of_calls own started noInit witness fun w tape i _ hsh _ hok hpre _ => ?_
  obtain ⟨_, _, _, fn', hfn', _, _, _, _, hval⟩ := hok
  obtain rfl : fn' = fn := Option.some.inj (hfn'.symm.trans hfn)
  obtain ⟨⟨⟨ds, gs, before, hw, _⟩, hx⟩, _⟩ := hpre
  refine (walked (w.forCall tape i) w.heap.size i.args ds gs before hval (DataW.Whole.of_heap (w' := w.forCall tape i) (by rfl) hw) (hX _ _ _ (by rfl) hx) hsh).mono ?_
  rintro _ W' ⟨v, rfl, hp⟩
  exact ChangeSpec.post_blind hp
end
end Go.Proofs.YtdmpokanfnlbgaaGreatDoor

namespace Go.Proofs.YtdmpokanfnlbgaaGreatDoor
open Go.RowKit
set_option linter.all false
/- The decimal digits of a number, as both programs and the laws' marks write them. -/
def decB (u : Nat) : ByteArray := ⟨(Lib.decDigits u).toArray⟩
def dg (x : Nat) : List UInt8 := if x = 0 then [] else Lib.decDigits x
theorem dg_zero : dg 0 = [] := rfl
theorem dg_pos {x : Nat} (h : 0 < x) : dg x = Lib.decDigits x := by simp [dg]; omega
theorem ofNat48 (k : Nat) : UInt8.ofNat (48 + k) = 48 + UInt8.ofNat k := by rw [UInt8.ofNat_add]; rfl
theorem belowA (w : World) (o : Obj) : Below w.heap.size w (w.alloc o) := (Below.refl _ _).alloc (Nat.le_refl _) o
theorem dg_step {x : Nat} (h : 0 < x) : dg x = dg (x / 10) ++ [48 + UInt8.ofNat (x % 10)] := by
  rw [← ofNat48]
  rw [dg_pos h, Lib.decDigits]
  by_cases h10 : x < 10
  · rw [dif_pos h10, show x / 10 = 0 by omega, dg_zero, show x % 10 = x by omega]; rfl
  · rw [dif_neg h10, dg_pos (by omega)]
theorem dec_len {u : Nat} (h : u < 18446744073709551616) : (Lib.decDigits u).length ≤ 20 := by
  rw [Lib.decDigits_length]; exact Lib.nDigits_le20 u h
theorem decB_size {u : Nat} (h : u < 18446744073709551616) : (decB u).size ≤ 20 := by
  have := dec_len h
  simpa [decB, ByteArray.size] using this
def catB (b : UInt8) (o : ByteArray) : ByteArray := (⟨#[b]⟩ : ByteArray) ++ o
theorem catB_list (b : UInt8) (o : ByteArray) : (catB b o).data.toList = b :: o.data.toList := by simp [catB]
theorem catB_size (b : UInt8) (o : ByteArray) : (catB b o).size = o.size + 1 := by
  have h := congrArg List.length (catB_list b o)
  simp at h
  exact h
theorem dig_next {x : Nat} {o : ByteArray} {R : List UInt8} (hx : 0 < x) (h : dg x ++ o.data.toList = R) : dg (x / 10) ++ (catB (48 + UInt8.ofNat (x % 10)) o).data.toList = R := by
  rw [dg_step hx] at h
  rw [catB_list, ← h]
  simp
theorem dig_done {o : ByteArray} {u : Nat} (hu : 0 < u) (h : dg 0 ++ o.data.toList = dg u) : o = decB u := by
  rw [dg_zero, dg_pos hu] at h
  apply ByteArray.ext
  apply Array.ext'
  simpa [decB] using h
theorem dig_size {x u : Nat} {o : ByteArray} (hu : u < 18446744073709551616) (h : dg x ++ o.data.toList = dg u) : o.size ≤ 20 := by
  have h2 := congrArg List.length h
  have h3 : (dg u).length ≤ 20 := by
    by_cases h0 : u = 0
    · rw [h0, dg_zero]; exact Nat.zero_le _
    · rw [dg_pos (by omega)]; exact dec_len hu
  simp only [List.length_append] at h2
  have h4 : o.data.toList.length = o.size := Array.length_toList
  omega
/-- One byte made a string. -/
theorem conv_one (w : World) (z : Int) (t : TypeId) : (convert 22 9 (.slice (some ⟨w.heap.size, 0, none⟩) 1 1)).run Tryz.prog (w.alloc (.cells #[.int .u8 z] t)) = .ok (.string ⟨#[UInt8.ofNat z.toNat]⟩) (w.alloc (.cells #[.int .u8 z] t)) := by
  rw [run_convert_bytes_string _ 22 9 5 _ _ _ Tryz.underlying22 Tryz.underlying5 Tryz.underlying9]
  have hc := run_loadCells_list (P := Tryz.prog) (w.alloc (.cells #[.int .u8 z] t)) ⟨w.heap.size, 0, none⟩ (([z] : List Int).map (Value.int .u8)) (by
    intro j u hu
    match j, hu with
    | 0, hu =>
      simp at hu
      subst hu
      exact World.cell?_alloc_new _ _ _ _)
  rw [run_bytesToString _ ⟨w.heap.size, 0, none⟩ 1 1 [z] hc]
  rfl
theorem ret_text {a b : ByteArray} (h : a = b) : Ending.returned (.string a) = .returned (.string b) := by rw [h]
end Go.Proofs.YtdmpokanfnlbgaaGreatDoor

namespace Go.Proofs.YtdmpokanfnlbgaaGreatDoor
open Go.RowKit
set_option linter.all false
/- Words for memory: a slice of strings. -/
theorem info_str : (Tryz.prog.info? 9).map (fun i => (i.zero, i.size, i.bytes)) = some (some (.string ⟨#[]⟩), 1, 16) := by kernel_rfl
def Strs (w : World) (ao : Option Addr) (n : Nat) (ss : List ByteArray) : Prop :=
  ss.length = n ∧ n ≤ 1099511627776 ∧ ∀ i s, ss[i]? = some s → ∃ b o, ao = some ⟨b, o, none⟩ ∧ w.cell? ⟨b, o + i, none⟩ = some (.string s)
theorem Strs.keep {w w' : World} {ao : Option Addr} {n : Nat} {ss : List ByteArray} (h : Strs w ao n ss) (hb : Below w.heap.size w w') : Strs w' ao n ss := by
  refine ⟨h.1, h.2.1, fun i s hi => ?_⟩
  obtain ⟨b, o, e, hc⟩ := h.2.2 i s hi
  exact ⟨b, o, e, (hb.cell (p := ⟨b, o + i, none⟩) (World.block_lt_of_cell? w _ hc)).trans hc⟩
theorem Strs.drewN {w : World} {ao : Option Addr} {n : Nat} {ss : List ByteArray} (h : Strs w ao n ss) (k : Nat) : Strs (w.drewN k) ao n ss := h
theorem Strs.at_ {w : World} {ao : Option Addr} {n k : Nat} {ss : List ByteArray} (h : Strs w ao n ss) (hk : k < n) :
    ∃ b o s, ao = some ⟨b, o, none⟩ ∧ w.cell? ⟨b, o + k, none⟩ = some (.string s) ∧ Hid (ss[k]? = some s) := by
  have hl : k < ss.length := by rw [h.1]; exact hk
  obtain ⟨b, o, e, hc⟩ := h.2.2 k _ (List.getElem?_eq_getElem hl)
  exact ⟨b, o, _, e, hc, List.getElem?_eq_getElem hl⟩
def OStrs (w : World) (lo : Nat) (v : Value) (n : Nat) (ss : List ByteArray) : Prop := n ≤ 1099511627776 ∧ w.ownsRow lo 9 1 v n (ss.map Value.string)
section
variable {w w' : World} {lo n : Nat} {v : Value} {ss : List ByteArray}
theorem OStrs.len (h : OStrs w lo v n ss) : ss.length = n := by simpa using h.2.1
theorem OStrs.keep (h : OStrs w lo v n ss) (hb : Below w.heap.size w w') : OStrs w' lo v n ss := ⟨h.1, own_keep h.2 hb⟩
theorem OStrs.grown {row : Option Nat} (h : OStrs w lo v n ss) (hg : w.grownBy w' row) (hne : v.ownBlock = none ∨ v.ownBlock ≠ row) : OStrs w' lo v n ss := ⟨h.1, h.2.kept hg hne⟩
theorem OStrs.alloc (h : OStrs w lo v n ss) (o : Obj) : OStrs (w.alloc o) lo v n ss := ⟨h.1, h.2.alloc o⟩
theorem OStrs.drewN (h : OStrs w lo v n ss) (k : Nat) : OStrs (w.drewN k) lo v n ss := h
theorem OStrs.ownlt (h : OStrs w lo v n ss) : ∀ k, v.ownBlock = some k → lo ≤ k ∧ k < w.heap.size := h.2.lt
theorem OStrs.mono {lo' : Nat} (h : OStrs w lo v n ss) (hl : lo' ≤ lo) : OStrs w lo' v n ss := by
  refine ⟨h.1, h.2.1, ?_⟩
  rcases h.2.2 with h2 | ⟨g, cap, cur, hv, hg, r⟩
  · exact .inl h2
  · exact .inr ⟨g, cap, cur, hv, Nat.le_trans hl hg, r⟩
theorem OStrs.form (h : OStrs w lo v n ss) : ∃ ao cap, v = .slice ao n cap ∧ Strs w ao n ss := by
  have hl := h.len
  rcases h.2.2 with ⟨rfl, rfl⟩ | ⟨g, cap, cur, rfl, hg, hh, hnc, _, _, ht⟩
  · exact ⟨none, 0, rfl, hl, h.1, fun i s hi => by rw [List.eq_nil_of_length_eq_zero hl] at hi; simp at hi⟩
  · refine ⟨some ⟨g, 0, none⟩, cap, rfl, hl, h.1, fun i s hi => ⟨g, 0, rfl, ?_⟩⟩
    have hc := h.2.cells (g := g) rfl i (.string s) (by simp [hi])
    rw [Addr.add_lit] at hc
    simpa using hc
theorem OStrs.capLe {m cap : Nat} {ao : Option Addr} (h : OStrs w lo v n ss) (e : v = .slice ao m cap) : n ≤ cap := by
  rcases h.2.2 with ⟨rfl, rfl⟩ | ⟨g, c, cur, rfl, _, _, hnc, _⟩
  · exact Nat.zero_le _
  · injection e with _ _ e3
    omega
theorem OStrs.head (h : OStrs w lo v n ss) (hn : 0 < n) : ∃ g cap, v = .slice (some ⟨g, 0, none⟩) n cap := by
  rcases h.2.2 with ⟨_, h0⟩ | ⟨g, cap, cur, e, _⟩
  · omega
  · exact ⟨g, cap, e⟩
theorem OStrs.none_ (w : World) (lo : Nat) : OStrs w lo (.slice none 0 0) 0 [] := ⟨by omega, by simp, .inl ⟨rfl, rfl⟩⟩
theorem OStrs.empty (w : World) (lo : Nat) (hlo : lo ≤ w.heap.size) : OStrs (w.alloc (.cells #[] 9)) lo (.slice (some ⟨w.heap.size, 0, none⟩) 0 0) 0 [] :=
  ⟨by omega, World.ownsRow_made (base := lo) (e := 9) (size := 1) w #[] 0 hlo (by unfold maxLen; omega) rfl⟩
end
section
variable {w w' : World} {lo g n cap : Nat} {ss : List ByteArray}
theorem OStrs.read {ao : Option Addr} (h : OStrs w lo (.slice ao n cap) n ss) : Strs w ao n ss := by
  obtain ⟨ao', cap', e, hi⟩ := h.form
  injection e with e1
  subst e1
  exact hi
theorem OStrs.two {ao : Option Addr} (h : OStrs w lo (.slice ao n cap) n ss) : (ao = none ∧ n = 0) ∨ ∃ g, ao = some ⟨g, 0, none⟩ := by
  rcases h.2.2 with ⟨e, hn⟩ | ⟨g, c, cur, e, _⟩
  · injection e with e1
    exact .inl ⟨e1, hn⟩
  · injection e with e1
    exact .inr ⟨g, e1⟩
theorem OStrs.lt (h : OStrs w lo (.slice (some ⟨g, 0, none⟩) n cap) n ss) : lo ≤ g ∧ g < w.heap.size := h.2.lt g rfl
theorem OStrs.frozen (h : OStrs w lo (.slice (some ⟨g, 0, none⟩) n cap) n ss) (k : Nat) : w.frozen? ⟨g, k, none⟩ = false := h.2.frozenAt k
theorem OStrs.cell (h : OStrs w lo (.slice (some ⟨g, 0, none⟩) n cap) n ss) {k : Nat} {s : ByteArray} (hk : ss[k]? = some s) : w.cell? ⟨g, k, none⟩ = some (.string s) := by
  obtain ⟨b, o, e, hc⟩ := h.read.2.2 k s hk
  injection e with e
  injection e with e1 e2
  subst e1
  subst e2
  simpa using hc
theorem OStrs.set (h : OStrs w lo (.slice (some ⟨g, 0, none⟩) n cap) n ss) (k : Nat) (s : ByteArray) : OStrs (w.setCell ⟨g, k, none⟩ (.string s)) lo (.slice (some ⟨g, 0, none⟩) n cap) n (ss.set k s) := by
  refine ⟨h.1, ?_⟩
  rw [List.map_set]
  exact (h.2.stored k _).1
end
theorem wp_push_str {o : Oper} {a : Act} {K0 : Act → World → Prop} {Q : Exit → Act → World → Prop} (W : World) (y : ByteArray) (s x : Operand)
    (ho : o.op = .call { callee := .builtin .append, args := #[s, x], argTypes := #[28, 28] })
    (lo : Nat) (v : Value) (n : Nat) (xs : List ByteArray) (hs : a.eval s = v) (h : OStrs W lo v n xs) (hn : n + 1 ≤ 1099511627776) (hlo : lo ≤ W.heap.size)
    (tb : Nat) (htb : tb = W.heap.size) (hx : a.eval x = .slice (some ⟨tb, 0, none⟩) 1 1)
    (K : ∀ v' w', OStrs w' lo v' (n + 1) (xs ++ [y]) → Below lo W w' → K0 (a.put o.dst v') w') : o.wp Tryz.prog a (W.alloc (.cells #[.string y] 9)) K0 Q := by
  subst htb
  obtain ⟨i0, hi, hz0, hz1, hz2⟩ := info_parts info_str
  refine wp_append_own _ s x 28 ho lo 9 i0 (.string ⟨#[]⟩) 1 16 Tryz.underlying28 hi hz0 hz1 hz2 rfl (by decide) v n _ hs (h.alloc _).2 ⟨W.heap.size, 0, none⟩ 1 1 [.string y] hx rfl ?_ ?_ ?_ ?_ (by simp; omega) ?_
  · intro j u' hj
    match j, hj with
    | 0, hj =>
      simp at hj
      subst hj
      exact World.cell?_alloc_new _ _ _ _
  · intro u' hu'
    simp at hu'
    subst hu'
    rfl
  · unfold maxLen; omega
  · omega
  · intro v' w' hown hgrow _
    refine K v' w' ⟨hn, ?_⟩ (((Below.refl lo W).alloc hlo _).grown hgrow (by simp; omega) (fun k hk => (h.ownlt k hk).1))
    rw [List.map_append]
    exact hown
theorem wpList_push_str {ops : Array Oper} {rest : List Oper} {o : Oper} {a : Act} {Q : Exit → Act → World → Prop} (W : World) (y : ByteArray) (hgd : o.guard = none) (s x : Operand)
    (ho : o.op = .call { callee := .builtin .append, args := #[s, x], argTypes := #[28, 28] })
    (lo : Nat) (v : Value) (n : Nat) (xs : List ByteArray) (hs : a.eval s = v) (h : OStrs W lo v n xs) (hn : n + 1 ≤ 1099511627776) (hlo : lo ≤ W.heap.size)
    (tb : Nat) (htb : tb = W.heap.size) (hx : a.eval x = .slice (some ⟨tb, 0, none⟩) 1 1)
    (K : ∀ v' w', OStrs w' lo v' (n + 1) (xs ++ [y]) → Below lo W w' → wpList Tryz.prog ops Q rest (a.put o.dst v') w') : wpList Tryz.prog ops Q (o :: rest) a (W.alloc (.cells #[.string y] 9)) := by
  refine wpList_plain hgd fun K' hK => ?_
  exact wp_push_str W y s x ho lo v n xs hs h hn hlo tb htb hx fun v' w' h1 h2 => hK _ _ (K v' w' h1 h2)
theorem OStrs.lit (w : World) (lo : Nat) (ss : List ByteArray) (hlo : lo ≤ w.heap.size) (hn : ss.length ≤ 1048576) : OStrs (w.alloc (.cells (ss.map Value.string).toArray 9)) lo (.slice (some ⟨w.heap.size, 0, none⟩) ss.length ss.length) ss.length ss := by
  refine ⟨by omega, ?_⟩
  have h := World.ownsRow_lit (base := lo) (e := 9) (size := 1) w (ss.map Value.string).toArray ss.length hlo (by unfold maxLen; omega) (by simp)
  simpa using h
theorem OStrs.far {w w' : World} {lo n : Nat} {u v : Value} {ss : List ByteArray} (h : OStrs w lo u n ss) (hg : w.grownBy w' v.ownBlock) (ha : Apart u v) : OStrs w' lo u n ss := h.grown hg ha.ne
theorem wpList_push_strAt {ops : Array Oper} {rest : List Oper} {o : Oper} {a : Act} {Q : Exit → Act → World → Prop} (W : World) (y : ByteArray) (hgd : o.guard = none) (s x : Operand)
    (ho : o.op = .call { callee := .builtin .append, args := #[s, x], argTypes := #[28, 28] })
    (lo : Nat) (v : Value) (n : Nat) (xs : List ByteArray) (hs : a.eval s = v) (h : OStrs W lo v n xs) (hn : n + 1 ≤ 1099511627776) (hlo : lo ≤ W.heap.size)
    (tb : Nat) (htb : tb = W.heap.size) (hx : a.eval x = .slice (some ⟨tb, 0, none⟩) 1 1)
    (K : ∀ v' w', OStrs w' lo v' (n + 1) (xs ++ [y]) → W.grownBy w' v.ownBlock → NewOr W.heap.size v v' → wpList Tryz.prog ops Q rest (a.put o.dst v') w') : wpList Tryz.prog ops Q (o :: rest) a (W.alloc (.cells #[.string y] 9)) := by
  refine wpList_plain hgd fun K' hK => ?_
  subst htb
  obtain ⟨i0, hi, hz0, hz1, hz2⟩ := info_parts info_str
  obtain ⟨v', w', hr, h2, h3, _, h5⟩ := run_append_own_at (P := Tryz.prog) (W.alloc (.cells #[.string y] 9)) lo 28 o.type 9 i0 (.string ⟨#[]⟩) 1 16 Tryz.underlying28 hi hz0 hz1 hz2 rfl (by decide) v n _ (h.alloc _).2 ⟨W.heap.size, 0, none⟩ 1 1 [.string y] rfl
    (by
      intro j u' hj
      match j, hj with
      | 0, hj =>
        simp at hj
        subst hj
        exact World.cell?_alloc_new _ _ _ _) (by intro u hu; simp at hu; subst hu; rfl) (by unfold maxLen; omega) (by omega) (by simp; omega)
  unfold Oper.wp execOp
  simp only [ho, resolve, invoke, builtin, Sem.run_bind, Sem.run_pure, Result.andThen_ok, List.map_toArray, List.map_cons, List.map_nil, hs, hx, hr]
  refine hK _ _ (K v' w' ⟨hn, ?_⟩ ((grown_alloc W _ _).trans h3) ?_)
  · rw [List.map_append]; exact h2
  · rcases h5 with h5 | h5
    · exact .inl h5
    · exact .inr ⟨_, h5, by simp⟩
end Go.Proofs.YtdmpokanfnlbgaaGreatDoor

namespace Go.Proofs.YtdmpokanfnlbgaaGreatDoor
open Go.RowKit
set_option linter.all false
def u8C (B : List UInt8) : List Value := B.map fun b => Value.int .u8 (b.toNat : Int)
def OB (w : World) (lo : Nat) (v : Value) (B : List UInt8) : Prop := B.length ≤ 1099511627776 ∧ w.ownsRow lo 5 1 v B.length (u8C B)
theorem info_u8 : (Tryz.prog.info? 5).map (fun i => (i.zero, i.size, i.bytes)) = some (some (.int .u8 0), 1, 1) := by kernel_rfl
section
variable {w w' : World} {lo : Nat} {v : Value} {B : List UInt8}
theorem OB.keep (h : OB w lo v B) (hb : Below w.heap.size w w') : OB w' lo v B := ⟨h.1, own_keep h.2 hb⟩
theorem OB.alloc (h : OB w lo v B) (o : Obj) : OB (w.alloc o) lo v B := ⟨h.1, h.2.alloc o⟩
theorem OB.ownlt (h : OB w lo v B) : ∀ k, v.ownBlock = some k → lo ≤ k ∧ k < w.heap.size := h.2.lt
theorem OB.form (h : OB w lo v B) : ∃ ao cap, v = .slice ao B.length cap := by
  rcases h.2.2 with ⟨rfl, h0⟩ | ⟨g, cap, cur, rfl, _⟩
  · exact ⟨none, 0, by rw [h0]⟩
  · exact ⟨some ⟨g, 0, none⟩, cap, rfl⟩
theorem OB.empty (w : World) (lo : Nat) (hlo : lo ≤ w.heap.size) : OB (w.alloc (.cells #[] 5)) lo (.slice (some ⟨w.heap.size, 0, none⟩) 0 0) [] :=
  ⟨Nat.zero_le _, World.ownsRow_made (base := lo) (e := 5) (size := 1) w #[] 0 hlo (by unfold maxLen; omega) rfl⟩
end
theorem u8C_app (A B : List UInt8) : u8C (A ++ B) = u8C A ++ u8C B := by simp [u8C]
theorem u8C_str (s : ByteArray) : u8C s.data.toList = Lib.strCells s := rfl
theorem fold_u8 : ∀ (B : List UInt8) (s : ByteArray), (B.map fun b => (b.toNat : Int)).foldl (fun r n => r.push (UInt8.ofNat n.toNat)) s = ⟨s.data ++ B.toArray⟩
  | [], s => by simp
  | b :: r, s => by
    rw [List.map_cons, List.foldl_cons, fold_u8 r]
    simp [ByteArray.push]
theorem conv_u8 (w : World) (lo : Nat) (v : Value) (B : List UInt8) (h : OB w lo v B) : (convert 22 9 v).run Tryz.prog w = .ok (.string ⟨B.toArray⟩) w := by
  rcases h.2.2 with ⟨rfl, h0⟩ | ⟨g, cap, cur, rfl, _⟩
  · have e : B = [] := List.eq_nil_of_length_eq_zero h0
    subst e
    rw [run_convert_bytes_string w 22 9 5 _ _ _ Tryz.underlying22 Tryz.underlying5 Tryz.underlying9]
    simp [Conv.bytesToString]
    rfl
  · rw [run_convert_bytes_string w 22 9 5 _ _ _ Tryz.underlying22 Tryz.underlying5 Tryz.underlying9]
    have e : u8C B = (B.map fun b => (b.toNat : Int)).map (Value.int .u8) := by simp [u8C]
    have hc := run_loadCells_list (P := Tryz.prog) w ⟨g, 0, none⟩ ((B.map fun b => (b.toNat : Int)).map (Value.int .u8)) (fun j u hu => h.2.cells (g := g) rfl j u (by rw [e]; exact hu))
    rw [List.length_map, List.length_map] at hc
    rw [run_bytesToString w ⟨g, 0, none⟩ B.length cap (B.map fun b => (b.toNat : Int)) hc, fold_u8]
    simp [ByteArray.empty, ByteArray.emptyWithCapacity]
    rfl
/-- Pieces joined. -/
def joinB (ss : List ByteArray) (sep : ByteArray) : ByteArray := ⟨(Lib.join (ss.map (·.data.toList)) sep.data.toList).toArray⟩
def toCome (sep : ByteArray) (k : Nat) (ss : List ByteArray) : List UInt8 :=
  if k = 0 then Lib.join (ss.map (·.data.toList)) sep.data.toList else Lib.joinTail sep.data.toList (ss.map (·.data.toList))
theorem toCome_first {sep s : ByteArray} {ss : List ByteArray} {R : List UInt8} (hs : ss[0]? = some s) (h : [] ++ toCome sep 0 (ss.drop 0) = R) : ([] ++ s.data.toList) ++ toCome sep 1 (ss.drop 1) = R := by
  rw [← h, drop_of_get hs]
  simp [toCome, Lib.join_cons]
theorem toCome_next {sep s : ByteArray} {k : Nat} {ss : List ByteArray} {B R : List UInt8} (hk : 0 < k) (hs : ss[k]? = some s) (h : B ++ toCome sep k (ss.drop k) = R) : ((B ++ sep.data.toList) ++ s.data.toList) ++ toCome sep (k + 1) (ss.drop (k + 1)) = R := by
  rw [← h, drop_of_get hs]
  have h0 : k ≠ 0 := by omega
  simp [toCome, h0, Lib.joinTail]
theorem toCome_end {sep : ByteArray} {k : Nat} {ss : List ByteArray} {B R : List UInt8} (hk : ss.length ≤ k) (h : B ++ toCome sep k (ss.drop k) = R) : B = R := by
  rw [drop_all ss k hk] at h
  rw [← h]
  unfold toCome
  split <;> simp [Lib.join, Lib.joinTail]
theorem toCome_len {sep : ByteArray} {k : Nat} {ss : List ByteArray} {B R : List UInt8} (h : B ++ toCome sep k ss = R) : B.length ≤ R.length := by rw [← h]; simp
set_option maxRecDepth 20000 in
theorem wpList_app_str {ops : Array Oper} {rest : List Oper} {o : Oper} {a : Act} {Q : Exit → Act → World → Prop} (W : World) (hgd : o.guard = none) (s x : Operand)
    (ho : o.op = .call { callee := .builtin .append, args := #[s, x], argTypes := #[22, 9] })
    (lo : Nat) (v : Value) (B : List UInt8) (hs : a.eval s = v) (h : OB W lo v B) (y : ByteArray) (hx : a.eval x = .string y) (hn : B.length + y.size ≤ 1099511627776) (hlo : lo ≤ W.heap.size)
    (K : ∀ v' w', OB w' lo v' (B ++ y.data.toList) → Below lo W w' → wpList Tryz.prog ops Q rest (a.put o.dst v') w') : wpList Tryz.prog ops Q (o :: rest) a W := by
  obtain ⟨i0, hi, hz0, hz1, hz2⟩ := info_parts info_u8
  have hyl : y.data.toList.length = y.size := Array.length_toList
  refine Lib.wpList_append_own_string W hgd s x 22 9 ho lo 5 i0 Tryz.underlying22 Tryz.underlying9 hi hz0 hz1 hz2 v B.length (u8C B) hs h.2 y hx (by unfold maxLen; omega) (by omega) hlo ?_
  intro v' w' hown hgrow _
  have e : (B ++ y.data.toList).length = B.length + y.size := by rw [List.length_append, hyl]
  refine K v' w' ⟨by rw [e]; exact hn, ?_⟩ ((Below.refl lo W).grown hgrow hlo (fun k hk => (h.ownlt k hk).1))
  rw [e, u8C_app]
  exact hown
section
variable {w w' : World} {lo g cap : Nat} {B : List UInt8}
theorem OB.num {n : Nat} (h : OB w lo (.slice (some ⟨g, 0, none⟩) n cap) B) : n = B.length := by
  rcases h.2.2 with ⟨e, _⟩ | ⟨g', c, cur, e, _⟩
  · cases e
  · injection e with _ e2 _
theorem OB.frozen {n : Nat} (h : OB w lo (.slice (some ⟨g, 0, none⟩) n cap) B) (k : Nat) : w.frozen? ⟨g, k, none⟩ = false := by
  obtain rfl := h.num
  exact h.2.frozenAt k
theorem OB.lt {n : Nat} (h : OB w lo (.slice (some ⟨g, 0, none⟩) n cap) B) : lo ≤ g ∧ g < w.heap.size := h.2.lt g rfl
theorem OB.cell {n : Nat} (h : OB w lo (.slice (some ⟨g, 0, none⟩) n cap) B) {k : Nat} {b : UInt8} (hk : B[k]? = some b) : w.cell? ⟨g, k, none⟩ = some (.int .u8 (b.toNat : Int)) := by
  have hc := h.2.cells (g := g) rfl k (.int .u8 (b.toNat : Int)) (by simp [u8C, hk])
  rw [Addr.add_lit] at hc
  simpa using hc
theorem OB.set {n : Nat} (h : OB w lo (.slice (some ⟨g, 0, none⟩) n cap) B) (k : Nat) (b : UInt8) : OB (w.setCell ⟨g, k, none⟩ (.int .u8 (b.toNat : Int))) lo (.slice (some ⟨g, 0, none⟩) n cap) (B.set k b) := by
  obtain rfl := h.num
  refine ⟨by simpa using h.1, ?_⟩
  have e : u8C (B.set k b) = (u8C B).set k (.int .u8 (b.toNat : Int)) := by unfold u8C; rw [List.map_set]
  rw [e, List.length_set]
  exact (h.2.stored k _).1
end
theorem make_bytes (n : Nat) (hn : n ≤ 1099511627776) (w : World) :
    (Instr.makeSlice 22 (.int .i64 (n : Int)) (.int .i64 (n : Int))).run Tryz.prog w = .ok (.slice (some ⟨w.heap.size, 0, none⟩) n n) (w.alloc (.cells (madeCells #[.int .u8 0] n) 5)) :=
  run_make_row' (P := Tryz.prog) 22 5 (.int .u8 0) 1 Tryz.underlying22 info_u8 rfl .i64 .i64 n (by omega) (by omega) w
theorem OB.made (w : World) (n : Nat) (hn : n ≤ 1099511627776) : OB (w.alloc (.cells (madeCells #[.int .u8 0] n) 5)) w.heap.size (.slice (some ⟨w.heap.size, 0, none⟩) n n) (List.replicate n 0) := by
  refine ⟨by simpa using hn, ?_⟩
  have h := World.ownsRow_lit (base := w.heap.size) (e := 5) (size := 1) w (madeCells #[.int .u8 0] n) n (Nat.le_refl _) (by unfold maxLen; omega) (by simp [madeCells])
  rw [toList_madeCells_one] at h
  rw [List.length_replicate]
  simpa [u8C] using h
end Go.Proofs.YtdmpokanfnlbgaaGreatDoor

namespace Go.Proofs.YtdmpokanfnlbgaaGreatDoor
open Go.RowKit
set_option linter.all false
def zt (x : Nat) : ByteArray := (⟨#[90, 47]⟩ : ByteArray) ++ decB x
def grpF : List Int → List ByteArray → ByteArray
  | [], ws => if ws.length = 0 then ⟨#[48]⟩ else joinB ws ⟨#[43]⟩
  | x :: r, ws => if x < 0 then ⟨#[]⟩ else if x = 0 then grpF r (ws ++ [⟨#[90]⟩]) else if 1 < x then grpF r (ws ++ [zt x.toNat]) else grpF r ws
def groupTxt (xs : List Int) : ByteArray := grpF xs []
theorem zt_size {x : Nat} (h : x < 18446744073709551616) : (zt x).size ≤ 22 := by
  have h1 := decB_size h
  have h2 : (zt x).size = 2 + (decB x).size := by unfold zt; rw [ByteArray.size_append]; rfl
  omega
theorem grp_step {xs : List Int} {k : Nat} {x : Int} {ws : List ByteArray} {R : ByteArray} (hx : xs[k]? = some x) (h : grpF (xs.drop k) ws = R) :
    (x < 0 → R = ⟨#[]⟩) ∧ (x = 0 → grpF (xs.drop (k + 1)) (ws ++ [⟨#[90]⟩]) = R) ∧ (1 < x → grpF (xs.drop (k + 1)) (ws ++ [zt x.toNat]) = R) ∧ (x = 1 → grpF (xs.drop (k + 1)) ws = R) := by
  rw [drop_of_get hx, grpF] at h
  refine ⟨fun e => ?_, fun e => ?_, fun e => ?_, fun e => ?_⟩
  · rw [if_pos e] at h; exact h.symm
  · rw [if_neg (by omega), if_pos e] at h; exact h
  · rw [if_neg (by omega), if_neg (by omega), if_pos e] at h; exact h
  · rw [if_neg (by omega), if_neg (by omega), if_neg (by omega)] at h; exact h
theorem grp_end {xs : List Int} {k : Nat} {ws : List ByteArray} {R : ByteArray} (hk : xs.length ≤ k) (h : grpF (xs.drop k) ws = R) : (ws.length = 0 → R = ⟨#[48]⟩) ∧ (0 < ws.length → R = joinB ws ⟨#[43]⟩) := by
  rw [drop_all xs k hk, grpF] at h
  constructor
  · intro e; rw [if_pos e] at h; exact h.symm
  · intro e; rw [if_neg (by omega)] at h; exact h.symm
theorem lens_le : ∀ (ws : List ByteArray) (m : Nat), (∀ s ∈ ws, s.size ≤ m) → Lib.lens (ws.map (·.data.toList)) ≤ m * ws.length
  | [], m, _ => by simp [Lib.lens]
  | s :: r, m, h => by
    have h1 := lens_le r m (fun x hx => h x (List.mem_cons_of_mem _ hx))
    have h2 := h s (List.mem_cons_self ..)
    have h3 : s.data.toList.length = s.size := Array.length_toList
    simp only [Lib.lens, List.map_cons, List.sum_cons, List.length_cons] at h1 ⊢
    rw [Nat.mul_succ]
    omega
theorem joinB_len (ws : List ByteArray) (sep : ByteArray) : (Lib.join (ws.map (·.data.toList)) sep.data.toList).length = (joinB ws sep).size := by simp [joinB, ByteArray.size]
theorem joinB_size {ws : List ByteArray} {sep : ByteArray} {m : Nat} (h : ∀ s ∈ ws, s.size ≤ m) : (joinB ws sep).size ≤ (m + sep.size) * ws.length := by
  have hs : sep.data.toList.length = sep.size := Array.length_toList
  have e : (joinB ws sep).size = (Lib.join (ws.map (·.data.toList)) sep.data.toList).length := by simp [joinB, ByteArray.size]
  rw [e]
  cases ws with
  | nil => simp [Lib.join]
  | cons s r =>
    rw [List.map_cons, Lib.join_length, hs, List.length_map]
    have h1 := lens_le (s :: r) m h
    rw [List.map_cons] at h1
    have h2 : (m + sep.size) * (s :: r).length = m * (s :: r).length + sep.size * (s :: r).length := Nat.add_mul ..
    have h3 : sep.size * r.length ≤ sep.size * (s :: r).length := Nat.mul_le_mul_left _ (by simp)
    omega
theorem all_push {ws : List ByteArray} {s : ByteArray} {m : Nat} (h : ∀ x ∈ ws, x.size ≤ m) (hs : s.size ≤ m) : ∀ x ∈ ws ++ [s], x.size ≤ m := by
  intro x hx
  rcases List.mem_append.1 hx with hx | hx
  · exact h x hx
  · simp at hx; subst hx; exact hs
end Go.Proofs.YtdmpokanfnlbgaaGreatDoor

namespace Go.Proofs.YtdmpokanfnlbgaaGreatDoor
open Go.RowKit
set_option linter.all false
set_option maxHeartbeats 800000 in
theorem sameTexts_same (ao : Option Addr) (n cap : Nat) (ao' : Option Addr) (n' cap' : Nat) (ss : List ByteArray) (w : World) (h : Strs w ao n ss) (h' : Strs w ao' n' ss) :
    Calls Tryz.prog 20 #[.slice ao n cap, .slice ao' n' cap'] w fun e w' => e = .returned (.bool true) ∧ Drew w w' := by
  have hn := h.1
  have hn' := h'.1
  have hm := h.2.1
  obtain rfl : n' = n := by omega
  have H := Lib.hid h
  have H' := Lib.hid h'
  have hl1 : ((n' : Int) != (n' : Int)) = false := by simp
  clear h h' hn hn'
  go_enter Tryz.func20, Tryz.ntmps20
  go_wp2_with fail
  go_loopw [5] (fun i wr => ∃ k : Nat, k ≤ n' ∧ i = .int .i64 k ∧ Drew w wr) (fun i _ => n' - (intOf i).toNat)
  case atStart => exact ⟨0, Nat.zero_le _, rfl, Drew.refl w⟩
  case round =>
    obtain ⟨k, hk, rfl, ⟨m, rfl⟩⟩ := hrel
    by_cases hlt : k < n'
    · obtain ⟨b, o, s, rfl, hc, hs⟩ := H.out.at_ hlt
      obtain ⟨b', o', s', rfl, hc', hs'⟩ := H'.out.at_ hlt
      obtain rfl : s' = s := Option.some.inj (hs'.out.symm.trans hs.out)
      clear hs hs'
      go_wp2_with fail
      go_quiet (fail)
      go_wp2_with fail
      go_roundw
      case rel => exact ⟨k + 1, hlt, by go_num, (by first | exact Drew.refl _ | exact Drew.mk _ _ | exact (Drew.mk _ _).drewN _)⟩
      case measure => simp [intOf]; omega
    · go_wp2_with fail
      go_ret
      exact ⟨rfl, (by first | exact Drew.refl _ | exact Drew.mk _ _ | exact (Drew.mk _ _).drewN _)⟩
end Go.Proofs.YtdmpokanfnlbgaaGreatDoor

namespace Go.Proofs.YtdmpokanfnlbgaaGreatDoor
open Go.RowKit
set_option linter.all false
def bl (s : ByteArray) (i : Nat) : Nat := if h : i < s.size then s[i].toNat else 0
theorem bl_get {s : ByteArray} {i : Nat} (h : i < s.size) : bl s i = s[i].toNat := by simp [bl, h]
theorem bl_lt (s : ByteArray) (i : Nat) : bl s i < 256 := by
  unfold bl
  split
  · exact UInt8.toNat_lt _
  · omega
def okW (k : Int) (s : ByteArray) : Nat → Nat → Bool
  | _, 0 => true
  | i, m + 1 => (decide (97 ≤ bl s i) && decide ((bl s i : Int) - 97 < k)) && okW k s (i + 1) m
def isWd (k : Int) (s : ByteArray) : Bool := inR k 1 3 && (decide (s.size ≤ 16) && okW k s 0 s.size)
theorem okW_step {k : Int} {s : ByteArray} {i m : Nat} {b : Bool} (h : okW k s i (m + 1) = b) :
    (¬ 97 ≤ bl s i → b = false) ∧ (¬ (bl s i : Int) - 97 < k → b = false) ∧ (97 ≤ bl s i → (bl s i : Int) - 97 < k → okW k s (i + 1) m = b) := by
  refine ⟨fun e => ?_, fun e => ?_, fun e1 e2 => ?_⟩
  · simpa [okW, e] using h.symm
  · simpa [okW, e] using h.symm
  · simpa [okW, e1, e2] using h
theorem okW_get {k : Int} {s : ByteArray} : ∀ {m i j : Nat}, okW k s i m = true → i ≤ j → j < i + m → 97 ≤ bl s j ∧ (bl s j : Int) - 97 < k
  | 0, i, j, _, h1, h2 => by omega
  | m + 1, i, j, h, h1, h2 => by
    simp only [okW, Bool.and_eq_true, decide_eq_true_eq] at h
    by_cases e : i = j
    · subst e; exact h.1
    · exact okW_get h.2 (by omega) (by omega)
theorem isWd_get {k : Int} {s : ByteArray} (h : isWd k s = true) : s.size ≤ 16 ∧ ∀ j, j < s.size → 97 ≤ bl s j ∧ (bl s j : Int) - 97 < k := by
  simp only [isWd, Bool.and_eq_true, decide_eq_true_eq] at h
  exact ⟨h.2.1, fun j hj => okW_get h.2.2 (Nat.zero_le _) (by omega)⟩
end Go.Proofs.YtdmpokanfnlbgaaGreatDoor

namespace Go.Proofs.YtdmpokanfnlbgaaGreatDoor
open Go.RowKit
set_option linter.all false
def spB (s : ByteArray) (b : Nat) : Nat → Nat → Nat → List ByteArray
  | 0, _, _ => []
  | f + 1, fr, i => if i = s.size ∨ bl s i = b then s.extract fr i :: spB s b f (i + 1) (i + 1) else spB s b f fr (i + 1)
def pieces (s : ByteArray) (b : Nat) : List ByteArray := spB s b (s.size + 1) 0 0
theorem spB_step {s : ByteArray} {b fr i : Nat} {acc R : List ByteArray} (hi : i ≤ s.size) (h : acc ++ spB s b (s.size + 1 - i) fr i = R) :
    ((i = s.size ∨ bl s i = b) → (acc ++ [s.extract fr i]) ++ spB s b (s.size + 1 - (i + 1)) (i + 1) (i + 1) = R) ∧ (i ≠ s.size → bl s i ≠ b → acc ++ spB s b (s.size + 1 - (i + 1)) fr (i + 1) = R) := by
  rw [show s.size + 1 - i = (s.size + 1 - (i + 1)) + 1 by omega, spB] at h
  refine ⟨fun e => ?_, fun e1 e2 => ?_⟩
  · rw [if_pos e] at h; rw [← h]; simp
  · rw [if_neg (by omega)] at h; exact h
set_option maxRecDepth 20000 in
set_option maxHeartbeats 3200000 in
theorem sSplitByte_any (s : ByteArray) (b : Nat) (w : World) (hs : s.size ≤ 1000000) (hb : b < 256) :
    Calls Tryz.prog 89 #[.string s, .int .u8 b] w fun e w' => ∃ v, e = .returned v ∧ OStrs w' w.heap.size v (pieces s b).length (pieces s b) ∧ Below w.heap.size w w' := by
  have HE := Lib.hid (OStrs.empty w w.heap.size (Nat.le_refl _))
  have HBE := Lib.hid (belowA w (.cells #[] 9))
  go_enter Tryz.func89, Tryz.ntmps89
  go_wp2_with fail
  go_loopw [5, 6, 7] (fun v y x wr => ∃ (fr i : Nat) (acc : List ByteArray), i ≤ s.size + 1 ∧ fr ≤ i ∧ acc.length ≤ i ∧ y = .int .i64 fr ∧ x = .int .i64 i ∧ OStrs wr w.heap.size v acc.length acc ∧ Hid (acc ++ spB s b (s.size + 1 - i) fr i = pieces s b) ∧ Below w.heap.size w wr) (fun _ _ x _ => s.size + 1 - (intOf x).toNat)
  case atStart => exact ⟨0, 0, [], Nat.zero_le _, Nat.le_refl _, Nat.le_refl _, rfl, rfl, HE.out, rfl, HBE.out⟩
  case round =>
    obtain ⟨fr, i, acc, hi, hf, hal, rfl, rfl, hown, hr, hbl⟩ := hrel
    obtain ⟨a7, c7, rfl, _⟩ := hown.form
    have HO := Lib.hid hown
    have HB := Lib.hid hbl
    clear hown hbl HE HBE
    by_cases hle : i ≤ s.size
    · have HST := Lib.hid (spB_step hle hr.out)
      clear hr
      have dle : decide ((i : Int) ≤ (s.size : Int)) = true := decide_eq_true (by omega)
      by_cases hlt : i < s.size
      · have dne : ((i : Int) == (s.size : Int)) = false := beq_eq_false_iff_ne.2 (by omega)
        obtain ⟨c, hc⟩ : ∃ c : Nat, s[i].toNat = c := ⟨_, rfl⟩
        have hbc : bl s i = c := (bl_get hlt).trans hc
        by_cases e : c = b
        · have d : ((c : Int) == (b : Int)) = true := beq_iff_eq.2 (by omega)
          have HN := Lib.hid (HST.out.1 (.inr (hbc.trans e)))
          clear HST hbc e
          go_wp2_with (at_builtin; refine wpList_push_str wr _ rfl (.tmp 26) (.tmp 31) rfl w.heap.size _ _ _ rfl HO.out (by omega) HB.out.size _ rfl rfl ?_; intro v3 w3 ho3 hb3; have HO3 := Lib.hid ho3; have HB3 := Lib.hid (HB.out.trans hb3); clear ho3 hb3)
          go_roundw
          case rel => exact ⟨i + 1, i + 1, _, by omega, Nat.le_refl _, by simp; omega, by go_num, by go_num, by simpa using HO3.out, HN.out, HB3.out⟩
          case measure => (simp [intOf] <;> omega)
        · have d : ((c : Int) == (b : Int)) = false := beq_eq_false_iff_ne.2 (by omega)
          have HN := Lib.hid (HST.out.2 (by omega) (by omega))
          clear HST hbc e
          go_wp2_with fail
          go_roundw
          case rel => exact ⟨fr, i + 1, acc, by omega, by omega, by omega, rfl, by go_num, HO.out, HN.out, HB.out⟩
          case measure => (simp [intOf] <;> omega)
      · have ei : i = s.size := by omega
        have hn := HST.out.1 (.inl ei)
        rw [show s.extract fr i = s.extract fr s.size by rw [ei]] at hn
        have HN := Lib.hid hn
        clear hn
        have deq : ((i : Int) == (s.size : Int)) = true := beq_iff_eq.2 (by omega)
        clear HST
        go_wp2_with (at_builtin; refine wpList_push_str wr _ rfl (.tmp 26) (.tmp 31) rfl w.heap.size _ _ _ rfl HO.out (by omega) HB.out.size _ rfl rfl ?_; intro v3 w3 ho3 hb3; have HO3 := Lib.hid ho3; have HB3 := Lib.hid (HB.out.trans hb3); clear ho3 hb3)
        go_roundw
        case rel => exact ⟨i + 1, i + 1, _, by omega, Nat.le_refl _, by simp; omega, by go_num, by go_num, by simpa using HO3.out, HN.out, HB3.out⟩
        case measure => (simp [intOf] <;> omega)
    · have dle : decide ((i : Int) ≤ (s.size : Int)) = false := decide_eq_false (by omega)
      have hR : acc = pieces s b := by
        have h := hr.out
        rw [show s.size + 1 - i = 0 by omega] at h
        simpa [spB] using h
      have HR := Lib.hid hR
      clear hr hR
      go_wp2_with fail
      go_ret
      rw [← HR.out]
      exact ⟨_, rfl, HO.out, HB.out⟩
end Go.Proofs.YtdmpokanfnlbgaaGreatDoor

namespace Go.Proofs.YtdmpokanfnlbgaaGreatDoor
open Go.RowKit
set_option linter.all false
set_option maxRecDepth 20000 in
set_option maxHeartbeats 3200000 in
theorem sFormat_any (u : Nat) (w : World) (hu : u ≤ 9223372036854775807) :
    Calls Tryz.prog 53 #[.int .i64 u] w fun e w' => e = .returned (.string (decB u)) ∧ Below w.heap.size w w' := by
  rcases Nat.eq_zero_or_pos u with h0 | h0
  · subst h0
    have hg : Hid (decB 0 = ⟨#[48]⟩) := by show _ = _; decide +kernel
    go_enter Tryz.func53, Tryz.ntmps53
    go_wp2_with fail
    go_ret
    rw [hg.out]
    exact ⟨rfl, Below.refl _ _⟩
  · have hne : ((u : Int) == 0) = false := by simp; omega
    have hlt : decide ((u : Int) < 0) = false := decide_eq_false (by omega)
    obtain ⟨U, hU⟩ : ∃ U : Nat, U = u := ⟨_, rfl⟩
    have HU := Lib.hid hU
    go_enter Tryz.func53, Tryz.ntmps53
    go_wp2_with fail
    clear hne hlt hU
    go_loopw [0, 4] (fun x o wr => ∃ (y : Nat) (s : ByteArray), y ≤ 9223372036854775807 ∧ x = .int .i64 y ∧ o = .string s ∧ Hid (dg y ++ s.data.toList = dg U) ∧ Below w.heap.size w wr) (fun x _ _ => (intOf x).toNat)
    case atStart => exact ⟨u, ⟨#[]⟩, hu, rfl, rfl, by show _ = _; rw [HU.out]; simp, Below.refl _ _⟩
    case round =>
      obtain ⟨y, s, hy, rfl, rfl, hr, hbl⟩ := hrel
      have hsz := dig_size (by have := HU.out; omega) hr.out
      have Hbl := Lib.hid hbl
      clear hbl
      by_cases hp : 0 < y
      · have hne : ((y : Int) != 0) = true := by simp; omega
        have HN := Lib.hid (dig_next hp hr.out)
        have HCS := catB_size (48 + UInt8.ofNat (y % 10)) s
        have hm10 : y % 10 < 10 := Nat.mod_lt _ (by omega)
        have hcv := fun z => conv_one wr z 5
        clear hr
        go_wp2_with fail
        go_roundw
        case rel => exact ⟨y / 10, catB (48 + UInt8.ofNat (y % 10)) s, by omega, by go_num, rfl, HN.out, step2 Hbl.out (belowA _ _)⟩
        case measure => (simp [intOf] <;> omega)
      · have hz : y = 0 := by omega
        subst hz
        have HE := Lib.hid (dig_done (u := U) (by have := HU.out; omega) hr.out)
        clear hr
        rw [show ((0 : Nat) : Int) = 0 from rfl]
        go_wp2_with fail
        go_ret
        exact ⟨ret_text (by rw [HE.out, HU.out]), Hbl.out⟩
theorem sFormat_succ (k : Nat) (w : World) (hk : k ≤ 1000000) :
    Calls Tryz.prog 53 #[.int .i64 ((k : Int) + 1)] w fun e w' => e = .returned (.string (decB (k + 1))) ∧ Below w.heap.size w w' := by
  have h := sFormat_any (k + 1) w (by omega)
  rw [show ((k + 1 : Nat) : Int) = (k : Int) + 1 from by omega] at h
  exact h
end Go.Proofs.YtdmpokanfnlbgaaGreatDoor

namespace Go.Proofs.YtdmpokanfnlbgaaGreatDoor
open Go.RowKit
set_option linter.all false
set_option maxRecDepth 20000 in
set_option maxHeartbeats 3200000 in
theorem l1Read_one (t : ByteArray) (d : Nat) (w : World) (hd : d ≤ 9) (hs : t.size = 1) (hb : bl t 0 = 48 + d) (hD : decB d = t) :
    Calls Tryz.prog 104 #[.string t, .int .i64 12] w fun e w' => e = .returned (.tuple #[.int .i64 d, .bool true]) ∧ Below w.heap.size w w' := by
  have HS := Lib.hid hs
  have HD := Lib.hid hD
  have h0 : 0 < t.size := by omega
  obtain ⟨x, hx⟩ : ∃ x : Nat, t[0].toNat = x := ⟨_, rfl⟩
  have hbx : x = 48 + d := by rw [← hb, bl_get h0]; exact hx.symm
  have e1 : decide ((0 : Int) < (t.size : Int)) = true := decide_eq_true (by omega)
  have e2 : ((x : Int) == 45) = false := beq_eq_false_iff_ne.2 (by omega)
  have e3 : decide ((t.size : Int) < 1) = false := decide_eq_false (by omega)
  have e4 : decide ((12 : Int) < (t.size : Int)) = false := decide_eq_false (by omega)
  have e5 : decide ((x : Int) < 48) = false := decide_eq_false (by omega)
  have e6 : decide ((57 : Int) < (x : Int)) = false := decide_eq_false (by omega)
  have HX := Lib.hid hbx
  clear hs hD hb hbx
  go_enter Tryz.func104, Tryz.ntmps104
  go_wp2_with fail
  go_loop [8, 9] (fun n i => (n = .int .i64 0 ∧ i = .int .i64 0) ∨ (n = .int .i64 d ∧ i = .int .i64 1)) (fun _ i => 1 - (intOf i).toNat)
  case atStart => exact .inl ⟨rfl, rfl⟩
  case round =>
    rcases hrel with ⟨rfl, rfl⟩ | ⟨rfl, rfl⟩
    · go_wp2_with fail
      go_round
      case rel => exact .inr ⟨by have := HX.out; subst this; go_num, rfl⟩
      case measure => simp [intOf]
    · have f1 : decide ((1 : Int) < (t.size : Int)) = false := decide_eq_false (by have := HS.out; omega)
      clear e1
      go_wp2_with (go_at_call 53; refine (sFormat_any d _ (by omega)).mono ?_; rw [HD.out]; rintro e w1 ⟨rfl, hb1⟩; have HB1 := Lib.hid hb1; clear hb1)
      go_ret2
      exact ⟨rfl, HB1.out⟩
set_option maxHeartbeats 800000 in
theorem sParseInt_one (t : ByteArray) (d : Nat) (w : World) (hd : d ≤ 9) (hs : t.size = 1) (hb : bl t 0 = 48 + d) (hD : decB d = t) :
    Calls Tryz.prog 90 #[.string t] w fun e w' => e = .returned (.tuple #[.int .i64 d, .bool true]) ∧ Below w.heap.size w w' := by
  have HC := fun W => l1Read_one t d W hd hs hb hD
  clear hs hb hD
  have HC := Lib.hid HC
  go_enter Tryz.func90, Tryz.ntmps90
  go_wp2_with (go_at_call 104; refine (HC.out _).mono ?_; rintro e w1 ⟨rfl, hb1⟩; have HB1 := Lib.hid hb1; clear hb1)
  go_ret2
  exact ⟨rfl, HB1.out⟩
end Go.Proofs.YtdmpokanfnlbgaaGreatDoor

namespace Go.Proofs.YtdmpokanfnlbgaaGreatDoor
open Go.RowKit
set_option linter.all false
def digB (d : Nat) : ByteArray := ⟨#[UInt8.ofNat (48 + d)]⟩
theorem digB_dec {d : Nat} (h : d ≤ 9) : decB d = digB d := by
  unfold decB digB
  rw [Lib.decDigits, dif_pos (by omega), ofNat48]
theorem digB_bl {d : Nat} (h : d ≤ 9) : bl (digB d) 0 = 48 + d := by
  have : ∀ k : Fin 10, bl (digB k.val) 0 = 48 + k.val := by decide
  exact this ⟨d, by omega⟩
theorem parseDig_any (d : Nat) (w : World) (hd : d ≤ 9) : Calls Tryz.prog 90 #[.string (digB d)] w fun e w' => e = .returned (.tuple #[.int .i64 d, .bool true]) ∧ Below w.heap.size w w' :=
  sParseInt_one (digB d) d w hd rfl (digB_bl hd) (digB_dec hd)
end Go.Proofs.YtdmpokanfnlbgaaGreatDoor

namespace Go.Proofs.YtdmpokanfnlbgaaGreatDoor
open Go.RowKit
set_option linter.all false
theorem wpList_push_rowC {ops : Array Oper} {rest : List Oper} {o : Oper} {a : Act} {Q : Exit → Act → World → Prop} (W : World) (u : Value) (wr : World) (hgd : o.guard = none) (s x : Operand)
    (ho : o.op = .call { callee := .builtin .append, args := #[s, x], argTypes := #[24, 24] })
    (lo : Nat) (v : Value) (n : Nat) (xss : List (List Int)) (hs : a.eval s = v) (h : OIntss wr lo v n xss) (hn : n + 1 ≤ 1099511627776) (hlo : lo ≤ wr.heap.size) (hW : Below wr.heap.size wr W)
    (m : Nat) (r : List Int) (hu : OInts W wr.heap.size u m r) (tb : Nat) (htb : tb = W.heap.size) (hx : a.eval x = .slice (some ⟨tb, 0, none⟩) 1 1)
    (K : ∀ v' w', OIntss w' lo v' (n + 1) (xss ++ [r]) → W.grownBy w' v.ownBlock → NewOr W.heap.size v v' → wpList Tryz.prog ops Q rest (a.put o.dst v') w') : wpList Tryz.prog ops Q (o :: rest) a (W.alloc (.cells #[u] 49)) := by
  subst htb
  have hml := hu.len
  subst hml
  have hW2 : Below wr.heap.size wr (W.alloc (.cells #[u] 49)) := hW.alloc hW.size _
  obtain ⟨i0, hi, hz0, hz1, hz2⟩ := info_parts info_ints
  have hk := h.keep hW2
  have hu2 := (hu.alloc (.cells #[u] 49)).mono hlo
  have hfar := far_new h hW2 fun b hb => (hu.ownlt b hb).1
  obtain ⟨h1, h2, vs, hv, hr, hd⟩ := hk
  have hone : u.oneCell' = true := by
    rcases hu.2.2 with ⟨rfl, _⟩ | ⟨_, _, _, rfl, _⟩ <;> rfl
  refine wpList_plain hgd fun K' hK => ?_
  obtain ⟨v', w', hrun, q2, q3, _, q5⟩ := run_append_own_at (P := Tryz.prog) (W.alloc (.cells #[u] 49)) lo 24 o.type 49 i0 (.slice none 0 0) 1 24 Tryz.underlying24 hi hz0 hz1 hz2 rfl (by decide) v n vs hv ⟨W.heap.size, 0, none⟩ 1 1 [u] rfl
    (by
      intro j u' hj
      match j, hj with
      | 0, hj =>
        simp at hj
        subst hj
        exact World.cell?_alloc_new _ _ _ _)
    (by
      intro u' hu'
      simp at hu'
      subst hu'
      exact hone) (by unfold maxLen; omega) (by omega) (by simp; have := hW.size; omega)
  unfold Oper.wp execOp
  simp only [ho, resolve, invoke, builtin, Sem.run_bind, Sem.run_pure, Result.andThen_ok, List.map_toArray, List.map_cons, List.map_nil, hs, hx, hrun]
  refine hK _ _ (K v' w' ?_ ((grown_alloc W _ _).trans q3) ?_)
  · exact OIntss.pushed ⟨h1, h2, vs, hv, hr, hd⟩ hn hu2 hfar q3 fun vs' hv' => by rw [own_unique hv' hv]; exact q2
  · rcases q5 with h5 | h5
    · exact .inl h5
    · exact .inr ⟨_, h5, by simp⟩
end Go.Proofs.YtdmpokanfnlbgaaGreatDoor

namespace Go.Proofs.YtdmpokanfnlbgaaGreatDoor
open Go.RowKit
set_option linter.all false
set_option maxHeartbeats 800000 in
theorem sIsMatrix_any (ao : Option Addr) (n cap : Nat) (xss : List (List Int)) (w : World) (h : Intss w ao n xss) :
    Calls Tryz.prog 41 #[.slice ao n cap] w fun e w' => e = .returned (.bool (isMat xss)) ∧ w = w' := by
  have hm := h.2.1
  have HL := Lib.hid h.1
  have hg : Hid (isMat xss = (tabIn n 0 1000000 xss && inR n 1 9)) := by show isMat xss = _; unfold isMat; rw [h.1]
  have H := Lib.hid h
  clear h
  go_enter Tryz.func41, Tryz.ntmps41
  go_wp2
  go_loop [3] (fun i => ∃ k : Nat, k ≤ n ∧ i = .int .i64 k ∧ Hid (tabIn n 0 1000000 (xss.drop k) = tabIn n 0 1000000 xss)) (fun i => n - (intOf i).toNat)
  case atStart => exact ⟨0, Nat.zero_le _, rfl, rfl⟩
  case round =>
    obtain ⟨k, hk, rfl, hr⟩ := hrel
    by_cases hlt : k < n
    · obtain ⟨b, o, ai, ci, r, rfl, hcell, hrow, hget⟩ := H.out.at_ hlt
      clear H
      have Hst := Lib.hid (tabIn_step hget.out hr.out)
      have Hrow := Lib.hid hrow
      clear hrow hr
      by_cases hrl : r.length = n
      · have hne : ((r.length : Int) != (n : Int)) = false := by simp [hrl]
        have HRL := Lib.hid hrl
        clear hrl
        go_wp2
        go_loop [4] (fun i => ∃ j : Nat, j ≤ n ∧ i = .int .i64 j ∧ Hid (allIn 0 1000000 (r.drop j) = allIn 0 1000000 r)) (fun i => n - (intOf i).toNat)
        case atStart => exact ⟨0, Nat.zero_le _, rfl, rfl⟩
        case round =>
          obtain ⟨j, hj, rfl, hrj⟩ := hrel
          by_cases hjn : j < n
          · obtain ⟨b', o', x, rfl, hcell', hget'⟩ := Hrow.out.at_ (k := j) (by have := HRL.out; omega)
            clear Hrow
            have hjr : j < r.length := by have := HRL.out; omega
            have Hsj := Lib.hid (allIn_step hget'.out hrj.out)
            clear hrj
            cases hi : inR x 0 1000000
            · have hr1 : Hid _ := Hst.out.2.1 (Hsj.out.2 hi)
              clear Hst Hsj
              go_wp2_with (first | (go_at_call 33; refine (l1In_any _ _ _ _).mono ?_; rintro e w' ⟨rfl, rfl⟩))
              go_ret
              exact ⟨ret_bool (by rw [hg.out, hr1.out]; rfl), rfl⟩
            · have hr1 : Hid _ := Hsj.out.1 hi
              clear Hst Hsj
              go_wp2_with (first | (go_at_call 33; refine (l1In_any _ _ _ _).mono ?_; rintro e w' ⟨rfl, rfl⟩))
              go_round
              case rel => exact ⟨j + 1, hjn, by go_num, hr1⟩
              case measure => simp [intOf]; omega
          · have hr1 : Hid _ := Hst.out.2.2 HRL.out (by have := hrj.out; rw [drop_all r j (by have := HRL.out; omega)] at this; exact this.symm)
            clear Hst hrj Hrow
            go_wp2
            go_round
            case rel => exact ⟨k + 1, hlt, by go_num, hr1⟩
            case measure => simp [intOf]; omega
      · have hne : ((r.length : Int) != (n : Int)) = true := by simp; omega
        have hr1 : Hid _ := Hst.out.1 hrl
        clear Hst hrl
        go_wp2
        go_ret
        exact ⟨ret_bool (by rw [hg.out, hr1.out]; rfl), rfl⟩
    · rw [drop_all xss k (by have := HL.out; omega)] at hr
      have hr1 : Hid _ := hr.out.symm
      clear hr H
      go_wp2_with (first | (go_at_call 33; refine (l1In_any _ _ _ _).mono ?_; rintro e w' ⟨rfl, rfl⟩))
      go_ret
      exact ⟨ret_bool (by rw [hg.out, hr1.out]; rfl), rfl⟩
end Go.Proofs.YtdmpokanfnlbgaaGreatDoor

namespace Go.Proofs.YtdmpokanfnlbgaaGreatDoor
open Go.RowKit
set_option linter.all false
def toI (d : Nat) : Int := d
def intM (M : List (List Nat)) : List (List Int) := M.map (fun q => q.map toI)
def readsAs (s : ByteArray) (M : List (List Nat)) : Prop := (pieces s 47).map (fun r => pieces r 44) = M.map (fun q => q.map digB) ∧ (∀ q ∈ M, q.length ≤ 9 ∧ ∀ d ∈ q, d ≤ 9) ∧ isMat (intM M) = true ∧ s.size ≤ 1000
theorem apart_fresh {w w' : World} {lo n : Nat} {u v : Value} {ss : List ByteArray} (hv : ∀ b, v.ownBlock = some b → b < w.heap.size) (hu : OStrs w' w.heap.size u n ss) : Apart u v := by
  intro b h1 h2
  have e1 := (hu.ownlt b h1).1
  have e2 := hv b h2
  omega
theorem pieces_size {s : ByteArray} {b : Nat} : ∀ {f fr i : Nat} {t : ByteArray}, i ≤ s.size → t ∈ spB s b f fr i → i + f ≤ s.size + 1 → t.size ≤ s.size
  | 0, _, _, _, _, h, _ => by simp [spB] at h
  | f + 1, fr, i, t, hi, h, hf => by
    unfold spB at h
    split at h
    · rcases List.mem_cons.1 h with rfl | h
      · rw [ByteArray.size_extract]; omega
      · by_cases e : i + 1 ≤ s.size
        · exact pieces_size e h (by omega)
        · have : f = 0 := by omega
          subst this
          simp [spB] at h
    · by_cases e : i + 1 ≤ s.size
      · exact pieces_size e h (by omega)
      · have : f = 0 := by omega
        subst this
        simp [spB] at h
theorem intM_get {M : List (List Nat)} {k : Nat} {q : List Nat} (h : M[k]? = some q) : (intM M)[k]? = some (q.map toI) := by simp [intM, h]
set_option maxRecDepth 20000 in
set_option maxHeartbeats 3200000 in
theorem sParse_any (s : ByteArray) (M : List (List Nat)) (w : World) (h : readsAs s M) :
    Calls Tryz.prog 66 #[.string s] w fun e w' => ∃ v, e = .returned (.tuple #[v, .bool true]) ∧ OIntss w' w.heap.size v (intM M).length (intM M) ∧ Below w.heap.size w w' := by
  obtain ⟨h1, h2, h3, h4⟩ := h
  have HE := Lib.hid (OIntss.empty w w.heap.size (Nat.le_refl _))
  have HBE := Lib.hid ((Below.refl w.heap.size w).alloc (Nat.le_refl _) (.cells #[] 49))
  have H3 := Lib.hid h3
  have hl9 := isMat_len h3
  have hMl : (intM M).length = M.length := by simp [intM]
  have hLl : (pieces s 47).length = M.length := by have := congrArg List.length h1; simpa using this
  have HK : Hid (∀ (k : Nat) (t : ByteArray), (pieces s 47)[k]? = some t → t.size ≤ 1000000 ∧ ∃ q, M[k]? = some q ∧ pieces t 44 = q.map digB ∧ q.length ≤ 9 ∧ ∀ d ∈ q, d ≤ 9) := by
    show ∀ (k : Nat) (t : ByteArray), _
    intro k t ht
    have e := congrArg (fun l => l[k]?) h1
    simp only [List.getElem?_map, ht, Option.map_some] at e
    cases hq : M[k]? with
    | none => rw [hq] at e; simp at e
    | some q =>
      rw [hq] at e
      simp at e
      have := pieces_size (Nat.zero_le _) (List.mem_of_getElem? ht) (by omega)
      exact ⟨by omega, q, rfl, e, h2 q (List.mem_of_getElem? hq)⟩
  clear h1 h2 h3
  generalize hL : pieces s 47 = L at HK hLl
  have HC := fun W => sSplitByte_any s 47 W (by omega) (by omega)
  rw [hL] at HC
  have HC := Lib.hid HC
  clear hL
  have hL9 : L.length ≤ 9 := by omega
  go_enter Tryz.func66, Tryz.ntmps66
  go_wp2_with (go_at_call 89; refine (HC.out _).mono ?_; rintro e w1 ⟨v1, rfl, ho1, hb1⟩; obtain ⟨a1, c1, rfl, hi1⟩ := ho1.form; have HA := Lib.hid (apart_fresh (lo := 0) (fun b hb => (HE.out.ownlt b hb).2) ho1); have HO1 := Lib.hid (ho1.mono HBE.out.size); have HB1 := Lib.hid (step2 HBE.out hb1); have HE1 := Lib.hid (HE.out.keep hb1); clear ho1 hi1 hb1)
  clear HC
  go_loopw [4, 6] (fun v x wr => ∃ k : Nat, k ≤ L.length ∧ x = .int .i64 k ∧ OIntss wr w.heap.size v k ((intM M).take k) ∧ OStrs wr w.heap.size (.slice a1 L.length c1) L.length L ∧ Apart (.slice a1 L.length c1) v ∧ Below w.heap.size w wr) (fun _ x _ => L.length - (intOf x).toNat)
  case atStart => exact ⟨0, Nat.zero_le _, rfl, HE1.out, HO1.out, HA.out, HB1.out⟩
  case round =>
    obtain ⟨k, hk, rfl, hown, hst, hap, hbl⟩ := hrel
    obtain ⟨wo, rfl⟩ : ∃ wo : World, wo = wr := ⟨_, rfl⟩
    obtain ⟨a7, c7, rfl, _⟩ := hown.form
    clear HE HBE HA HO1 HB1 HE1
    have HO := Lib.hid hown
    have HB := Lib.hid hbl
    have HST := Lib.hid hst
    have HAP := Lib.hid hap
    clear hown hbl hst hap
    by_cases hlt : k < L.length
    · obtain ⟨b, o, t, rfl, hc, hs⟩ := HST.out.read.at_ hlt
      obtain ⟨ht, q, hq, hpc, hq9, hd9⟩ := HK.out k t hs.out
      have HQ := Lib.hid hq
      have HD9 := Lib.hid hd9
      have HRE := Lib.hid (OInts.empty wo wo.heap.size (Nat.le_refl _))
      have HRB := Lib.hid ((Below.refl wo.heap.size wo).alloc (Nat.le_refl _) (.cells #[] 3))
      have hc2 := (HRB.out.cell (World.block_lt_of_cell? wo _ hc)).trans hc
      have HC := fun W => sSplitByte_any t 44 W ht (by omega)
      rw [hpc] at HC
      simp only [List.length_map] at HC
      have HC := Lib.hid HC
      clear hs hq hpc hd9 hc
      go_wp2_with (go_at_call 89; refine (HC.out _).mono ?_; rintro e w2 ⟨v2, rfl, ho2, hb2⟩; obtain ⟨a2, c2, rfl, hi2⟩ := ho2.form; have HA2 := Lib.hid (apart_fresh (lo := 0) (fun b hb => (HRE.out.ownlt b hb).2) ho2); have HO2 := Lib.hid (ho2.mono HRB.out.size); have HB2 := Lib.hid (step2 HRB.out hb2); have HR2 := Lib.hid (HRE.out.keep hb2); clear ho2 hi2 hb2)
      clear HC hc2
      go_loopw [7, 9] (fun v x wx => ∃ j : Nat, j ≤ q.length ∧ x = .int .i64 j ∧ OInts wx wo.heap.size v j ((q.map toI).take j) ∧ OStrs wx wo.heap.size (.slice a2 q.length c2) q.length (q.map digB) ∧ Apart (.slice a2 q.length c2) v ∧ Below wo.heap.size wo wx) (fun _ x _ => q.length - (intOf x).toNat)
      case atStart => exact ⟨0, Nat.zero_le _, rfl, HR2.out, HO2.out, HA2.out, HB2.out⟩
      case round =>
        obtain ⟨j, hj, rfl, hline, hpt, hap2, hbx⟩ := hrel
        obtain ⟨a9, c9, rfl, _⟩ := hline.form
        clear HRE HRB HA2 HO2 HB2 HR2
        have HLI := Lib.hid hline
        have HPT := Lib.hid hpt
        have HAX := Lib.hid hap2
        have HBX := Lib.hid hbx
        clear hline hpt hap2 hbx
        by_cases hjn : j < q.length
        · obtain ⟨b2, o2, y, rfl, hcy, hsy⟩ := HPT.out.read.at_ hjn
          have hqj : q[j]? = some q[j] := List.getElem?_eq_getElem hjn
          have hy : y = digB q[j] := by
            have := hsy.out
            rw [List.getElem?_map, hqj] at this
            injection this with this
            exact this.symm
          have hd := HD9.out q[j] (List.getElem_mem _)
          have HN : Hid ((q.map toI)[j]? = some ((q[j] : Nat) : Int)) := by show _ = _; simp [hqj, toI]
          generalize q[j] = d at hy hd HN
          subst hy
          clear hsy hqj
          go_wp2_with (first
            | (at_builtin; refine wpList_push_at w3 _ rfl (.tmp 44) (.tmp 46) rfl wo.heap.size _ _ _ rfl HL3.out (by omega) (by exact HB3.out.size) _ rfl rfl ?_; intro v5 w5 ho5 hg5 hn5; have HO5 := Lib.hid ho5; have HB5 := Lib.hid (HB3.out.grown hg5 HB3.out.size (fun b hb => (HL3.out.ownlt b hb).1)); have HP5 := Lib.hid (HP3.out.far hg5 HAX.out); have HA5 := Lib.hid (hn5.apart HAX.out (fun b hb => (HP3.out.ownlt b hb).2)); clear ho5 hg5 hn5)
            | (go_at_call 90; refine (parseDig_any d _ hd).mono ?_; rintro e w3 ⟨rfl, hb3⟩; have HB3 := Lib.hid (step2 HBX.out hb3); have HL3 := Lib.hid (HLI.out.keep hb3); have HP3 := Lib.hid (HPT.out.keep hb3); clear hb3))
          go_roundw
          case rel =>
            have h5 := HO5.out
            rw [push_take HN.out] at h5
            exact ⟨j + 1, hjn, by go_num, h5, HP5.out, HA5.out, HB5.out⟩
          case measure => (simp [intOf] <;> omega)
        · have HFU : Hid (OInts wr wo.heap.size (.slice a9 j c9) q.length (q.map toI)) := by
            have h := HLI.out
            rw [List.take_of_length_le (by simp; omega)] at h
            rw [show q.length = j by omega]
            exact h
          go_wp2_with (first | (at_builtin; refine wpList_push_rowC _ _ wo rfl (.tmp 48) (.tmp 50) rfl w.heap.size _ k _ rfl HO.out (by omega) HB.out.size HBX.out _ _ HFU.out _ (by rfl) rfl ?_; intro v6 w6 ho6 hg6 hn6; have HO6 := Lib.hid ho6; have HB6 := Lib.hid (((HB.out.trans (HBX.out.mono HB.out.size))).grown hg6 (Nat.le_trans HB.out.size HBX.out.size) (fun b hb => (HO.out.ownlt b hb).1)); have HST6 := Lib.hid ((HST.out.keep HBX.out).far hg6 HAP.out); have HAP6 := Lib.hid (hn6.apart HAP.out (fun b hb => Nat.lt_of_lt_of_le (HST.out.ownlt b hb).2 HBX.out.size)); clear ho6 hg6 hn6))
          go_roundw
          case rel =>
            have h6 := HO6.out
            rw [push_take (intM_get HQ.out)] at h6
            exact ⟨k + 1, hlt, by go_num, h6, HST6.out, HAP6.out, HB6.out⟩
          case measure => (simp [intOf] <;> omega)
    · have hke : k = (intM M).length := by omega
      have HF : Hid (OIntss wo w.heap.size (.slice a7 k c7) k (intM M)) := by
        have h := HO.out
        rw [List.take_of_length_le (by omega)] at h
        exact h
      have HFI : Hid (Intss wo a7 k (intM M)) := by
        obtain ⟨ax, cx, e, hx⟩ := HF.out.form
        cases e
        exact hx
      have HKE := Lib.hid hke
      clear hke hMl
      go_wp2_with (go_at_call 41; refine (sIsMatrix_any _ _ _ (intM M) _ HFI.out).mono ?_; rw [H3.out]; rintro e w' ⟨rfl, rfl⟩)
      go_ret2
      rw [← HKE.out]
      exact ⟨_, rfl, HF.out, HB.out⟩
end Go.Proofs.YtdmpokanfnlbgaaGreatDoor
