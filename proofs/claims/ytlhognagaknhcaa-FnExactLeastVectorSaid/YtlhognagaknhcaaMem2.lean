/- Words for memory: a slice of slices of ints. -/
import Derived.Test.YtlhognagaknhcaaProg
import Derived.Test.YtlhognagaknhcaaMem
namespace Go.Proofs.Ytlhognagaknhcaa
open Go.RowKit
set_option linter.all false
theorem info_ints : (Try.prog.info? 24).map (fun i => (i.zero, i.size, i.bytes)) = some (some (.slice none 0 0), 1, 24) := by kernel_rfl

/-- The slice value '.slice ao n cap' reads in w as the list xss of lists. -/
def Intss (w : World) (ao : Option Addr) (n : Nat) (xss : List (List Int)) : Prop :=
  xss.length = n ∧ n ≤ 1099511627776 ∧ ∀ i r, xss[i]? = some r → ∃ b o ai ci, ao = some ⟨b, o, none⟩ ∧ w.cell? ⟨b, o + i, none⟩ = some (.slice ai r.length ci) ∧ Ints w ai r.length r ∧ r.length ≤ ci

theorem Intss.keep {w w' : World} {ao : Option Addr} {n : Nat} {xss : List (List Int)} (h : Intss w ao n xss) (hb : Below w.heap.size w w') : Intss w' ao n xss := by
  refine ⟨h.1, h.2.1, fun i r hi => ?_⟩
  obtain ⟨b, o, ai, ci, e, hc, hr, hl⟩ := h.2.2 i r hi
  exact ⟨b, o, ai, ci, e, (hb.cell (p := ⟨b, o + i, none⟩) (World.block_lt_of_cell? w _ hc)).trans hc, hr.keep hb, hl⟩

theorem Intss.drewN {w : World} {ao : Option Addr} {n : Nat} {xss : List (List Int)} (h : Intss w ao n xss) (k : Nat) : Intss (w.drewN k) ao n xss := h

theorem Intss.at_ {w : World} {ao : Option Addr} {n k : Nat} {xss : List (List Int)} (h : Intss w ao n xss) (hk : k < n) :
    ∃ b o ai ci r, ao = some ⟨b, o, none⟩ ∧ w.cell? ⟨b, o + k, none⟩ = some (.slice ai r.length ci) ∧ Ints w ai r.length r ∧ Hid (xss[k]? = some r) := by
  have hl : k < xss.length := by rw [h.1]; exact hk
  obtain ⟨b, o, ai, ci, e, hc, hr, _⟩ := h.2.2 k xss[k] (List.getElem?_eq_getElem hl)
  exact ⟨b, o, ai, ci, _, e, hc, hr, List.getElem?_eq_getElem hl⟩
theorem Intss.cap_ {w : World} {ao : Option Addr} {n k : Nat} {xss : List (List Int)} (h : Intss w ao n xss) (hk : k < n) :
    ∃ b o ai ci r, ao = some ⟨b, o, none⟩ ∧ w.cell? ⟨b, o + k, none⟩ = some (.slice ai r.length ci) ∧ Ints w ai r.length r ∧ Hid (xss[k]? = some r) ∧ r.length ≤ ci := by
  have hl : k < xss.length := by rw [h.1]; exact hk
  obtain ⟨b, o, ai, ci, e, hc, hr, hl2⟩ := h.2.2 k xss[k] (List.getElem?_eq_getElem hl)
  exact ⟨b, o, ai, ci, _, e, hc, hr, List.getElem?_eq_getElem hl, hl2⟩

theorem OInts.capLe {w : World} {lo n m cap : Nat} {v : Value} {ao : Option Addr} {xs : List Int} (h : OInts w lo v n xs) (e : v = .slice ao m cap) : n ≤ cap := by
  rcases h.2.2 with ⟨rfl, rfl⟩ | ⟨g, c, cur, rfl, _, _, hnc, _⟩
  · exact Nat.zero_le _
  · injection e with _ _ e3
    omega

/-- The slice value v and its rows are the call's own, and hold just xss; no two rows share a block. -/
def OIntss (w : World) (lo : Nat) (v : Value) (n : Nat) (xss : List (List Int)) : Prop :=
  n ≤ 1099511627776 ∧ xss.length = n ∧ ∃ vs : List Value, w.ownsRow lo 24 1 v n vs ∧
    (∀ (i : Nat) (u : Value) (r : List Int), vs[i]? = some u → xss[i]? = some r → OInts w lo u r.length r) ∧
    (∀ (i j : Nat) (u u' : Value), i ≠ j → vs[i]? = some u → vs[j]? = some u' → u.ownBlock = none ∨ u.ownBlock ≠ u'.ownBlock)

section
variable {w w' : World} {lo n : Nat} {v : Value} {xss : List (List Int)}
theorem OIntss.len (h : OIntss w lo v n xss) : xss.length = n := h.2.1
theorem OIntss.keep (h : OIntss w lo v n xss) (hb : Below w.heap.size w w') : OIntss w' lo v n xss := by
  obtain ⟨h1, h2, vs, ho, hr, hd⟩ := h
  exact ⟨h1, h2, vs, own_keep ho hb, fun i u r hu hr' => (hr i u r hu hr').keep hb, hd⟩
theorem OIntss.alloc (h : OIntss w lo v n xss) (o : Obj) : OIntss (w.alloc o) lo v n xss := h.keep ((Below.refl _ _).alloc (Nat.le_refl _) o)
theorem OIntss.drewN (h : OIntss w lo v n xss) (k : Nat) : OIntss (w.drewN k) lo v n xss := h
theorem OIntss.mono {lo' : Nat} (h : OIntss w lo v n xss) (hl : lo' ≤ lo) : OIntss w lo' v n xss := by
  obtain ⟨h1, h2, vs, ho, hr, hd⟩ := h
  refine ⟨h1, h2, vs, ⟨ho.1, ?_⟩, fun i u r hu hr' => (hr i u r hu hr').mono hl, hd⟩
  rcases ho.2 with h2 | ⟨g, cap, cur, hv, hg, r⟩
  · exact .inl h2
  · exact .inr ⟨g, cap, cur, hv, Nat.le_trans hl hg, r⟩
theorem OIntss.form (h : OIntss w lo v n xss) : ∃ ao cap, v = .slice ao n cap ∧ Intss w ao n xss := by
  obtain ⟨h1, h2, vs, ho, hr, hd⟩ := h
  have hvl : vs.length = n := by simpa using ho.1
  rcases ho.2 with ⟨rfl, rfl⟩ | ⟨g, cap, cur, rfl, hg, hh, hnc, _, _, ht⟩
  · exact ⟨none, 0, rfl, h2, h1, fun i r hi => by rw [List.eq_nil_of_length_eq_zero h2] at hi; simp at hi⟩
  · refine ⟨some ⟨g, 0, none⟩, cap, rfl, h2, h1, fun i r hi => ?_⟩
    have hil : i < n := by rw [← h2]; exact (List.getElem?_eq_some_iff.1 hi).1
    have hv : vs[i]? = some vs[i] := List.getElem?_eq_getElem (by omega)
    obtain ⟨ai, ci, e, hints⟩ := (hr i _ r hv hi).form
    have hcap := (hr i _ r hv hi).capLe e
    have hc := ho.cells (g := g) rfl i _ hv
    rw [Addr.add_lit, e] at hc
    exact ⟨g, 0, ai, ci, rfl, hc, hints, hcap⟩
end

section
variable {w w' : World} {lo g n cap : Nat} {xss : List (List Int)}
theorem OIntss.intss (h : OIntss w lo (.slice (some ⟨g, 0, none⟩) n cap) n xss) : Intss w (some ⟨g, 0, none⟩) n xss := by
  obtain ⟨ao, c, e, hi⟩ := h.form
  injection e with e1 e2 e3
  subst e1
  exact hi
theorem OIntss.lt (h : OIntss w lo (.slice (some ⟨g, 0, none⟩) n cap) n xss) : lo ≤ g ∧ g < w.heap.size := by
  obtain ⟨_, _, vs, ho, _⟩ := h
  exact ho.lt g rfl
theorem OIntss.frozen (h : OIntss w lo (.slice (some ⟨g, 0, none⟩) n cap) n xss) (k : Nat) : w.frozen? ⟨g, k, none⟩ = false := by
  obtain ⟨_, _, vs, ho, _⟩ := h
  exact ho.frozenAt k
/-- The cell of a row. -/
theorem OIntss.cell (h : OIntss w lo (.slice (some ⟨g, 0, none⟩) n cap) n xss) (k : Nat) (hk : k < n) :
    ∃ u r, w.cell? ⟨g, k, none⟩ = some u ∧ xss[k]? = some r ∧ OInts w lo u r.length r ∧ u.ownBlock ≠ some g := by
  obtain ⟨h1, h2, vs, ho, hr, hd⟩ := h
  have hvl : vs.length = n := by simpa using ho.1
  have hv : vs[k]? = some vs[k] := List.getElem?_eq_getElem (by omega)
  have hx : xss[k]? = some xss[k] := List.getElem?_eq_getElem (by omega)
  have hc := ho.cells (g := g) rfl k _ hv
  rw [Addr.add_lit] at hc
  refine ⟨_, _, by simpa using hc, hx, hr k _ _ hv hx, ?_⟩
  intro e
  rcases (hr k _ _ hv hx).2.2 with ⟨e2, _⟩ | ⟨g', cap', cur', e2, _, hh, _⟩
  · rw [e2] at e; simp [Value.ownBlock] at e
  · rw [e2] at e
    simp [Value.ownBlock] at e
    subst e
    rcases ho.2 with ⟨e3, _⟩ | ⟨g3, cap3, cur3, e3, _, hh3, _⟩
    · simp at e3
    · simp only [Value.slice.injEq, Option.some.injEq, Addr.mk.injEq, and_true, true_and] at e3
      obtain ⟨rfl, rfl⟩ := e3
      rw [hh] at hh3
      simp at hh3
/-- A row of the call's own is stored; it lies in a block of its own. -/
theorem OIntss.set (h : OIntss w lo (.slice (some ⟨g, 0, none⟩) n cap) n xss) (k : Nat) {u : Value} {r : List Int} (hu : OInts w lo u r.length r)
    (hnew : ∀ b, u.ownBlock = some b → ∀ i u' r', i ≠ k → w.cell? ⟨g, i, none⟩ = some u' → xss[i]? = some r' → u'.ownBlock ≠ some b) :
    OIntss (w.setCell ⟨g, k, none⟩ u) lo (.slice (some ⟨g, 0, none⟩) n cap) n (xss.set k r) := by
  obtain ⟨h1, h2, vs, ho, hr, hd⟩ := h
  have hvl : vs.length = n := by simpa using ho.1
  have hst := ho.stored k u
  have hg : ∀ {u' : Value} {r' : List Int}, OInts w lo u' r'.length r' → u'.ownBlock = none ∨ u'.ownBlock ≠ some g := by
    intro u' r' ho'
    rcases ho'.2.2 with ⟨rfl, _⟩ | ⟨g', cap', cur', rfl, _, hh, _⟩
    · exact .inl rfl
    · right
      intro e
      simp [Value.ownBlock] at e
      subst e
      rcases ho.2 with ⟨e3, _⟩ | ⟨g3, cap3, cur3, e3, _, hh3, _⟩
      · simp at e3
      · simp only [Value.slice.injEq, Option.some.injEq, Addr.mk.injEq, and_true, true_and] at e3
        obtain ⟨rfl, rfl⟩ := e3
        rw [hh] at hh3
        simp at hh3
  have hcell : ∀ i u', vs[i]? = some u' → w.cell? ⟨g, i, none⟩ = some u' := by
    intro i u' hv
    have hc := ho.cells (g := g) rfl i _ hv
    rw [Addr.add_lit] at hc
    simpa using hc
  refine ⟨h1, by simpa using h2, vs.set k u, hst.1, ?_, ?_⟩
  · intro i u' r' hv hx
    rw [List.getElem?_set] at hv hx
    by_cases e : k = i
    · rw [if_pos e] at hv hx
      split at hv <;> split at hx <;> simp_all
      obtain ⟨rfl⟩ := hv
      obtain ⟨rfl⟩ := hx
      exact hu.grown hst.2 (hg hu)
    · rw [if_neg e] at hv hx
      exact (hr i u' r' hv hx).grown hst.2 (hg (hr i u' r' hv hx))
  · have key : ∀ i u', i ≠ k → vs[i]? = some u' → u.ownBlock = none ∨ u.ownBlock ≠ u'.ownBlock := by
      intro i u' hik hv
      cases hb : u.ownBlock with
      | none => exact .inl rfl
      | some b =>
        right
        have hi : i < xss.length := by rw [h2, ← hvl]; exact (List.getElem?_eq_some_iff.1 hv).1
        exact fun e => hnew b hb i u' _ hik (hcell i u' hv) (List.getElem?_eq_getElem hi) e.symm
    intro i j u1 u2 hij h3 h4
    rw [List.getElem?_set] at h3 h4
    by_cases ei : k = i
    · rw [if_pos ei] at h3
      rw [if_neg (by omega)] at h4
      split at h3
      · injection h3 with h3
        subst h3
        exact key j u2 (by omega) h4
      · cases h3
    · rw [if_neg ei] at h3
      by_cases ej : k = j
      · rw [if_pos ej] at h4
        split at h4
        · injection h4 with h4
          subst h4
          rcases key i u1 (by omega) h3 with h5 | h5
          · cases hb : u1.ownBlock with
            | none => exact .inl rfl
            | some b => right; rw [h5]; simp
          · cases hb : u1.ownBlock with
            | none => exact .inl rfl
            | some b => right; rw [← hb]; exact fun e => h5 e.symm
        · cases h4
      · rw [if_neg ej] at h4
        exact hd i j u1 u2 hij h3 h4
end

/-- What 'make([][]int, n)' leaves: n nil rows. -/
theorem OIntss.made (w : World) (n : Nat) (hn : n ≤ 1099511627776) : OIntss (w.alloc (.cells (madeCells #[.slice none 0 0] n) 24)) w.heap.size (.slice (some ⟨w.heap.size, 0, none⟩) n n) n (List.replicate n []) := by
  have h := World.ownsRow_lit (base := w.heap.size) (e := 24) (size := 1) w (madeCells #[.slice none 0 0] n) n (Nat.le_refl _) (by unfold maxLen; omega) (by simp [madeCells])
  rw [toList_madeCells_one] at h
  refine ⟨hn, by simp, _, h, ?_, ?_⟩
  · intro i u r hu hr
    have e1 : u = .slice none 0 0 := by rw [List.getElem?_replicate] at hu; split at hu <;> simp_all
    have e2 : r = [] := by rw [List.getElem?_replicate] at hr; split at hr <;> simp_all
    subst e1
    subst e2
    exact ⟨by simp, by simp, .inl ⟨rfl, rfl⟩⟩
  · intro i j u u' _ hu _
    left
    rw [List.getElem?_replicate] at hu
    split at hu
    · injection hu with hu
      subst hu
      rfl
    · cases hu

theorem make_intss (n : Nat) (hn : n ≤ 1099511627776) (w : World) :
    (Instr.makeSlice 22 (.int .i64 (n : Int)) (.int .i64 (n : Int))).run Try.prog w = .ok (.slice (some ⟨w.heap.size, 0, none⟩) n n) (w.alloc (.cells (madeCells #[.slice none 0 0] n) 24)) :=
  run_make_row' (P := Try.prog) 22 24 (.slice none 0 0) 24 Try.underlying22 info_ints rfl .i64 .i64 n (by omega) (by omega) w
end Go.Proofs.Ytlhognagaknhcaa
