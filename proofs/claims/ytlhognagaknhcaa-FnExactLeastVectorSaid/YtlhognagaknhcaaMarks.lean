/- Numbers written into a slice, one after the other, to see whether two slices share memory. -/
import Derived.Test.YtlhognagaknhcaaMem3
import Derived.Test.YtlhognagaknhcaaFill
namespace Go.Proofs.Ytlhognagaknhcaa
open Go.RowKit
set_option linter.all false
def marks (k : Int) (n : Nat) : List Int := (List.range n).map (fun i => k + (i : Nat))
theorem marks_len (k : Int) (n : Nat) : (marks k n).length = n := by simp [marks]
theorem marks_get {k : Int} {n i : Nat} (h : i < n) : (marks k n)[i]? = some (k + (i : Nat)) := by simp [marks, h]
def markT : Int → List (List Int) → List (List Int)
  | _, [] => []
  | k, r :: rs => marks k r.length :: markT (k + r.length) rs
def tot (xss : List (List Int)) : Int := (xss.map (fun r => (r.length : Int))).sum
theorem markT_len : ∀ (xss : List (List Int)) (k : Int), (markT k xss).length = xss.length
  | [], _ => rfl
  | r :: rs, k => by simp [markT, markT_len rs]
theorem tot_cons (r : List Int) (rs : List (List Int)) : tot (r :: rs) = r.length + tot rs := by simp [tot]
theorem tot_nonneg : ∀ (xss : List (List Int)), 0 ≤ tot xss
  | [] => by simp [tot]
  | r :: rs => by rw [tot_cons]; have := tot_nonneg rs; omega
theorem tot_take_succ {xss : List (List Int)} {i : Nat} {r : List Int} (h : xss[i]? = some r) : tot (xss.take (i + 1)) = tot (xss.take i) + r.length := by
  rw [← push_take h]
  simp [tot]
theorem tot_take_le {xss : List (List Int)} (i : Nat) : tot (xss.take i) ≤ tot xss := by
  have h : tot xss = tot (xss.take i) + tot (xss.drop i) := by
    simp only [tot, ← List.sum_append, ← List.map_append, List.take_append_drop]
  have := tot_nonneg (xss.drop i)
  omega
theorem markT_get : ∀ (xss : List (List Int)) (k : Int) (i : Nat) (r : List Int), xss[i]? = some r → (markT k xss)[i]? = some (marks (k + tot (xss.take i)) r.length)
  | [], _, _, _, h => by simp at h
  | q :: rs, k, 0, r, h => by
    simp at h
    subst h
    simp [markT, tot]
  | q :: rs, k, i + 1, r, h => by
    have := markT_get rs (k + q.length) i r (by simpa using h)
    simp only [markT, List.getElem?_cons_succ, List.take_succ_cons, tot_cons]
    rw [this, Int.add_assoc]

theorem only_setCell {a w : World} {g : Nat} (h : a.grownBy w (some g)) {p : Addr} (hp : p.block = g) (u : Value) : a.grownBy (w.setCell p u) (some g) :=
  ⟨h.os, h.tape, h.output, by simpa [World.setCell] using h.size, fun i hi hne => (Below.heap_setCell w p u i (by
    rintro rfl
    exact hne (by rw [hp]))).trans (h.block i hi hne)⟩

/-- Only blocks from lo to hi have changed. -/
structure Within (lo hi : Nat) (w w' : World) : Prop where
  os : w'.os = w.os
  tape : w'.tape = w.tape
  output : w'.output = w.output
  size : w.heap.size ≤ w'.heap.size
  block : ∀ k, k < w.heap.size → k < lo ∨ hi ≤ k → w'.heap[k]? = w.heap[k]?
theorem Within.refl (lo hi : Nat) (w : World) : Within lo hi w w := ⟨rfl, rfl, rfl, Nat.le_refl _, fun _ _ _ => rfl⟩
theorem Within.trans {lo hi : Nat} {a b c : World} (h : Within lo hi a b) (k : Within lo hi b c) : Within lo hi a c :=
  ⟨k.os.trans h.os, k.tape.trans h.tape, k.output.trans h.output, Nat.le_trans h.size k.size, fun i hi' ho => (k.block i (Nat.lt_of_lt_of_le hi' h.size) ho).trans (h.block i hi' ho)⟩
theorem Within.below {lo hi : Nat} {w w' : World} (h : Within lo hi w w') (hl : lo ≤ w.heap.size) : Below lo w w' :=
  ⟨h.os, h.tape, h.output, h.size, fun k hk => h.block k (by omega) (.inl hk)⟩
theorem Within.grown {lo hi : Nat} {w w' : World} {row : Option Nat} (h : w.grownBy w' row) (hr : ∀ b, row = some b → lo ≤ b ∧ b < hi) : Within lo hi w w' :=
  ⟨h.os, h.tape, h.output, h.size, fun k hk ho => h.block k hk (fun e => by have := hr k e.symm; omega)⟩
theorem Within.drewN {lo hi : Nat} {w w' : World} (h : Within lo hi w w') (n : Nat) : Within lo hi w (w'.drewN n) := ⟨h.os, h.tape, h.output, h.size, h.block⟩

theorem own_within {w w' : World} {lo lo' hi e size n : Nat} {v : Value} {xs : List Value} (h : w.ownsRow lo' e size v n xs) (hw : Within lo hi w w') (hl : hi ≤ lo') : w'.ownsRow lo' e size v n xs := by
  refine ⟨h.1, ?_⟩
  rcases h.2 with h2 | ⟨g, cap, cur, hv, hg, hh, r⟩
  · exact .inl h2
  · refine .inr ⟨g, cap, cur, hv, hg, ?_, r⟩
    rw [hw.block g (Array.getElem?_eq_some_iff.1 hh).1 (.inr (by omega))]; exact hh
theorem OInts.within {w w' : World} {lo lo' hi n : Nat} {v : Value} {xs : List Int} (h : OInts w lo' v n xs) (hw : Within lo hi w w') (hl : hi ≤ lo') : OInts w' lo' v n xs := ⟨h.1, own_within h.2 hw hl⟩
theorem OIntss.within {w w' : World} {lo lo' hi n : Nat} {v : Value} {xss : List (List Int)} (h : OIntss w lo' v n xss) (hw : Within lo hi w w') (hl : hi ≤ lo') : OIntss w' lo' v n xss := by
  obtain ⟨h1, h2, vs, ho, hr, hd⟩ := h
  exact ⟨h1, h2, vs, own_within ho hw hl, fun i u r hu hr' => (hr i u r hu hr').within hw hl, hd⟩

/-- A slice of the call's own, nil or at the head of a block. -/
theorem OInts.two {w : World} {lo n cap : Nat} {ao : Option Addr} {xs : List Int} (h : OInts w lo (.slice ao n cap) n xs) : (ao = none ∧ n = 0) ∨ ∃ g, ao = some ⟨g, 0, none⟩ := by
  rcases h.2.2 with ⟨e, hn⟩ | ⟨g, c, cur, e, _⟩
  · injection e with e1
    exact .inl ⟨e1, hn⟩
  · injection e with e1
    exact .inr ⟨g, e1⟩

/-- One row has been written by a callee. -/
theorem OIntss.written {w w' : World} {lo n : Nat} {v u : Value} {xss : List (List Int)} {k : Nat} {r r' : List Int} (h : OIntss w lo v n xss) (hk : xss[k]? = some r) {vs : List Value} (hvs : w.ownsRow lo 24 1 v n vs) (hu : vs[k]? = some u)
    (hr' : OInts w' lo u r'.length r') (hl : OInts w lo u r.length r) (hg : w.grownBy w' u.ownBlock) : OIntss w' lo v n (xss.set k r') := by
  obtain ⟨h1, h2, vs0, hv, hr, hd⟩ := h
  have e : vs = vs0 := by
    rcases hvs.2 with ⟨rfl, hn⟩ | ⟨g, cap, cur, rfl, _, hh, _, _, _, ht⟩
    · have l1 := hvs.1
      have l2 := hv.1
      rw [hn, Nat.zero_mul] at l1 l2
      rw [List.eq_nil_of_length_eq_zero l1, List.eq_nil_of_length_eq_zero l2]
    · rcases hv.2 with ⟨e, _⟩ | ⟨g', cap', cur', e, _, hh', _, _, _, ht'⟩
      · simp at e
      · simp only [Value.slice.injEq, Option.some.injEq, Addr.mk.injEq, and_true, true_and] at e
        obtain ⟨rfl, rfl⟩ := e
        rw [hh] at hh'
        simp at hh'
        subst hh'
        rw [← ht, ← ht']
  subst e
  refine ⟨h1, by simpa using h2, vs, ?_, ?_, hd⟩
  · refine hv.kept hg ?_
    rcases own_int_ne hl hv with e | e
    · cases hb : v.ownBlock with
      | none => exact .inl rfl
      | some b => right; rw [e]; simp
    · cases hb : v.ownBlock with
      | none => exact .inl rfl
      | some b => right; rw [← hb]; exact fun e2 => e e2.symm
  · intro i u' q hu' hq
    rw [List.getElem?_set] at hq
    by_cases e : k = i
    · subst e
      rw [hu] at hu'
      injection hu' with hu'
      subst hu'
      rw [if_pos rfl] at hq
      split at hq
      · injection hq with hq
        subst hq
        exact hr'
      · cases hq
    · rw [if_neg e] at hq
      have h3 := hr i u' q hu' hq
      exact h3.grown hg (hd i k u' u (by omega) hu' hu)
/-- The rows' values, each with its cell. -/
theorem OIntss.rows {w : World} {lo g n cap : Nat} {xss : List (List Int)} (h : OIntss w lo (.slice (some ⟨g, 0, none⟩) n cap) n xss) {k : Nat} {r : List Int} (hk : xss[k]? = some r) :
    ∃ vs ai ci, w.ownsRow lo 24 1 (.slice (some ⟨g, 0, none⟩) n cap) n vs ∧ vs[k]? = some (.slice ai r.length ci) ∧ w.cell? ⟨g, k, none⟩ = some (.slice ai r.length ci) ∧ OInts w lo (.slice ai r.length ci) r.length r := by
  obtain ⟨h1, h2, vs, hv, hr, hd⟩ := h
  have hvl : vs.length = n := by simpa using hv.1
  have hkn : k < n := by rw [← h2]; exact (List.getElem?_eq_some_iff.1 hk).1
  have h3 : vs[k]? = some vs[k] := List.getElem?_eq_getElem (by omega)
  have ho := hr k _ r h3 hk
  obtain ⟨ai, ci, e, _⟩ := ho.form
  have h4 := hv.cells (g := g) rfl k _ h3
  rw [Addr.add_lit] at h4
  rw [e] at h3 h4 ho
  exact ⟨vs, ai, ci, hv, h3, by simpa using h4, ho⟩
end Go.Proofs.Ytlhognagaknhcaa
