/- A row pushed onto a slice of slices of the call's own; a number stored into one of its rows. -/
import Derived.Test.YtlhognagaknhcaaMem2
namespace Go.Proofs.Ytlhognagaknhcaa
open Go.RowKit
set_option linter.all false
section
variable {w w' : World} {lo n : Nat} {v u : Value} {xss : List (List Int)} {r : List Int}

/-- Two values of which the blocks differ. -/
def Apart (u v : Value) : Prop := ∀ b, u.ownBlock = some b → v.ownBlock ≠ some b

theorem own_int_ne {lo' m : Nat} {vs : List Value} (hu : OInts w lo u r.length r) (hv : w.ownsRow lo' 24 1 v m vs) : u.ownBlock = none ∨ u.ownBlock ≠ v.ownBlock := by
  rcases hu.2.2 with ⟨rfl, _⟩ | ⟨g, cap, cur, rfl, _, hh, _⟩
  · exact .inl rfl
  · right
    rcases hv.2 with ⟨rfl, _⟩ | ⟨g', cap', cur', rfl, _, hh', _⟩
    · simp [Value.ownBlock]
    · intro e
      simp [Value.ownBlock] at e
      subst e
      rw [hh] at hh'
      simp at hh'

/-- What an append of one row leaves. -/
theorem OIntss.pushed {v' : Value} (h : OIntss w lo v n xss) (hn : n + 1 ≤ 1099511627776) (hu : OInts w lo u r.length r)
    (hfar : ∀ (i : Nat) (u' : Value) (r' : List Int), (∃ vs : List Value, w.ownsRow lo 24 1 v n vs ∧ vs[i]? = some u') → xss[i]? = some r' → OInts w lo u' r'.length r' → Apart u u')
    (hg : w.grownBy w' v.ownBlock) (hown : ∀ vs, w.ownsRow lo 24 1 v n vs → w'.ownsRow lo 24 1 v' (n + 1) (vs ++ [u])) :
    OIntss w' lo v' (n + 1) (xss ++ [r]) := by
  obtain ⟨h1, h2, vs, ho, hr, hd⟩ := h
  have hvl : vs.length = n := by simpa using ho.1
  have key : ∀ (i : Nat) (u' : Value), vs[i]? = some u' → Apart u u' := by
    intro i u' hv
    have hi : i < xss.length := by rw [h2, ← hvl]; exact (List.getElem?_eq_some_iff.1 hv).1
    exact hfar i u' _ ⟨vs, ho, hv⟩ (List.getElem?_eq_getElem hi) (hr i u' _ hv (List.getElem?_eq_getElem hi))
  refine ⟨hn, by simp [h2], vs ++ [u], hown vs ho, ?_, ?_⟩
  · intro i u' r' hv hx
    by_cases hi : i < n
    · rw [List.getElem?_append_left (by omega)] at hv hx
      have := hr i u' r' hv hx
      exact this.grown hg (own_int_ne this ho)
    · rw [List.getElem?_append_right (by omega)] at hv hx
      rw [hvl] at hv
      rw [h2] at hx
      have hz : i - n = 0 := by
        have := (List.getElem?_eq_some_iff.1 hv).1
        simp at this
        omega
      rw [hz] at hv hx
      simp at hv hx
      subst hv
      subst hx
      exact hu.grown hg (own_int_ne hu ho)
  · intro i j u1 u2 hij h3 h4
    by_cases hi : i < n
    · rw [List.getElem?_append_left (by omega)] at h3
      by_cases hj : j < n
      · rw [List.getElem?_append_left (by omega)] at h4
        exact hd i j u1 u2 hij h3 h4
      · rw [List.getElem?_append_right (by omega), hvl] at h4
        have hz : j - n = 0 := by
          have := (List.getElem?_eq_some_iff.1 h4).1
          simp at this
          omega
        rw [hz] at h4
        simp at h4
        subst h4
        cases hb : u1.ownBlock with
        | none => exact .inl rfl
        | some b => right; exact fun e => key i u1 h3 b (by rw [← e]) hb
    · rw [List.getElem?_append_right (by omega), hvl] at h3
      have hz : i - n = 0 := by
        have := (List.getElem?_eq_some_iff.1 h3).1
        simp at this
        omega
      rw [hz] at h3
      simp at h3
      subst h3
      have hj : j < n := by
        have := (List.getElem?_eq_some_iff.1 h4).1
        simp [hvl] at this
        omega
      rw [List.getElem?_append_left (by omega)] at h4
      cases hb : u.ownBlock with
      | none => exact .inl rfl
      | some b => right; exact fun e => key j u2 h4 b hb e.symm

/-- The row lies in a block that is newer than all that was there when the slice was looked at last. -/
theorem far_new {w0 : World} (h : OIntss w0 lo v n xss) (hb : Below w0.heap.size w0 w) (hu : ∀ b, u.ownBlock = some b → w0.heap.size ≤ b) :
    ∀ (i : Nat) (u' : Value) (r' : List Int), (∃ vs : List Value, w.ownsRow lo 24 1 v n vs ∧ vs[i]? = some u') → xss[i]? = some r' → OInts w lo u' r'.length r' → Apart u u' := by
  intro i u' r' ⟨vs, ho, hv⟩ _ _ b hbu hbu'
  obtain ⟨h1, h2, vs0, ho0, hr0, _⟩ := h
  have ho0' := own_keep ho0 hb
  have e : vs = vs0 := by
    rcases ho.2 with ⟨rfl, hn⟩ | ⟨g, cap, cur, rfl, _, hh, _, _, _, ht⟩
    · have l1 := ho.1
      have l2 := ho0.1
      rw [hn, Nat.zero_mul] at l1 l2
      rw [List.eq_nil_of_length_eq_zero l1, List.eq_nil_of_length_eq_zero l2]
    · rcases ho0'.2 with ⟨e, _⟩ | ⟨g', cap', cur', e, _, hh', _, _, _, ht'⟩
      · simp at e
      · simp only [Value.slice.injEq, Option.some.injEq, Addr.mk.injEq, and_true, true_and] at e
        obtain ⟨rfl, rfl⟩ := e
        rw [hh] at hh'
        simp at hh'
        subst hh'
        rw [← ht, ← ht']
  subst e
  have hi : i < xss.length := by rw [h2]; have := (List.getElem?_eq_some_iff.1 hv).1; have := ho0.1; simp at this; omega
  have := (hr0 i u' _ hv (List.getElem?_eq_getElem hi)).2.lt b hbu'
  have := hu b hbu
  omega
end

section
variable {w w' : World} {lo g n cap : Nat} {xss : List (List Int)}
/-- Row k, where it is not empty. -/
theorem OIntss.rowAt (h : OIntss w lo (.slice (some ⟨g, 0, none⟩) n cap) n xss) {k : Nat} {r : List Int} (hk : xss[k]? = some r) (hr : 0 < r.length) :
    ∃ gk ck, w.cell? ⟨g, k, none⟩ = some (.slice (some ⟨gk, 0, none⟩) r.length ck) ∧ OInts w lo (.slice (some ⟨gk, 0, none⟩) r.length ck) r.length r ∧ gk ≠ g ∧ lo ≤ gk := by
  have hkn : k < n := by rw [← h.len]; exact (List.getElem?_eq_some_iff.1 hk).1
  obtain ⟨u, r', hc, hx, ho, hne⟩ := h.cell k hkn
  rw [hk] at hx
  injection hx with hx
  subst hx
  rcases ho.2.2 with ⟨_, hz⟩ | ⟨gk, ck, cur, rfl, hlo, hh, rest⟩
  · omega
  · exact ⟨gk, ck, hc, ⟨ho.1, ho.2.1, .inr ⟨gk, ck, cur, rfl, hlo, hh, rest⟩⟩, fun e => hne (by simp [Value.ownBlock, e]), hlo⟩

/-- A number is stored into row k. -/
theorem OIntss.setIn (h : OIntss w lo (.slice (some ⟨g, 0, none⟩) n cap) n xss) {k : Nat} {r : List Int} (hk : xss[k]? = some r) {gk ck : Nat}
    (hc : w.cell? ⟨g, k, none⟩ = some (.slice (some ⟨gk, 0, none⟩) r.length ck)) (ho : OInts w lo (.slice (some ⟨gk, 0, none⟩) r.length ck) r.length r) (j : Nat) (x : Int) :
    OIntss (w.setCell ⟨gk, j, none⟩ (.int .i64 x)) lo (.slice (some ⟨g, 0, none⟩) n cap) n (xss.set k (r.set j x)) := by
  obtain ⟨h1, h2, vs, hv, hr, hd⟩ := h
  have hvl : vs.length = n := by simpa using hv.1
  have hkn : k < n := by rw [← h2]; exact (List.getElem?_eq_some_iff.1 hk).1
  have hvk : vs[k]? = some (.slice (some ⟨gk, 0, none⟩) r.length ck) := by
    have h3 : vs[k]? = some vs[k] := List.getElem?_eq_getElem (by omega)
    have h4 := hv.cells (g := g) rfl k _ h3
    rw [Addr.add_lit] at h4
    simp at h4
    rw [h4] at hc
    injection hc with hc
    rw [h3, hc]
  have hst := ho.2.stored j (.int .i64 x)
  have hset := ho.set j x
  refine ⟨h1, by simpa using h2, vs, ?_, ?_, hd⟩
  · refine hv.kept hst.2 ?_
    have := own_int_ne ho hv
    rcases this with e | e
    · simp [Value.ownBlock] at e
    · right
      intro e2
      exact e (by rw [e2]; rfl)
  · intro i u' r' hu' hr'
    rw [List.getElem?_set] at hr'
    by_cases e : k = i
    · subst e
      rw [hvk] at hu'
      injection hu' with hu'
      subst hu'
      rw [if_pos rfl] at hr'
      split at hr'
      · injection hr' with hr'
        subst hr'
        simpa using hset
      · cases hr'
    · rw [if_neg e] at hr'
      have h3 := hr i u' r' hu' hr'
      refine h3.grown hst.2 ?_
      rcases hd i k u' _ (by omega) hu' hvk with e2 | e2
      · exact .inl e2
      · right
        intro e3
        exact e2 (by rw [e3]; rfl)
end
end Go.Proofs.Ytlhognagaknhcaa
