/- 'out = append(out, row)', out a slice of slices of the call's own, as a law of the walk. -/
import Derived.Test.YtlhognagaknhcaaProg
import Derived.Test.YtlhognagaknhcaaMem3
namespace Go.Proofs.Ytlhognagaknhcaa
open Go.RowKit
set_option linter.all false
theorem own_unique {w : World} {lo lo' e size n : Nat} {v : Value} {xs ys : List Value} (h : w.ownsRow lo e size v n xs) (h' : w.ownsRow lo' e size v n ys) : xs = ys := by
  rcases h.2 with ⟨rfl, hn⟩ | ⟨g, cap, cur, rfl, _, hh, _, _, _, ht⟩
  · have l1 := h.1
    have l2 := h'.1
    rw [hn, Nat.zero_mul] at l1 l2
    rw [List.eq_nil_of_length_eq_zero l1, List.eq_nil_of_length_eq_zero l2]
  · rcases h'.2 with ⟨e, _⟩ | ⟨g', cap', cur', e, _, hh', _, _, _, ht'⟩
    · simp at e
    · simp only [Value.slice.injEq, Option.some.injEq, Addr.mk.injEq, and_true, true_and] at e
      obtain ⟨rfl, rfl⟩ := e
      rw [hh] at hh'
      simp at hh'
      subst hh'
      rw [← ht, ← ht']

theorem wpList_push_row {ops : Array Oper} {rest : List Oper} {o : Oper} {a : Act} {Q : Exit → Act → World → Prop} (w : World) (hgd : o.guard = none) (s x : Operand)
    (ho : o.op = .call { callee := .builtin .append, args := #[s, x], argTypes := #[22, 22] })
    (lo : Nat) (v : Value) (n : Nat) (xss : List (List Int)) (hs : a.eval s = v) (h : OIntss w lo v n xss) (hn : n + 1 ≤ 1099511627776)
    (tb : Nat) (u : Value) (r : List Int) (hx : a.eval x = .slice (some ⟨tb, 0, none⟩) 1 1) (hc : w.cell? ⟨tb, 0, none⟩ = some u) (hu : OInts w lo u r.length r)
    (hfar : ∀ (i : Nat) (u' : Value) (r' : List Int), (∃ vs : List Value, w.ownsRow lo 24 1 v n vs ∧ vs[i]? = some u') → xss[i]? = some r' → OInts w lo u' r'.length r' → Apart u u')
    (hlo : lo ≤ w.heap.size)
    (K : ∀ v' w', OIntss w' lo v' (n + 1) (xss ++ [r]) → w.grownBy w' v.ownBlock → wpList Try.prog ops Q rest (a.put o.dst v') w') : wpList Try.prog ops Q (o :: rest) a w := by
  obtain ⟨i0, hi, hz0, hz1, hz2⟩ := info_parts info_ints
  obtain ⟨h1, h2, vs, hv, hr, hd⟩ := h
  have hone : u.oneCell' = true := by
    rcases hu.2.2 with ⟨rfl, _⟩ | ⟨_, _, _, rfl, _⟩ <;> rfl
  refine wpList_append_own w hgd s x 22 ho lo 24 i0 (.slice none 0 0) 1 24 Try.underlying22 hi hz0 hz1 hz2 rfl (by decide) v n vs hs hv ⟨tb, 0, none⟩ 1 1 [u] hx rfl ?_ ?_ ?_ ?_ hlo ?_
  · intro j u' hj
    match j, hj with
    | 0, hj =>
      simp at hj
      subst hj
      simpa [Addr.add] using hc
  · intro u' hu'
    simp at hu'
    subst hu'
    exact hone
  · unfold maxLen; omega
  · omega
  · intro v' w' hown hgrow _
    refine K v' w' ?_ hgrow
    exact OIntss.pushed ⟨h1, h2, vs, hv, hr, hd⟩ hn hu hfar hgrow fun vs' hv' => by rw [own_unique hv' hv]; exact hown

theorem OIntss.ownlt {w : World} {lo n : Nat} {v : Value} {xss : List (List Int)} (h : OIntss w lo v n xss) : ∀ k, v.ownBlock = some k → lo ≤ k ∧ k < w.heap.size := by
  obtain ⟨_, _, vs, ho, _⟩ := h
  exact ho.lt
theorem OInts.ownlt {w : World} {lo n : Nat} {v : Value} {xs : List Int} (h : OInts w lo v n xs) : ∀ k, v.ownBlock = some k → lo ≤ k ∧ k < w.heap.size := h.2.lt
theorem OIntss.none_ (w : World) (lo : Nat) : OIntss w lo (.slice none 0 0) 0 [] :=
  ⟨by omega, rfl, [], ⟨by simp, .inl ⟨rfl, rfl⟩⟩, fun i u r h => by simp at h, fun i j u u' _ h => by simp at h⟩
theorem OIntss.empty (w : World) (lo : Nat) (hlo : lo ≤ w.heap.size) : OIntss (w.alloc (.cells #[] 24)) lo (.slice (some ⟨w.heap.size, 0, none⟩) 0 0) 0 [] :=
  ⟨by omega, rfl, [], World.ownsRow_made (base := lo) (e := 24) (size := 1) w #[] 0 hlo (by unfold maxLen; omega) rfl, fun i u r h => by simp at h, fun i j u u' _ h => by simp at h⟩

/-- A row that is newer than the world wr, in which the slice was looked at last, is pushed. -/
theorem wpList_push_fresh {ops : Array Oper} {rest : List Oper} {o : Oper} {a : Act} {Q : Exit → Act → World → Prop} (W : World) (u : Value) (wr : World) (hgd : o.guard = none) (s x : Operand)
    (ho : o.op = .call { callee := .builtin .append, args := #[s, x], argTypes := #[22, 22] })
    (lo : Nat) (v : Value) (n : Nat) (xss : List (List Int)) (hs : a.eval s = v) (h : OIntss wr lo v n xss) (hn : n + 1 ≤ 1099511627776) (hlo : lo ≤ wr.heap.size) (hW : Below wr.heap.size wr W)
    (m : Nat) (r : List Int) (hu : OInts W wr.heap.size u m r) (tb : Nat) (htb : tb = W.heap.size) (hx : a.eval x = .slice (some ⟨tb, 0, none⟩) 1 1)
    (K : ∀ v' w', OIntss w' lo v' (n + 1) (xss ++ [r]) → Below lo wr w' → (W.alloc (.cells #[u] 24)).grownBy w' v.ownBlock → wpList Try.prog ops Q rest (a.put o.dst v') w') : wpList Try.prog ops Q (o :: rest) a (W.alloc (.cells #[u] 24)) := by
  subst htb
  have hml := hu.len
  subst hml
  have hW2 : Below wr.heap.size wr (W.alloc (.cells #[u] 24)) := hW.alloc hW.size _
  refine wpList_push_row _ hgd s x ho lo v n xss hs (h.keep hW2) hn W.heap.size u r hx (World.cell?_alloc_new _ _ _ _) ((hu.alloc _).mono hlo) (far_new h hW2 fun b hb => (hu.ownlt b hb).1) (by simp; have := hW.size; omega) ?_
  intro v' w' hown hgrow
  exact K v' w' hown ((hW2.mono hlo).grown hgrow (by simp; have := hW.size; omega) fun k hk => (h.ownlt k hk).1) hgrow
end Go.Proofs.Ytlhognagaknhcaa
