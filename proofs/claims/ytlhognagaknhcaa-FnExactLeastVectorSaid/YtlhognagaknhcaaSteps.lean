/- Steps: a part of the proofs of this seat. -/
import Derived.Deep.RegionLaw
import Derived.Test.YtlhognagaknhcaaProg
import Derived.Test.YtlhognagaknhcaaPushInt
import Derived.Test.YtlhognagaknhcaaPush
namespace Go.Proofs.Ytlhognagaknhcaa
open Go.RowKit
set_option linter.all false
/- The same laws for a region that draws its order. -/
theorem step_of_wp {P : Program} {ops : Array Oper} {o : Oper} {a : Act} {w : World} {K : Act → World → Prop} {Q : Exit → Act → World → Prop} {E : Prop} (hgd : o.guard = none) (h : o.wp P a w K Q) :
    if Region.wanted o (yielded ops a.tmps) = true then Oper.wp P o a w K Q else E := by
  have hw : Region.wanted o (yielded ops a.tmps) = true := by simp [Region.wanted, hgd]
  rw [if_pos hw]
  exact h

theorem wp_push_int {o : Oper} {a : Act} {K0 : Act → World → Prop} {Q : Exit → Act → World → Prop} (w : World) (s x : Operand)
    (ho : o.op = .call { callee := .builtin .append, args := #[s, x], argTypes := #[24, 24] })
    (lo : Nat) (v : Value) (n : Nat) (xs : List Int) (hs : a.eval s = v) (h : OInts w lo v n xs) (hn : n + 1 ≤ 1099511627776)
    (tb : Nat) (y : Int) (hx : a.eval x = .slice (some ⟨tb, 0, none⟩) 1 1) (hc : w.cell? ⟨tb, 0, none⟩ = some (.int .i64 y))
    (hlo : lo ≤ w.heap.size)
    (K : ∀ v' w', OInts w' lo v' (n + 1) (xs ++ [y]) → w.grownBy w' v.ownBlock → K0 (a.put o.dst v') w') : o.wp Try.prog a w K0 Q := by
  obtain ⟨i0, hi, hz0, hz1, hz2⟩ := info_int_parts
  refine wp_append_own w s x 24 ho lo 3 i0 (.int .i64 0) 1 8 Try.underlying24 hi hz0 hz1 hz2 rfl (by decide) v n _ hs h.2 ⟨tb, 0, none⟩ 1 1 [.int .i64 y] hx rfl ?_ ?_ ?_ ?_ hlo ?_
  · intro j u' hj
    match j, hj with
    | 0, hj =>
      simp at hj
      subst hj
      simpa [Addr.add] using hc
  · intro u' hu'
    simp at hu'
    subst hu'
    rfl
  · unfold maxLen; omega
  · omega
  · intro v' w' hown hgrow _
    refine K v' w' ⟨hn, ?_⟩ hgrow
    rw [List.map_append]
    exact hown

theorem wp_app_ints {o : Oper} {a : Act} {K0 : Act → World → Prop} {Q : Exit → Act → World → Prop} (w : World) (s x : Operand)
    (ho : o.op = .call { callee := .builtin .append, args := #[s, x], argTypes := #[24, 24] })
    (lo : Nat) (v : Value) (n : Nat) (xs : List Int) (hs : a.eval s = v) (h : OInts w lo v n xs)
    (ao : Option Addr) (m c : Nat) (ys : List Int) (hx : a.eval x = .slice ao m c) (hy : Ints w ao m ys) (hn : n + m ≤ 1099511627776)
    (hlo : lo ≤ w.heap.size)
    (K : ∀ v' w', OInts w' lo v' (n + m) (xs ++ ys) → w.grownBy w' v.ownBlock → K0 (a.put o.dst v') w') : o.wp Try.prog a w K0 Q := by
  obtain ⟨i0, hi, hz0, hz1, hz2⟩ := info_int_parts
  rcases ao with _ | ad
  · have hm : m = 0 := by
      rcases Nat.eq_zero_or_pos m with h0 | h0
      · exact h0
      · obtain ⟨b, o', e, _⟩ := hy.2.2 0 (by rw [hy.1]; exact h0)
        cases e
    subst hm
    have hyn : ys = [] := List.eq_nil_of_length_eq_zero hy.1
    subst hyn
    have hrun := run_append_nil_src (ty := o.type) (lo := lo) Try.underlying24 hi h.2 c
    unfold Oper.wp execOp
    simp only [ho, resolve, invoke, builtin, Sem.run_bind, Sem.run_pure, Result.andThen_ok, List.map_toArray, List.map_cons, List.map_nil, hs, hx, hrun]
    exact (K v w (by simpa using h) (World.grownBy.refl w _))
  · have hcells : ∀ j u, (ys.map (Value.int .i64))[j]? = some u → w.cell? (ad.add j) = some u := by
      intro j u hu
      have hj : j < ys.length := by simpa using (List.getElem?_eq_some_iff.1 hu).1
      obtain ⟨b, o', e, hc⟩ := hy.2.2 j hj
      injection e with e
      subst e
      rw [Addr.add_lit, hc]
      simpa [List.getD, hj] using hu
    refine wp_append_own w s x 24 ho lo 3 i0 (.int .i64 0) 1 8 Try.underlying24 hi hz0 hz1 hz2 rfl (by decide) v n _ hs h.2 ad m c (ys.map (Value.int .i64)) hx (by simp [hy.1]) hcells (ints_oneCell _ _) ?_ ?_ hlo ?_
    · unfold maxLen; omega
    · omega
    · intro v' w' hown hgrow _
      refine K v' w' ⟨hn, ?_⟩ hgrow
      rw [List.map_append]
      exact hown

theorem wp_push_row {o : Oper} {a : Act} {K0 : Act → World → Prop} {Q : Exit → Act → World → Prop} (w : World) (s x : Operand)
    (ho : o.op = .call { callee := .builtin .append, args := #[s, x], argTypes := #[22, 22] })
    (lo : Nat) (v : Value) (n : Nat) (xss : List (List Int)) (hs : a.eval s = v) (h : OIntss w lo v n xss) (hn : n + 1 ≤ 1099511627776)
    (tb : Nat) (u : Value) (r : List Int) (hx : a.eval x = .slice (some ⟨tb, 0, none⟩) 1 1) (hc : w.cell? ⟨tb, 0, none⟩ = some u) (hu : OInts w lo u r.length r)
    (hfar : ∀ (i : Nat) (u' : Value) (r' : List Int), (∃ vs : List Value, w.ownsRow lo 24 1 v n vs ∧ vs[i]? = some u') → xss[i]? = some r' → OInts w lo u' r'.length r' → Apart u u')
    (hlo : lo ≤ w.heap.size)
    (K : ∀ v' w', OIntss w' lo v' (n + 1) (xss ++ [r]) → w.grownBy w' v.ownBlock → K0 (a.put o.dst v') w') : o.wp Try.prog a w K0 Q := by
  obtain ⟨i0, hi, hz0, hz1, hz2⟩ := info_parts info_ints
  obtain ⟨h1, h2, vs, hv, hr, hd⟩ := h
  have hone : u.oneCell' = true := by
    rcases hu.2.2 with ⟨rfl, _⟩ | ⟨_, _, _, rfl, _⟩ <;> rfl
  refine wp_append_own w s x 22 ho lo 24 i0 (.slice none 0 0) 1 24 Try.underlying22 hi hz0 hz1 hz2 rfl (by decide) v n vs hs hv ⟨tb, 0, none⟩ 1 1 [u] hx rfl ?_ ?_ ?_ ?_ hlo ?_
  · intro j u' hj
    match j, hj with
    | 0, hj =>
      simp at hj
      subst hj
      simpa [Addr.add] using hc
  · intro u' hu'
    simp at hu'
    subst hu'
    exact hone
  · unfold maxLen; omega
  · omega
  · intro v' w' hown hgrow _
    refine K v' w' ?_ hgrow
    exact OIntss.pushed ⟨h1, h2, vs, hv, hr, hd⟩ hn hu hfar hgrow fun vs' hv' => by rw [own_unique hv' hv]; exact hown

theorem wp_push_fresh {o : Oper} {a : Act} {K0 : Act → World → Prop} {Q : Exit → Act → World → Prop} (W : World) (u : Value) (wr : World) (s x : Operand)
    (ho : o.op = .call { callee := .builtin .append, args := #[s, x], argTypes := #[22, 22] })
    (lo : Nat) (v : Value) (n : Nat) (xss : List (List Int)) (hs : a.eval s = v) (h : OIntss wr lo v n xss) (hn : n + 1 ≤ 1099511627776) (hlo : lo ≤ wr.heap.size) (hW : Below wr.heap.size wr W)
    (m : Nat) (r : List Int) (hu : OInts W wr.heap.size u m r) (tb : Nat) (htb : tb = W.heap.size) (hx : a.eval x = .slice (some ⟨tb, 0, none⟩) 1 1)
    (K : ∀ v' w', OIntss w' lo v' (n + 1) (xss ++ [r]) → Below lo wr w' → (W.alloc (.cells #[u] 24)).grownBy w' v.ownBlock → K0 (a.put o.dst v') w') : o.wp Try.prog a (W.alloc (.cells #[u] 24)) K0 Q := by
  subst htb
  have hml := hu.len
  subst hml
  have hW2 : Below wr.heap.size wr (W.alloc (.cells #[u] 24)) := hW.alloc hW.size _
  refine wp_push_row _ s x ho lo v n xss hs (h.keep hW2) hn W.heap.size u r hx (World.cell?_alloc_new _ _ _ _) ((hu.alloc _).mono hlo) (far_new h hW2 fun b hb => (hu.ownlt b hb).1) (by simp; have := hW.size; omega) ?_
  intro v' w' hown hgrow
  exact K v' w' hown ((hW2.mono hlo).grown hgrow (by simp; have := hW.size; omega) fun k hk => (h.ownlt k hk).1) hgrow
end Go.Proofs.Ytlhognagaknhcaa
