/- 'out.Arcs = append(out.Arcs, ..)', out a labelled graph in a block of the call's own. -/
import Derived.Test.YtobmljclokmbcaaProg
import Derived.Test.YtobmljclokmbcaaBlk
import Derived.Test.YtobmljclokmbcaaBase
namespace Go.Proofs.Ytobmljclokmbcaa
open Go.RowKit
set_option linter.all false
theorem info_arc_parts : ∃ i, Try.prog.info? 97 = some i ∧ i.zero = some (.agg #[.int .i64 0, .int .i64 0, .int .i64 0]) ∧ i.size = 3 ∧ i.bytes = 24 := info_parts info_arc
theorem arcs_oneCell : ∀ (xs : List Ar), ∀ u ∈ arCells xs, u.oneCell' = true
  | [], u, h => by simp [arCells] at h
  | x :: r, u, h => by
    simp only [arCells, List.mem_cons] at h
    rcases h with rfl | rfl | rfl | h
    · rfl
    · rfl
    · rfl
    · exact arcs_oneCell r u h

theorem wp_push_arc {o : Oper} {a : Act} {K0 : Act → World → Prop} {Q : Exit → Act → World → Prop} (W : World) (y : Ar) (s x : Operand)
    (ho : o.op = .call { callee := .builtin .append, args := #[s, x], argTypes := #[26, 26] })
    (lo : Nat) (v : Value) (n : Nat) (xs : List Ar) (hs : a.eval s = v) (h : OArcs W lo v n xs) (hn : n + 1 ≤ 1099511627776) (hlo : lo ≤ W.heap.size)
    (tb : Nat) (htb : tb = W.heap.size) (hx : a.eval x = .slice (some ⟨tb, 0, none⟩) 1 1)
    (K : ∀ v' w', OArcs w' lo v' (n + 1) (xs ++ [y]) → W.grownBy w' v.ownBlock → NewOr W.heap.size v v' → K0 (a.put o.dst v') w') : o.wp Try.prog a (W.alloc (.cells #[.int .i64 y.1, .int .i64 y.2.1, .int .i64 y.2.2] 97)) K0 Q := by
  subst htb
  obtain ⟨i0, hi, hz0, hz1, hz2⟩ := info_arc_parts
  have hc : ∀ j u, ([.int .i64 y.1, .int .i64 y.2.1, .int .i64 y.2.2] : List Value)[j]? = some u → (W.alloc (.cells #[.int .i64 y.1, .int .i64 y.2.1, .int .i64 y.2.2] 97)).cell? ((⟨W.heap.size, 0, none⟩ : Addr).add j) = some u := by
    intro j u hj
    rw [Addr.add_lit, Nat.zero_add, (Blk.new W _ _).cell j]
    match j, hj with
    | 0, hj => exact hj
    | 1, hj => exact hj
    | 2, hj => exact hj
    | j + 3, hj => simp at hj
  obtain ⟨v', w', hr, h2, h3, _, h5⟩ := run_append_own_at (P := Try.prog) (W.alloc (.cells #[.int .i64 y.1, .int .i64 y.2.1, .int .i64 y.2.2] 97)) lo 26 o.type 97 i0 (.agg #[.int .i64 0, .int .i64 0, .int .i64 0]) 3 24 Try.underlying26 hi hz0 hz1 hz2 rfl (by decide) v n _ (h.alloc _).2 ⟨W.heap.size, 0, none⟩ 1 1 [.int .i64 y.1, .int .i64 y.2.1, .int .i64 y.2.2] rfl
    hc (arcs_oneCell [y]) (by unfold maxLen; omega) (by omega) (by simp; omega)
  unfold Oper.wp execOp
  simp only [ho, resolve, invoke, builtin, Sem.run_bind, Sem.run_pure, Result.andThen_ok, List.map_toArray, List.map_cons, List.map_nil, hs, hx, hr]
  refine K v' w' ⟨hn, ?_⟩ ((grown_alloc W _ _).trans h3) ?_
  · rw [arCells_app]; exact h2
  · rcases h5 with h5 | h5
    · exact .inl h5
    · exact .inr ⟨_, h5, by simp⟩

theorem wpList_push_arc {ops : Array Oper} {rest : List Oper} {o : Oper} {a : Act} {Q : Exit → Act → World → Prop} (W : World) (y : Ar) (hgd : o.guard = none) (s x : Operand)
    (ho : o.op = .call { callee := .builtin .append, args := #[s, x], argTypes := #[26, 26] })
    (lo : Nat) (v : Value) (n : Nat) (xs : List Ar) (hs : a.eval s = v) (h : OArcs W lo v n xs) (hn : n + 1 ≤ 1099511627776) (hlo : lo ≤ W.heap.size)
    (tb : Nat) (htb : tb = W.heap.size) (hx : a.eval x = .slice (some ⟨tb, 0, none⟩) 1 1)
    (K : ∀ v' w', OArcs w' lo v' (n + 1) (xs ++ [y]) → W.grownBy w' v.ownBlock → NewOr W.heap.size v v' → wpList Try.prog ops Q rest (a.put o.dst v') w') : wpList Try.prog ops Q (o :: rest) a (W.alloc (.cells #[.int .i64 y.1, .int .i64 y.2.1, .int .i64 y.2.2] 97)) := by
  refine wpList_plain hgd fun K' hK => ?_
  exact wp_push_arc W y s x ho lo v n xs hs h hn hlo tb htb hx fun v' w' h1 h2 h3 => hK _ _ (K v' w' h1 h2 h3)


set_option maxRecDepth 8000 in
theorem wp_app_arcs {o : Oper} {a : Act} {K0 : Act → World → Prop} {Q : Exit → Act → World → Prop} (w : World) (s x : Operand)
    (ho : o.op = .call { callee := .builtin .append, args := #[s, x], argTypes := #[26, 26] })
    (lo : Nat) (v : Value) (n : Nat) (xs : List Ar) (hs : a.eval s = v) (h : OArcs w lo v n xs)
    (ao : Option Addr) (m c : Nat) (ys : List Ar) (hx : a.eval x = .slice ao m c) (hy : Arcs w ao m ys) (hn : n + m ≤ 1099511627776)
    (hlo : lo ≤ w.heap.size)
    (K : ∀ v' w', OArcs w' lo v' (n + m) (xs ++ ys) → w.grownBy w' v.ownBlock → NewOr w.heap.size v v' → K0 (a.put o.dst v') w') : o.wp Try.prog a w K0 Q := by
  obtain ⟨i0, hi, hz0, hz1, hz2⟩ := info_arc_parts
  rcases ao with _ | ad
  · have hm : m = 0 := by
      rcases Nat.eq_zero_or_pos m with h0 | h0
      · exact h0
      · obtain ⟨y, hy'⟩ : ∃ y, ys[0]? = some y := ⟨_, List.getElem?_eq_getElem (by rw [hy.1]; exact h0)⟩
        obtain ⟨b, o', e, _⟩ := hy.2.2 0 y hy'
        cases e
    subst hm
    have hyn : ys = [] := List.eq_nil_of_length_eq_zero hy.1
    subst hyn
    have hrun := run_append_nil_src (ty := o.type) (lo := lo) Try.underlying26 hi h.2 c
    unfold Oper.wp execOp
    simp only [ho, resolve, invoke, builtin, Sem.run_bind, Sem.run_pure, Result.andThen_ok, List.map_toArray, List.map_cons, List.map_nil, hs, hx, hrun]
    exact (K v w (by simpa using h) (World.grownBy.refl w _) (.inl rfl))
  · have hcells : ∀ j u, (arCells ys)[j]? = some u → w.cell? (ad.add j) = some u := by
      intro j u hu
      have hj : j < ys.length * 3 := by rw [← arCells_len]; exact (List.getElem?_eq_some_iff.1 hu).1
      obtain ⟨q, hq⟩ : ∃ q, q = j / 3 := ⟨_, rfl⟩
      obtain ⟨y, hy'⟩ : ∃ y, ys[q]? = some y := ⟨_, List.getElem?_eq_getElem (by omega)⟩
      obtain ⟨b, o', e, c1, c2, c3⟩ := hy.2.2 _ y hy'
      obtain ⟨d1, d2, d3⟩ := arCells_get ys _ y hy'
      injection e with e
      subst e
      rw [Addr.add_lit]
      have hj3 : j = q * 3 ∨ j = q * 3 + 1 ∨ j = q * 3 + 2 := by omega
      clear hq
      rcases hj3 with rfl | rfl | rfl
      · rw [← hu, d1]; exact c1
      · rw [← hu, d2]; exact c2
      · rw [← hu, d3]; exact c3
    obtain ⟨v', w', hr, h2, h3, _, h5⟩ := run_append_own_at (P := Try.prog) w lo 26 o.type 97 i0 (.agg #[.int .i64 0, .int .i64 0, .int .i64 0]) 3 24 Try.underlying26 hi hz0 hz1 hz2 rfl (by decide) v n _ h.2 ad m c (arCells ys) (by rw [arCells_len, hy.1])
      hcells (arcs_oneCell ys) (by unfold maxLen; omega) (by omega) hlo
    unfold Oper.wp execOp
    simp only [ho, resolve, invoke, builtin, Sem.run_bind, Sem.run_pure, Result.andThen_ok, List.map_toArray, List.map_cons, List.map_nil, hs, hx, hr]
    refine K v' w' ⟨hn, ?_⟩ h3 ?_
    · rw [arCells_app]; exact h2
    · rcases h5 with h5 | h5
      · exact .inl h5
      · exact .inr ⟨_, h5, Nat.le_refl _⟩
theorem wpList_app_arcs {ops : Array Oper} {rest : List Oper} {o : Oper} {a : Act} {Q : Exit → Act → World → Prop} (w : World) (hgd : o.guard = none) (s x : Operand)
    (ho : o.op = .call { callee := .builtin .append, args := #[s, x], argTypes := #[26, 26] })
    (lo : Nat) (v : Value) (n : Nat) (xs : List Ar) (hs : a.eval s = v) (h : OArcs w lo v n xs)
    (ao : Option Addr) (m c : Nat) (ys : List Ar) (hx : a.eval x = .slice ao m c) (hy : Arcs w ao m ys) (hn : n + m ≤ 1099511627776)
    (hlo : lo ≤ w.heap.size)
    (K : ∀ v' w', OArcs w' lo v' (n + m) (xs ++ ys) → w.grownBy w' v.ownBlock → NewOr w.heap.size v v' → wpList Try.prog ops Q rest (a.put o.dst v') w') : wpList Try.prog ops Q (o :: rest) a w := by
  refine wpList_plain hgd fun K' hK => ?_
  exact wp_app_arcs w s x ho lo v n xs hs h ao m c ys hx hy hn hlo fun v' w' h1 h2 h3 => hK _ _ (K v' w' h1 h2 h3)

/-- A labelled graph that grows: its block b, the result's block r. -/
structure Bld (w : World) (lo r b : Nat) (L S : Int) (v : Value) (xs : List Ar) : Prop where
  kb : Blk w b 28 #[.int .i64 L, .int .i64 S, v]
  kr : Blk w r 28 #[.int .i64 0, .int .i64 0, .slice none 0 0]
  o : OArcs w lo v xs.length xs
  nb : v.ownBlock ≠ some b
  nr : v.ownBlock ≠ some r
  ne : r ≠ b
  lb : lo ≤ b
  lr : lo ≤ r
section
variable {w w1 : World} {lo r b k : Nat} {L S : Int} {v v1 : Value} {xs ys : List Ar}
theorem Bld.keep (h : Bld w lo r b L S v xs) (hb : Below w.heap.size w w1) : Bld w1 lo r b L S v xs := ⟨h.kb.keep hb, h.kr.keep hb, h.o.keep hb, h.nb, h.nr, h.ne, h.lb, h.lr⟩
theorem Bld.grownB (h : Bld w lo r b L S v xs) (hg : w.grownBy w1 v.ownBlock) : Blk w1 b 28 #[.int .i64 L, .int .i64 S, v] := h.kb.grown hg (Ne.symm h.nb)
theorem NewOr.away {s : Nat} (hn : NewOr s v v1) {c : Nat} (h : v.ownBlock ≠ some c) (hc : c < s) : v1.ownBlock ≠ some c := by
  intro e
  rcases hn with h1 | ⟨d, h1, h2⟩
  · exact h (h1 ▸ e)
  · rw [h1] at e
    injection e with e
    omega
theorem Bld.pushed (h : Bld w lo r b L S v xs) (ho : OArcs w1 lo v1 (xs.length + k) (xs ++ ys)) (hk : ys.length = k) (hg : w.grownBy w1 v.ownBlock) (hn : NewOr w.heap.size v v1) : Bld (w1.setCell ⟨b, 2, none⟩ v1) lo r b L S v1 (xs ++ ys) := by
  have nb := hn.away h.nb h.kb.lt
  have nr := hn.away h.nr h.kr.lt
  refine ⟨?_, ?_, ?_, nb, nr, h.ne, h.lb, h.lr⟩
  · exact (h.grownB hg).set 2 v1
  · exact (h.kr.grown hg (Ne.symm h.nr)).other h.ne v1
  · have e : (xs ++ ys).length = xs.length + k := by rw [List.length_append, hk]
    rw [e]
    exact ho.setFar nb v1
theorem Bld.belowP {a : World} (h : Bld w lo r b L S v xs) (hb : Below lo a w) (hg : w.grownBy w1 v.ownBlock) (hl : lo ≤ w.heap.size) (u : Value) : Below lo a (w1.setCell ⟨b, 2, none⟩ u) :=
  (hb.grown hg hl fun c hc => (h.o.ownlt c hc).1).setCell (p := ⟨b, 2, none⟩) h.lb u
end
end Go.Proofs.Ytobmljclokmbcaa
