/- 'out = append(out, x)' and 'append(out, xs...)', out a slice of ints of the call's own, as laws of the walk. -/
import Derived.Test.YtlhognagaknhcaaProg
import Derived.Test.YtlhognagaknhcaaMem
namespace Go.Proofs.Ytlhognagaknhcaa
open Go.RowKit
set_option linter.all false
theorem info_int_parts : ∃ i, Try.prog.info? 3 = some i ∧ i.zero = some (.int .i64 0) ∧ i.size = 1 ∧ i.bytes = 8 := info_parts info_int

theorem wpList_push_int {ops : Array Oper} {rest : List Oper} {o : Oper} {a : Act} {Q : Exit → Act → World → Prop} (w : World) (hgd : o.guard = none) (s x : Operand)
    (ho : o.op = .call { callee := .builtin .append, args := #[s, x], argTypes := #[24, 24] })
    (lo : Nat) (v : Value) (n : Nat) (xs : List Int) (hs : a.eval s = v) (h : OInts w lo v n xs) (hn : n + 1 ≤ 1099511627776)
    (tb : Nat) (y : Int) (hx : a.eval x = .slice (some ⟨tb, 0, none⟩) 1 1) (hc : w.cell? ⟨tb, 0, none⟩ = some (.int .i64 y))
    (hlo : lo ≤ w.heap.size)
    (K : ∀ v' w', OInts w' lo v' (n + 1) (xs ++ [y]) → w.grownBy w' v.ownBlock → wpList Try.prog ops Q rest (a.put o.dst v') w') : wpList Try.prog ops Q (o :: rest) a w := by
  obtain ⟨i0, hi, hz0, hz1, hz2⟩ := info_int_parts
  refine wpList_append_own w hgd s x 24 ho lo 3 i0 (.int .i64 0) 1 8 Try.underlying24 hi hz0 hz1 hz2 rfl (by decide) v n _ hs h.2 ⟨tb, 0, none⟩ 1 1 [.int .i64 y] hx rfl ?_ ?_ ?_ ?_ hlo ?_
  · intro j u' hj
    match j, hj with
    | 0, hj =>
      simp at hj
      subst hj
      simpa [Addr.add] using hc
  · intro u' hu'
    simp at hu'
    subst hu'
    rfl
  · unfold maxLen; omega
  · omega
  · intro v' w' hown hgrow _
    refine K v' w' ⟨hn, ?_⟩ hgrow
    rw [List.map_append]
    exact hown

theorem run_append_nil_src {P : Program} {w : World} {lo t ty e size n : Nat} {i : TypeInfo} {v : Value} {xs : List Value} (ht : P.underlying t = some (.slice e)) (hi : P.info? e = some i)
    (h : w.ownsRow lo e size v n xs) (c : Nat) : (Builtin.append_ #[t, t] ty #[v, .slice none 0 c]).run P w = .ok v w := by
  rcases h.2 with ⟨rfl, rfl⟩ | ⟨g, cap, cur, rfl, _, _, hnc, _⟩
  · simp [Builtin.append_, run_underlying ht, sizeOf, typeInfo, hi, Builtin.lenOf, Builtin.firstCells]
  · simp [Builtin.append_, run_underlying ht, sizeOf, typeInfo, hi, Builtin.lenOf, Builtin.firstCells, hnc, storeCells]

theorem wpList_app_ints {ops : Array Oper} {rest : List Oper} {o : Oper} {a : Act} {Q : Exit → Act → World → Prop} (w : World) (hgd : o.guard = none) (s x : Operand)
    (ho : o.op = .call { callee := .builtin .append, args := #[s, x], argTypes := #[24, 24] })
    (lo : Nat) (v : Value) (n : Nat) (xs : List Int) (hs : a.eval s = v) (h : OInts w lo v n xs)
    (ao : Option Addr) (m c : Nat) (ys : List Int) (hx : a.eval x = .slice ao m c) (hy : Ints w ao m ys) (hn : n + m ≤ 1099511627776)
    (hlo : lo ≤ w.heap.size)
    (K : ∀ v' w', OInts w' lo v' (n + m) (xs ++ ys) → w.grownBy w' v.ownBlock → wpList Try.prog ops Q rest (a.put o.dst v') w') : wpList Try.prog ops Q (o :: rest) a w := by
  obtain ⟨i0, hi, hz0, hz1, hz2⟩ := info_int_parts
  rcases ao with _ | ad
  · have hm : m = 0 := by
      rcases Nat.eq_zero_or_pos m with h0 | h0
      · exact h0
      · obtain ⟨b, o', e, _⟩ := hy.2.2 0 (by rw [hy.1]; exact h0)
        cases e
    subst hm
    have hyn : ys = [] := List.eq_nil_of_length_eq_zero hy.1
    subst hyn
    refine wpList_plain hgd fun K' hK => ?_
    have hrun := run_append_nil_src (ty := o.type) (lo := lo) Try.underlying24 hi h.2 c
    unfold Oper.wp execOp
    simp only [ho, resolve, invoke, builtin, Sem.run_bind, Sem.run_pure, Result.andThen_ok, List.map_toArray, List.map_cons, List.map_nil, hs, hx, hrun]
    exact hK _ _ (K v w (by simpa using h) (World.grownBy.refl w _))
  · have hcells : ∀ j u, (ys.map (Value.int .i64))[j]? = some u → w.cell? (ad.add j) = some u := by
      intro j u hu
      have hj : j < ys.length := by simpa using (List.getElem?_eq_some_iff.1 hu).1
      obtain ⟨b, o', e, hc⟩ := hy.2.2 j hj
      injection e with e
      subst e
      rw [Addr.add_lit, hc]
      simpa [List.getD, hj] using hu
    refine wpList_append_own w hgd s x 24 ho lo 3 i0 (.int .i64 0) 1 8 Try.underlying24 hi hz0 hz1 hz2 rfl (by decide) v n _ hs h.2 ad m c (ys.map (Value.int .i64)) hx (by simp [hy.1]) hcells (ints_oneCell _ _) ?_ ?_ hlo ?_
    · unfold maxLen; omega
    · omega
    · intro v' w' hown hgrow _
      refine K v' w' ⟨hn, ?_⟩ hgrow
      rw [List.map_append]
      exact hown

/-- An empty slice that the call makes ('[]int{}'). -/
theorem OInts.none_ (w : World) (lo : Nat) : OInts w lo (.slice none 0 0) 0 [] := ⟨by omega, by simp, .inl ⟨rfl, rfl⟩⟩
theorem OInts.empty (w : World) (lo : Nat) (hlo : lo ≤ w.heap.size) : OInts (w.alloc (.cells #[] 3)) lo (.slice (some ⟨w.heap.size, 0, none⟩) 0 0) 0 [] := by
  refine ⟨by omega, ?_⟩
  have h := World.ownsRow_made (base := lo) (e := 3) (size := 1) w #[] 0 hlo (by unfold maxLen; omega) rfl
  simpa using h
/-- The parts of a slice that reads as a list. -/
theorem Ints.take {w : World} {ao : Option Addr} {n k : Nat} {xs : List Int} (h : Ints w ao n xs) (hk : k ≤ n) : Ints w ao k (xs.take k) := by
  refine ⟨by rw [List.length_take, h.1]; omega, by have := h.2.1; omega, fun i hi => ?_⟩
  rw [List.length_take, h.1] at hi
  obtain ⟨b, o, e, hc⟩ := h.2.2 i (by rw [h.1]; omega)
  refine ⟨b, o, e, ?_⟩
  rw [hc]
  congr 2
  simp [List.getD, List.getElem?_take, show i < k by omega]
theorem Ints.drop {w : World} {ao : Option Addr} {n k cap : Nat} {xs : List Int} (h : Ints w ao n xs) (hk : k ≤ n) (hcap : n ≤ cap) : Ints w (if cap = k then ao else ao.map (·.add k)) (n - k) (xs.drop k) := by
  refine ⟨by rw [List.length_drop, h.1], by have := h.2.1; omega, fun i hi => ?_⟩
  rw [List.length_drop, h.1] at hi
  obtain ⟨b, o, e, hc⟩ := h.2.2 (k + i) (by rw [h.1]; omega)
  rw [if_neg (by omega), e]
  refine ⟨b, o + k, by simp [Addr.add_lit], ?_⟩
  rw [Nat.add_assoc, hc]
  congr 2
  simp [List.getD]
end Go.Proofs.Ytlhognagaknhcaa
