/- SFillP: a part of the proofs of this seat. -/
import Derived.BigQuiet
import Derived.Test.YtnoghnalopdflaaDoorProg
import Derived.Test.YtnoghnalopdflaaDoorSArcs5
namespace Go.Proofs.YtnoghnalopdflaaDoor
open Go.RowKit
set_option linter.all false
/- One more arc: paths are filled. -/
theorem wpList_push_rowAt {ops : Array Oper} {rest : List Oper} {o : Oper} {a : Act} {Q : Exit → Act → World → Prop} (W : World) (u : Value) (wr : World) (hgd : o.guard = none) (s x : Operand)
    (ho : o.op = .call { callee := .builtin .append, args := #[s, x], argTypes := #[32, 32] })
    (lo : Nat) (v : Value) (n : Nat) (xss : List (List Int)) (hs : a.eval s = v) (h : OIntss wr lo v n xss) (hn : n + 1 ≤ 1099511627776) (hlo : lo ≤ wr.heap.size) (hW : Below wr.heap.size wr W)
    (m : Nat) (r : List Int) (hu : OInts W wr.heap.size u m r) (tb : Nat) (htb : tb = W.heap.size) (hx : a.eval x = .slice (some ⟨tb, 0, none⟩) 1 1)
    (K : ∀ v' w', OIntss w' lo v' (n + 1) (xss ++ [r]) → W.grownBy w' v.ownBlock → NewOr W.heap.size v v' → wpList Tryd.prog ops Q rest (a.put o.dst v') w') : wpList Tryd.prog ops Q (o :: rest) a (W.alloc (.cells #[u] 22)) := by
  subst htb
  have hml := hu.len
  subst hml
  have hW2 : Below wr.heap.size wr (W.alloc (.cells #[u] 22)) := hW.alloc hW.size _
  obtain ⟨i0, hi, hz0, hz1, hz2⟩ := info_parts info_ints
  have hk := h.keep hW2
  have hu2 := (hu.alloc (.cells #[u] 22)).mono hlo
  have hfar := far_new h hW2 fun b hb => (hu.ownlt b hb).1
  obtain ⟨h1, h2, vs, hv, hr, hd⟩ := hk
  have hone : u.oneCell' = true := by
    rcases hu.2.2 with ⟨rfl, _⟩ | ⟨_, _, _, rfl, _⟩ <;> rfl
  refine wpList_plain hgd fun K' hK => ?_
  obtain ⟨v', w', hrun, q2, q3, _, q5⟩ := run_append_own_at (P := Tryd.prog) (W.alloc (.cells #[u] 22)) lo 32 o.type 22 i0 (.slice none 0 0) 1 24 Tryd.underlying32 hi hz0 hz1 hz2 rfl (by decide) v n vs hv ⟨W.heap.size, 0, none⟩ 1 1 [u] rfl
    (by
      intro j u' hj
      match j, hj with
      | 0, hj =>
        simp at hj
        subst hj
        exact World.cell?_alloc_new _ _ _ _)
    (by
      intro u' hu'
      simp at hu'
      subst hu'
      exact hone) (by unfold maxLen; omega) (by omega) (by simp; have := hW.size; omega)
  unfold Oper.wp execOp
  simp only [ho, resolve, invoke, builtin, Sem.run_bind, Sem.run_pure, Result.andThen_ok, List.map_toArray, List.map_cons, List.map_nil, hs, hx, hrun]
  refine hK _ _ (K v' w' ?_ ((grown_alloc W _ _).trans q3) ?_)
  · exact OIntss.pushed ⟨h1, h2, vs, hv, hr, hd⟩ hn hu2 hfar q3 fun vs' hv' => by rw [own_unique hv' hv]; exact q2
  · rcases q5 with h5 | h5
    · exact .inl h5
    · exact .inr ⟨_, h5, by simp⟩
theorem NewOr.trans {s s' : Nat} {a b c : Value} (h : NewOr s a b) (k : NewOr s' b c) (hs : s ≤ s') : NewOr s a c := by
  rcases k with k | ⟨d, k, hd⟩
  · rcases h with h | ⟨d, h, hd⟩
    · exact .inl (k.trans h)
    · exact .inr ⟨d, k.trans h, hd⟩
  · exact .inr ⟨d, k, Nat.le_trans hs hd⟩
theorem grown_two {a b c : World} {u v : Value} (h : a.grownBy b u.ownBlock) (n : NewOr a.heap.size u v) (k : b.grownBy c v.ownBlock) : a.grownBy c u.ownBlock := by
  refine ⟨k.os.trans h.os, k.tape.trans h.tape, k.output.trans h.output, Nat.le_trans h.size k.size, fun i hi hne => ?_⟩
  refine (k.block i (Nat.lt_of_lt_of_le hi h.size) ?_).trans (h.block i hi hne)
  rcases n with n | ⟨d, n, hd⟩
  · rw [n]; exact hne
  · rw [n]; intro e; injection e with e; omega
theorem grown_drewN2 (w : World) (k : Nat) (row : Option Nat) : w.grownBy (w.drewN k) row := ⟨rfl, rfl, rfl, Nat.le_refl _, fun _ _ _ => rfl⟩
theorem grown_below {w w' : World} (h : Below w.heap.size w w') (row : Option Nat) : w.grownBy w' row := ⟨h.os, h.tape, h.output, h.size, fun k hk _ => h.block k hk⟩
theorem OIntss.apartRow {w W : World} {lo n m : Nat} {v u : Value} {xss : List (List Int)} {r : List Int} (h : OIntss w lo v n xss) (hu : OInts W w.heap.size u m r) : Apart u v := by
  intro b hb e
  have := (h.ownlt b e).2
  have := (hu.ownlt b hb).1
  omega
theorem Idx.snoc {n a : Nat} {xs : List Int} (h : Idx n xs) (ha : a < n) : Idx n (xs ++ [(a : Int)]) := by
  intro x hx
  rcases List.mem_append.1 hx with hx | hx
  · exact h x hx
  · simp at hx
    subst hx
    omega
theorem getLast_get {xs : List Int} {q : Nat} {x : Int} (h : xs.length = q + 1) (hx : xs[q]? = some x) : xs.getLastD 0 = x := by
  rw [List.getLastD_eq_getLast?, List.getLast?_eq_getElem?, h]
  simp [hx]
theorem ok_zero {A : List (List Int)} {hd : List Int} {a : Nat} (h : hd.length = 0) : okN A hd a = true := by simp [okN, h]
theorem ok_of {A : List (List Int)} {hd : List Int} {a b q : Nat} {x y x' y' : Int} (h : hd.length = q + 1) (hq : hd[q]? = some (b : Int)) (hb : A[b]? = some [x, y]) (ha : A[a]? = some [x', y']) : okN A hd a = decide (y = x') := by
  have e1 : toOf A (hd.getLastD 0) = y := by rw [getLast_get h hq, toOf, Int.toNat_natCast]; simp [List.getD, hb]
  have e2 : fromOf A a = x' := by simp [fromOf, List.getD, ha]
  unfold okN
  rw [e1, e2]
  simp [h]
theorem fill_yes {A : List (List Int)} {r a : Nat} {hd : List Int} {acc R : List (List Int)} (ha : a < A.length) (ho : okN A hd a = true) (h : acc ++ (List.range' a (A.length - a)).flatMap (fun a => if okN A hd a then fillL A r (hd ++ [(a : Int)]) else []) = R) : (acc ++ fillL A r (hd ++ [(a : Int)])) ++ (List.range' (a + 1) (A.length - (a + 1))).flatMap (fun a => if okN A hd a then fillL A r (hd ++ [(a : Int)]) else []) = R := by
  have := range_step ha h
  rw [if_pos ho] at this
  exact this
theorem fill_no {A : List (List Int)} {r a : Nat} {hd : List Int} {acc R : List (List Int)} (ha : a < A.length) (ho : okN A hd a = false) (h : acc ++ (List.range' a (A.length - a)).flatMap (fun a => if okN A hd a then fillL A r (hd ++ [(a : Int)]) else []) = R) : acc ++ (List.range' (a + 1) (A.length - (a + 1))).flatMap (fun a => if okN A hd a then fillL A r (hd ++ [(a : Int)]) else []) = R := by
  have := range_step ha h
  rw [if_neg (by simp [ho])] at this
  simpa using this
def fillPost (W : World) (lo : Nat) (ov : Value) (R : List (List Int)) (e : Ending) (w' : World) : Prop := ∃ v', e = .returned v' ∧ OIntss w' lo v' R.length R ∧ W.grownBy w' ov.ownBlock ∧ NewOr W.heap.size ov v'
end Go.Proofs.YtnoghnalopdflaaDoor
