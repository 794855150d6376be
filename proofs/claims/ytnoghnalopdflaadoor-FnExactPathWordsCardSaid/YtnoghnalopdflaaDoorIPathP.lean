/- Words for impl.PathsOf. -/
import Derived.Test.YtnoghnalopdflaaDoorSPaths
namespace Go.Proofs.YtnoghnalopdflaaDoor
open Go.RowKit
set_option linter.all false
theorem ext_yes {A : List (List Int)} {a : Nat} {hd : List Int} {acc Z R : List (List Int)} (ha : a < A.length) (ho : okN A hd a = true) (h : acc ++ ((List.range' a (A.length - a)).flatMap (ext A hd) ++ Z) = R) : (acc ++ [hd ++ [(a : Int)]]) ++ ((List.range' (a + 1) (A.length - (a + 1))).flatMap (ext A hd) ++ Z) = R := by
  rw [show A.length - a = (A.length - (a + 1)) + 1 by omega, List.range'_succ, List.flatMap_cons, ext, if_pos ho] at h
  simpa using h
theorem ext_no {A : List (List Int)} {a : Nat} {hd : List Int} {acc Z R : List (List Int)} (ha : a < A.length) (ho : okN A hd a = false) (h : acc ++ ((List.range' a (A.length - a)).flatMap (ext A hd) ++ Z) = R) : acc ++ ((List.range' (a + 1) (A.length - (a + 1))).flatMap (ext A hd) ++ Z) = R := by
  rw [show A.length - a = (A.length - (a + 1)) + 1 by omega, List.range'_succ, List.flatMap_cons, ext, if_neg (by simp [ho])] at h
  simpa using h
theorem ext_end {A : List (List Int)} {a : Nat} {hd : List Int} {acc Z R : List (List Int)} (ha : A.length ≤ a) (h : acc ++ ((List.range' a (A.length - a)).flatMap (ext A hd) ++ Z) = R) : acc ++ Z = R := by
  rw [show A.length - a = 0 by omega] at h
  simpa using h
theorem cur_step {A cur acc R : List (List Int)} {k : Nat} {hd : List Int} (hk : cur[k]? = some hd) (h : acc ++ (cur.drop k).flatMap (ext1 A) = R) : acc ++ ((List.range' 0 (A.length - 0)).flatMap (ext A hd) ++ (cur.drop (k + 1)).flatMap (ext1 A)) = R := by
  rw [drop_of_get hk, List.flatMap_cons] at h
  exact h
theorem cur_end {A cur acc R : List (List Int)} {k : Nat} (hk : cur.length ≤ k) (h : acc ++ (cur.drop k).flatMap (ext1 A) = R) : acc = R := by
  rw [drop_all cur k hk] at h
  simpa using h
theorem nxt_fill {A cur R : List (List Int)} {n a : Nat} (ha : a < n) (h : cur.flatMap (fillL A (n - a)) = R) : (cur.flatMap (ext1 A)).flatMap (fillL A (n - (a + 1))) = R := by
  rw [List.flatMap_assoc, ← h, show n - a = (n - (a + 1)) + 1 by omega]
  congr 1
  funext x
  exact (fillL_ext A _ x).symm
theorem nxt_end {A cur R : List (List Int)} {n a : Nat} (ha : n ≤ a) (h : cur.flatMap (fillL A (n - a)) = R) : cur = R := by
  rw [show n - a = 0 by omega] at h
  have e : fillL A 0 = fun x => [x] := rfl
  rw [e] at h
  simpa using h
theorem nxt_mem {A cur : List (List Int)} {a : Nat} (h : ∀ p ∈ cur, p.length = a ∧ Idx A.length p) : ∀ p ∈ cur.flatMap (ext1 A), p.length = a + 1 ∧ Idx A.length p := by
  intro p hp
  obtain ⟨q, hq, hp⟩ := List.mem_flatMap.1 hp
  obtain ⟨b, hb, hp⟩ := List.mem_flatMap.1 hp
  have hb2 : b < A.length := by simpa [List.mem_range'_1] using hb
  unfold ext at hp
  split at hp
  · simp at hp
    subst hp
    exact ⟨by simp [(h q hq).1], (h q hq).2.snoc hb2⟩
  · simp at hp
theorem ext1_len (A : List (List Int)) (hd : List Int) : (ext1 A hd).length ≤ A.length := by
  unfold ext1
  rw [List.length_flatMap]
  have key : ∀ l : List Nat, (l.map fun a => (ext A hd a).length).sum ≤ l.length := by
    intro l
    induction l with
    | nil => simp
    | cons a l ih =>
      simp only [List.map_cons, List.sum_cons, List.length_cons]
      have : (ext A hd a).length ≤ 1 := by unfold ext; split <;> simp
      omega
  have := key (List.range' 0 A.length)
  rwa [List.length_range'] at this
theorem nxt_len {A : List (List Int)} (hA : A.length ≤ 60) : ∀ (cur : List (List Int)), (cur.flatMap (ext1 A)).length ≤ cur.length * 60
  | [] => by simp
  | x :: r => by
    have := ext1_len A x
    have := nxt_len hA r
    rw [List.flatMap_cons, List.length_append, List.length_cons]
    omega
theorem OIntss.unit (w : World) (lo : Nat) (hlo : lo ≤ w.heap.size) : OIntss ((w.alloc (.cells #[] 3)).alloc (.cells #[.slice (some ⟨w.heap.size, 0, none⟩) 0 0] 22)) lo (.slice (some ⟨w.heap.size + 1, 0, none⟩) 1 1) 1 [[]] := by
  refine ⟨by omega, rfl, [.slice (some ⟨w.heap.size, 0, none⟩) 0 0], ?_, ?_, ?_⟩
  · have := World.ownsRow_lit (base := lo) (e := 22) (size := 1) (w.alloc (.cells #[] 3)) #[.slice (some ⟨w.heap.size, 0, none⟩) 0 0] 1 (by simp; omega) (by unfold maxLen; omega) (by simp)
    simpa using this
  · intro i u r hu hr
    match i, hu, hr with
    | 0, hu, hr =>
      simp at hu hr
      subst hu
      subst hr
      exact (OInts.empty w lo hlo).alloc _
  · intro i j u u' hij hu hu'
    match i, j, hu, hu' with
    | 0, 0, _, _ => exact absurd rfl hij
end Go.Proofs.YtnoghnalopdflaaDoor
