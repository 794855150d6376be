/- RLF: a part of the proofs of this seat. -/
import Derived.Test.YtobmljclokmbcaaDoorRLRLa
import Derived.Test.YtobmljclokmbcaaDoorRLRLb
import Derived.Test.YtobmljclokmbcaaDoorRLRLc
import Derived.Test.YtobmljclokmbcaaDoorRLRLd
import Derived.Test.YtobmljclokmbcaaDoorRLG1
namespace Go.Proofs.YtobmljclokmbcaaDoor
open Go.RowKit
set_option linter.all false
theorem chkK_all {k : Nat} (h : k ≤ 7) : chkK k = true := by
  match k, h with
  | 0, _ => exact chk_0
  | 1, _ => exact chk_1
  | 2, _ => exact chk_2
  | 3, _ => exact chk_3
  | 4, _ => exact chk_4
  | 5, _ => exact chk_5
  | 6, _ => exact chk_6
  | 7, _ => exact chk_7
theorem chk_get {d k : Nat} (hd : d ≤ k) (hk : k ≤ 7) : chkL d k = true ∧ (∀ n, n ≤ 6 → chkR d k n = true) ∧ ∀ n, n ≤ 8 → chkC d k n = true := by
  have h := List.all_eq_true.1 (chkK_all hk) d (List.mem_range.2 (by omega))
  simp only [chkA, Bool.and_eq_true] at h
  exact ⟨h.1, fun n hn => List.all_eq_true.1 h.2.1 n (List.mem_range.2 (by omega)), fun n hn => List.all_eq_true.1 h.2.2 n (List.mem_range.2 (by omega))⟩
theorem filter_same {α : Type} {p q : α → Bool} : ∀ {l : List α}, (∀ x ∈ l, p x = q x) → l.filter p = l.filter q
  | [], _ => rfl
  | x :: r, h => by
    have ih := filter_same (p := p) (q := q) (l := r) fun y hy => h y (List.mem_cons_of_mem _ hy)
    have hx := h x (List.mem_cons_self ..)
    rw [List.filter_cons, List.filter_cons, hx, ih]
/-- The words that the graph reads are those that keep the bounds. -/
theorem reads_runs {d k n : Int} (hf : fitsR d k = true) (hn : inR n 0 6 = true) : readsV (runL d k) (runS d k) (runX d k) n = runWV d k n := by
  obtain ⟨d, k, rfl, rfl, hdk, hk7⟩ := fitsR_nat hf
  have h6 := inR_true hn
  obtain ⟨n, rfl⟩ : ∃ m : Nat, n = m := ⟨n.toNat, by omega⟩
  obtain ⟨c1, c2, _⟩ := chk_get hdk hk7
  have e1 : runL (d : Int) k = 2 := by simp [runL, hf]
  have e2 : runS (d : Int) k = (k : Int) + 1 := by simp [runS, hf]
  have e3 : runX (d : Int) k = runA d k (k + 1) := by simp [runX, hf]
  have e4 : inR (n : Int) 0 8 = true := inR_mk ⟨by omega, by omega⟩
  have hl : isLab 2 ((k : Int) + 1) (runA d k (k + 1)) = true := c1
  have c3 := c2 n (by omega)
  unfold readsV runWV
  rw [e1, e2, e3, hl, hn, hf, e4]
  simp only [Bool.and_self, if_true, Int.toNat_natCast, Int.reduceToNat]
  refine filter_same fun s hs => ?_
  have h1 := List.all_eq_true.1 c3 s hs
  simp only [beq_iff_eq] at h1
  simp only [allW, List.mem_map] at hs
  obtain ⟨i, _, rfl⟩ := hs
  have hw : isWd 2 (wordN 2 n i) = true := isWd_word (k := 2) (by omega) (by omega) (by omega)
  unfold readsB
  rw [hl, hw, Bool.true_and, Bool.true_and]
  rw [show ((k : Int) + 1).toNat = k + 1 by omega]
  exact h1
theorem runs_counted {d k n : Int} (hf : fitsR d k = true) (hn : inR n 0 8 = true) : ((runWV d k n).length : Int) = countR d k n := by
  obtain ⟨d, k, rfl, rfl, hdk, hk7⟩ := fitsR_nat hf
  have h6 := inR_true hn
  obtain ⟨n, rfl⟩ : ∃ m : Nat, n = m := ⟨n.toNat, by omega⟩
  obtain ⟨_, _, c2⟩ := chk_get hdk hk7
  have c3 := c2 n (by omega)
  have e4 : inR (n : Int) 0 20 = true := inR_mk ⟨by omega, by omega⟩
  simp only [chkC, beq_iff_eq] at c3
  unfold runWV countR
  rw [hf, hn, e4]
  simpa using c3
theorem splitR_facts {d k : Int} {s : ByteArray} (hs : s.size ≤ 9) : keepsB d k s = decide (0 < (splitR d k s).length) ∧ ((splitR d k s).length = 0 ∨ ((splitR d k s).length = nbR s 0 s.size + 1 ∧ isum 0 (splitR d k s) = (s.size : Int) - nbR s 0 s.size)) := by
  have hl := lens_facts s
  have hb := nbR_le s s.size 0
  unfold splitR
  cases h : keepsB d k s
  · simp
  · rw [if_pos rfl]
    refine ⟨?_, .inr ⟨hl.1, ?_⟩⟩
    · rw [hl.1]; simp
    · have e := isum_wrap (lens s) 0
      rw [show wrap64 0 = 0 by simp [wrap64], hl.2] at e
      rw [e]; unfold wrap64; omega
end Go.Proofs.YtobmljclokmbcaaDoor
