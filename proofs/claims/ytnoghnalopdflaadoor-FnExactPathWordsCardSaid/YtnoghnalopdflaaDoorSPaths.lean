/- SPaths: a part of the proofs of this seat. -/
import Derived.Test.YtnoghnalopdflaaDoorProg
import Derived.Test.YtnoghnalopdflaaDoorSFillS
import Derived.Test.YtnoghnalopdflaaDoorSCntP
import Derived.Test.YtnoghnalopdflaaDoorSIsGraph
import Derived.Test.YtnoghnalopdflaaDoorSArcsOf
namespace Go.Proofs.YtnoghnalopdflaaDoor
open Go.RowKit
set_option linter.all false
theorem OInts.readAll {w : World} {lo n c : Nat} {ao : Option Addr} {xs : List Int} (h : OInts w lo (.slice ao n c) n xs) : Ints w ao n xs := by
  obtain ⟨ao', cap', e, hi⟩ := h.form
  injection e with e1
  subst e1
  exact hi
theorem OIntss.readAll {w : World} {lo n c : Nat} {ao : Option Addr} {xs : List (List Int)} (h : OIntss w lo (.slice ao n c) n xs) : Intss w ao n xs := by
  obtain ⟨ao', cap', e, hi⟩ := h.form
  injection e with e1
  subst e1
  exact hi
theorem sFill_fresh (p : Option Addr) (N c t lo : Nat) (A : List (List Int)) (hA2 : ∀ (k : Nat) (a : List Int), A[k]? = some a → ∃ x y : Int, a = [x, y]) (ht : t ≤ 6) (hN : N ≤ 60) (hAN : A.length = N) :
    ∀ (r : Nat) (W wr : World) (hv ov : Value) (hd : List Int) (out : List (List Int)), hd.length + r = t → Idx N hd → OIntss wr lo ov out.length out → lo ≤ wr.heap.size → (∀ W', Below lo wr W' → Intss W' p N A) → Below wr.heap.size wr W → OInts W wr.heap.size hv hd.length hd → (out ++ fillL A r hd).length ≤ 1099511627776 →
      Calls Tryd.prog 105 #[.slice p N c, .int .i64 t, hv, ov] W (fillPost W lo ov (out ++ fillL A r hd))
  | 0, W, wr, hv, ov, hd, out, hl, hi, ho, hlo, ha, hW, hh, hM => sFill_zero p N c t lo A W wr hv ov hd out hl ho hlo hW hh hM
  | r + 1, W, wr, hv, ov, hd, out, hl, hi, ho, hlo, ha, hW, hh, hM => by
    have IH := sFill_fresh p N c t lo A hA2 ht hN hAN r
    have hne := (ho.apartRow hh).ne
    have hks : ∀ W', W.grownBy W' ov.ownBlock → OInts W' wr.heap.size hv hd.length hd := fun W' hg => hh.grown hg hne
    obtain ⟨ah, ch, rfl, _⟩ := hh.form
    have hk : ∀ W', W.grownBy W' ov.ownBlock → Ints W' ah hd.length hd := fun W' hg => (hks W' hg).readAll
    have ho2 := ho.keep hW
    have hlo2 := Nat.le_trans hlo hW.size
    have ha2 : ∀ W', Below lo W W' → Intss W' p N A := fun W' h2 => ha W' ((hW.mono hlo).trans h2)
    rcases Nat.eq_zero_or_pos hd.length with h0 | h0
    · exact sFill_step0 p N c t r lo A hA2 ht hN hAN IH W ah hd.length ch hd ov out hl hi ho2 hlo2 hk ha2 h0 hM
    · exact sFill_stepS p N c t r lo A hA2 ht hN hAN IH W ah hd.length ch hd ov out hl hi ho2 hlo2 hk ha2 h0 hM
theorem pathsV_len (m : List (List Int)) (n : Int) : (pathsV m n).length ≤ 60 ^ 6 := by
  unfold pathsV
  split
  · rename_i h
    simp only [pathsOk, Bool.and_eq_true] at h
    have h2 := inR_true h.2.1
    have h3 := graph_arcs h.1
    exact Nat.le_trans (fillL_len (by omega) _ _) (Nat.pow_le_pow_right (by omega) (by omega))
  · simp
set_option maxRecDepth 20000 in
set_option maxHeartbeats 3200000 in
theorem sPathsOf_any (p : Option Addr) (n c : Nat) (m : List (List Int)) (t : Int) (w : World) (h : Intss w p n m) :
    Calls Tryd.prog 64 #[.slice p n c, .int .i64 t] w fun e w' => ∃ v, e = .returned v ∧ OIntss w' w.heap.size v (pathsV m t).length (pathsV m t) ∧ Below w.heap.size w w' := by
  have H := Lib.hid h
  clear h
  cases hg : isGraph m
  · have hv : Hid (pathsV m t = []) := by show _ = _; simp [pathsV, pathsOk, hg]
    go_enter Tryd.func64, Tryd.ntmps64
    go_wp2_with (go_at_call 102; refine (sIsGraph_any _ _ _ m _ H.out).mono ?_; rw [hg]; rintro e w' ⟨rfl, rfl⟩)
    go_ret
    rw [hv.out]
    exact ⟨_, rfl, OIntss.empty _ _ (Nat.le_refl _), belowA _ _⟩
  have HG := Lib.hid hg
  cases ht : inR t 1 6
  · have hv : Hid (pathsV m t = []) := by show _ = _; simp [pathsV, pathsOk, ht]
    have HT := Lib.hid ht
    clear ht hg
    go_enter Tryd.func64, Tryd.ntmps64
    go_wp2_with (first | (go_at_call 102; refine (sIsGraph_any _ _ _ m _ H.out).mono ?_; rw [HG.out]; rintro e w' ⟨rfl, rfl⟩) | (go_at_call 55; refine (l1In_any _ _ _ _).mono ?_; rw [HT.out]; rintro e w' ⟨rfl, rfl⟩))
    go_ret
    rw [hv.out]
    exact ⟨_, rfl, OIntss.empty _ _ (Nat.le_refl _), belowA _ _⟩
  have HT := Lib.hid ht
  clear ht hg
  cases hc : inR (cntP m t) 0 500
  · have hv : Hid (pathsV m t = []) := by show _ = _; simp [pathsV, pathsOk, hc]
    have HC := Lib.hid hc
    clear hc
    go_enter Tryd.func64, Tryd.ntmps64
    go_wp2_with fail
    refine (sIsGraph_any _ _ _ m _ H.out).mono ?_
    rw [HG.out]
    rintro e w' ⟨rfl, rfl⟩
    go_wp2_with fail
    refine (l1In_any _ _ _ _).mono ?_
    rw [HT.out]
    rintro e w' ⟨rfl, rfl⟩
    go_wp2_with fail
    refine (sCntP_any _ _ _ m t _ H.out).mono ?_
    rintro e w1 ⟨rfl, hb1⟩
    have Hb1 := Lib.hid hb1
    clear hb1
    go_wp2_with fail
    refine (l1In_any _ _ _ _).mono ?_
    rw [HC.out]
    rintro e w' ⟨rfl, rfl⟩
    go_wp2_with fail
    go_ret
    rw [hv.out]
    exact ⟨_, rfl, OIntss.empty _ _ Hb1.out.size, step2 Hb1.out (belowA _ _)⟩
  · have hok : pathsOk m t = true := by simp [pathsOk, HG.out, HT.out, hc]
    have HC := Lib.hid hc
    have HA := Lib.hid (graph_arcs HG.out)
    obtain ⟨r, rfl⟩ : ∃ r : Nat, t = ((r + 1 : Nat) : Int) := ⟨(t - 1).toNat, by have := inR_true HT.out; omega⟩
    have hr6 : r + 1 ≤ 6 := by have := inR_true HT.out; omega
    have hv : Hid (pathsV m ((r + 1 : Nat) : Int) = fillL (arcsL m) (r + 1) []) := by show _ = _; unfold pathsV; rw [if_pos hok, Int.toNat_natCast]
    have hN60 : (arcsL m).length ≤ 60 := by have := HA.out; omega
    have HM : Hid (([] ++ fillL (arcsL m) (r + 1) []).length ≤ 1099511627776) := Nat.le_trans (fillL_len hN60 _ _) (Nat.le_trans (Nat.pow_le_pow_right (by omega) hr6) (by decide))
    clear hc hok
    obtain ⟨t, ht⟩ : ∃ t, t = r + 1 := ⟨_, rfl⟩
    rw [← ht] at hv HM HT HC ⊢
    have HTR := Lib.hid ht
    clear ht
    go_enter Tryd.func64, Tryd.ntmps64
    go_wp2_with fail
    refine (sIsGraph_any _ _ _ m _ H.out).mono ?_
    rw [HG.out]
    rintro e w' ⟨rfl, rfl⟩
    go_wp2_with fail
    refine (l1In_any _ _ _ _).mono ?_
    rw [HT.out]
    rintro e w' ⟨rfl, rfl⟩
    go_wp2_with fail
    refine (sCntP_any _ _ _ m t _ H.out).mono ?_
    rintro e w1 ⟨rfl, hb1⟩
    have Hb1 := Lib.hid hb1
    clear hb1
    go_wp2_with fail
    refine (l1In_any _ _ _ _).mono ?_
    rw [HC.out]
    rintro e w' ⟨rfl, rfl⟩
    go_wp2_with fail
    refine (sArcs5_any _ _ _ m _ (H.out.keep Hb1.out) HA.out.1 hN60).mono ?_
    rintro e w2 ⟨v2, rfl, ho2, hb2⟩
    obtain ⟨a2, c2, rfl, hi2⟩ := ho2.form
    have HI2 := Lib.hid hi2
    have Hb2 := Lib.hid (step2 Hb1.out hb2)
    have HO := Lib.hid (OIntss.empty (w2.alloc (.cells #[] 3)) _ (Nat.le_refl _))
    have HBW := Lib.hid (step2 (belowA w2 (.cells #[] 3)) (belowA _ (.cells #[] 22)))
    have hA2 : ∀ (k : Nat) (a : List Int), (arcsL m)[k]? = some a → ∃ x y : Int, a = [x, y] := fun k a ha => by obtain ⟨x, y, e⟩ := arc_get ha; exact ⟨_, _, e⟩
    have ht6 : t ≤ 6 := by rw [HTR.out]; exact hr6
    have hM0 : ([] ++ fillL (arcsL m) (r + 1) []).length ≤ 1099511627776 := by rw [← HTR.out]; exact HM.out
    have hI0 : Idx (arcsL m).length [] := fun x hx => by simp at hx
    have hK0 : ∀ W' : World, Ints W' (some ⟨w2.heap.size, 0, none⟩) 0 [] := fun W' => ⟨rfl, by omega, fun i hi => by simp at hi⟩
    have hF := (sFill_step0 a2 (arcsL m).length c2 t r (w2.alloc (.cells #[] 3)).heap.size (arcsL m) hA2 ht6 hN60 rfl
      (sFill_fresh a2 (arcsL m).length c2 t (w2.alloc (.cells #[] 3)).heap.size (arcsL m) hA2 ht6 hN60 rfl r)
      ((w2.alloc (.cells #[] 3)).alloc (.cells #[] 22)) (some ⟨w2.heap.size, 0, none⟩) 0 0 [] (.slice (some ⟨(w2.alloc (.cells #[] 3)).heap.size, 0, none⟩) 0 0) [] (by rw [HTR.out]; simp) hI0 HO.out (belowA _ _).size (fun W' _ => hK0 W')
      (fun W' hW' => HI2.out.keep (HBW.out.trans (hW'.mono (by simp)))) rfl hM0)
    have hs2 : (w2.alloc (.cells #[] 3)).heap.size = w2.heap.size + 1 := by simp
    rw [hs2] at hF
    have HF := Lib.hid hF
    clear hF hs2
    clear ho2 hb2 hi2 hA2 ht6 hM0 hI0 hK0
    go_wp2_with fail
    refine HF.out.mono ?_
    rintro e w5 ⟨v5, rfl, ho5, hg5, hn5⟩
    rw [← HTR.out, List.nil_append] at ho5
    have Ho5 : Hid (OIntss w5 w.heap.size v5 (pathsV m t).length (pathsV m t)) := by
      show OIntss _ _ _ _ _
      rw [hv.out]
      exact ho5.mono (by have := Hb2.out.size; simp; omega)
    have Hb5 : Hid (Below w.heap.size w w5) := (Hb2.out.trans (HBW.out.mono Hb2.out.size)).grown hg5 (by have := Hb2.out.size; have := HBW.out.size; omega) (fun b hb => by have h7 : w2.heap.size + 1 = b := (by simpa [Value.ownBlock] using hb); have := Hb2.out.size; omega)
    clear ho5 hg5 hn5
    go_wp2_with fail
    go_ret
    exact ⟨_, rfl, Ho5.out, Hb5.out⟩
end Go.Proofs.YtnoghnalopdflaaDoor
