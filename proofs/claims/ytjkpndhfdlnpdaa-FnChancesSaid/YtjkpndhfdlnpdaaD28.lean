/- D28: a part of the proofs of this seat. -/
import Derived.StillTailTactics
import Derived.Test.YtjkpndhfdlnpdaaProg
import Derived.Test.YtjkpndhfdlnpdaaDraw1
import Derived.Test.YtjkpndhfdlnpdaaSL4Zero
import Derived.Test.YtjkpndhfdlnpdaaMulT
namespace Go.Proofs.Ytjkpndhfdlnpdaa
open Go.RowKit
set_option linter.all false
theorem rows_set {T : List (List Int)} {n i : Nat} {r : List Int} (h : RowsLen T n) (hr : r.length = n) : RowsLen (T.set i r) n := by
  intro k q hk
  rw [List.getElem?_set] at hk
  split at hk
  · split at hk
    · injection hk with hk
      subst hk
      exact hr
    · cases hk
  · exact h k q hk
theorem rows_rep (n c : Nat) : RowsLen (List.replicate n (List.replicate c (0 : Int))) c := by
  intro k q hk
  have := List.mem_of_getElem? hk
  rw [List.mem_replicate] at this
  rw [this.2]; simp
theorem small_nat {x : Int} (h : x ∈ [(1 : Int), 2, 3, 4, 6, 12]) : ∃ d : Nat, x = d ∧ d ≤ 12 := by
  simp only [List.mem_cons, List.not_mem_nil, or_false] at h
  exact ⟨x.toNat, by omega, by omega⟩
theorem grown_new {w w' : World} {row : Option Nat} (h : w.grownBy w' row) {p : Addr} (hp : w.heap.size ≤ p.block) (u : Value) : w.grownBy (w'.setCell p u) row :=
  ⟨h.os, h.tape, h.output, by simpa [World.setCell] using h.size, fun k hk hne => (Below.heap_setCell w' p u k (by rintro rfl; omega)).trans (h.block k hk hne)⟩
theorem lit_fin {w W : World} {b lo : Nat} {e : Ending} (hg : w.grownBy W (some b)) (hc : Cur W b lo) (he : e = .returned (.slice (some ⟨W.heap.size + 1 + 1, 0, none⟩) 2 2)) :
    ∃ v T, e = .returned v ∧ OIntss (((W.alloc (.cells #[.int .i64 1, .int .i64 1] 3)).alloc (.cells #[.int .i64 1, .int .i64 1] 3)).alloc (.cells #[.slice (some ⟨W.heap.size, 0, none⟩) 2 2, .slice (some ⟨W.heap.size + 1, 0, none⟩) 2 2] 23)) w.heap.size v T.length T ∧ 1 ≤ T.length ∧ T.length ≤ 4 ∧
      Cur (((W.alloc (.cells #[.int .i64 1, .int .i64 1] 3)).alloc (.cells #[.int .i64 1, .int .i64 1] 3)).alloc (.cells #[.slice (some ⟨W.heap.size, 0, none⟩) 2 2, .slice (some ⟨W.heap.size + 1, 0, none⟩) 2 2] 23)) b lo ∧
      w.grownBy (((W.alloc (.cells #[.int .i64 1, .int .i64 1] 3)).alloc (.cells #[.int .i64 1, .int .i64 1] 3)).alloc (.cells #[.slice (some ⟨W.heap.size, 0, none⟩) 2 2, .slice (some ⟨W.heap.size + 1, 0, none⟩) 2 2] 23)) (some b) := by
  have hs := hg.size
  have s1 : (W.alloc (.cells #[.int .i64 1, .int .i64 1] 3)).heap.size = W.heap.size + 1 := by simp
  have s2 : ((W.alloc (.cells #[.int .i64 1, .int .i64 1] 3)).alloc (.cells #[.int .i64 1, .int .i64 1] 3)).heap.size = W.heap.size + 1 + 1 := by simp
  have h0 : OInts (W.alloc (.cells #[.int .i64 1, .int .i64 1] 3)) w.heap.size (.slice (some ⟨W.heap.size, 0, none⟩) 2 2) 2 [1, 1] := OInts.lit_ hs rfl rfl (by omega)
  have h1 : OInts ((W.alloc (.cells #[.int .i64 1, .int .i64 1] 3)).alloc (.cells #[.int .i64 1, .int .i64 1] 3)) w.heap.size (.slice (some ⟨W.heap.size + 1, 0, none⟩) 2 2) 2 [1, 1] := by
    have h := OInts.lit_ (w := W.alloc (.cells #[.int .i64 1, .int .i64 1] 3)) (lo := w.heap.size) (arr := #[.int .i64 1, .int .i64 1]) (xs := [1, 1]) (n := 2) (by omega) rfl rfl (by omega)
    rw [s1] at h
    exact h
  have h2 := OIntss.lit2 (lo := w.heap.size) (r0 := [1, 1]) (r1 := [1, 1]) (by omega) (h0.alloc (.cells #[.int .i64 1, .int .i64 1] 3)) h1 (by simp [Value.ownBlock])
  rw [s2] at h2
  have hb := (((Below.refl W.heap.size W).alloc (Nat.le_refl _) (.cells #[.int .i64 1, .int .i64 1] 3)).alloc (by omega) (.cells #[.int .i64 1, .int .i64 1] 3)).alloc (by omega) (.cells #[.slice (some ⟨W.heap.size, 0, none⟩) 2 2, .slice (some ⟨W.heap.size + 1, 0, none⟩) 2 2] 23)
  exact ⟨_, [[1, 1], [1, 1]], he, h2, by simp, by simp, hc.keep hb, hg.trans (grown_of_below hb)⟩
set_option maxRecDepth 20000 in
set_option maxHeartbeats 6400000 in
theorem l28Draw_any (b lo : Nat) (w : World) (h : Cur w b lo) :
    Calls Try.prog 92 #[.pointer (some ⟨b, 0, none⟩)] w fun e w' => ∃ v T, e = .returned v ∧ OIntss w' w.heap.size v T.length T ∧ 1 ≤ T.length ∧ T.length ≤ 4 ∧ Cur w' b lo ∧ w.grownBy w' (some b) := by
  have hbl := h.lt.2
  have H := Lib.hid h
  clear h
  go_enter Try.func92, Try.ntmps92
  go_wp2_with (first
    | (go_at_call 104; refine (l1Below_any b lo 4 _ H.out (by omega) (by omega)).mono ?_; rintro e w1 ⟨m, hm, rfl, hc1, hg1⟩; obtain ⟨n, hn⟩ : ∃ n : Nat, 1 + (m : Int) = n := ⟨m + 1, by omega⟩; have hn1 : 1 ≤ n := (by omega); have hn4 : n ≤ 4 := (by omega); have hbl1 := hc1.lt.2; have Hc1 := Lib.hid hc1; have Hg1 := Lib.hid hg1; clear hc1 hg1 hm)
    | (go_at_call 120; refine (l1PickInt_any b lo w1.heap.size 6 6 _ [1, 2, 3, 4, 6, 12] _ (Hc1.out.keep ((Below.refl _ _).alloc (Nat.le_refl _) _)) (OInts.lit_ (Nat.le_refl _) rfl rfl (by omega)) hbl1 (by omega) (by omega)).mono ?_; rintro e w2 ⟨d0, hd0, rfl, hc2, hg2⟩; obtain ⟨d, rfl, hd12⟩ := small_nat hd0; clear hd0; have hbl2 := hc2.lt.2; have Hc2 := Lib.hid hc2; have Hg2 := Lib.hid ((Hg1.out.trans (grown_alloc _ _ _)).trans hg2); have hs2 := Hg2.out.size; clear hc2 hg2)
    | (go_at_call 68; refine (sL4Zero_any n n _ (by omega) (by omega)).mono ?_; rintro e w3 ⟨v3, rfl, ho3, hb3⟩; obtain ⟨g3, cap3, rfl⟩ := ho3.head hn1; have Ho3 := Lib.hid ho3; have Hc3 := Lib.hid (Hc2.out.keep hb3); have Hg3 := Lib.hid (Hg2.out.trans (grown_of_below hb3)); clear ho3 hb3))
  clear hn
  go_loopw [6] (fun x wr => ∃ (i : Nat) (T : List (List Int)), i ≤ n ∧ x = .int .i64 i ∧ OIntss wr w2.heap.size (.slice (some ⟨g3, 0, none⟩) n cap3) n T ∧ Hid (RowsLen T n) ∧ Cur wr b lo ∧ w.grownBy wr (some b)) (fun x _ => n - (intOf x).toNat)
  case atStart => exact ⟨0, _, Nat.zero_le _, rfl, Ho3.out, rows_rep n n, Hc3.out, Hg3.out⟩
  case round =>
    obtain ⟨i, T, hi, rfl, hown, hrl, hcu, hgr⟩ := hrel
    have Hown := Lib.hid hown
    have Hcu := Lib.hid hcu
    have Hgr := Lib.hid hgr
    clear hown hcu hgr
    by_cases hlt : i < n
    · obtain ⟨wo, rfl⟩ : ∃ wo : World, wo = wr := ⟨_, rfl⟩
      go_wp2_with fail
      go_loopw [7] (fun x wr => ∃ (k : Nat) (T : List (List Int)), k ≤ d ∧ x = .int .i64 k ∧ OIntss wr w2.heap.size (.slice (some ⟨g3, 0, none⟩) n cap3) n T ∧ Hid (RowsLen T n) ∧ Cur wr b lo ∧ w.grownBy wr (some b)) (fun x _ => d - (intOf x).toNat)
      case atStart => exact ⟨0, T, Nat.zero_le _, rfl, Hown.out, hrl, Hcu.out, Hgr.out⟩
      case round =>
        clear Hown Hcu Hgr hrl T
        obtain ⟨k, T, hk, rfl, hown, hrl, hcu, hgr⟩ := hrel
        have Hown := Lib.hid hown
        have Hcu := Lib.hid hcu
        have Hgr := Lib.hid hgr
        clear hown hcu hgr
        by_cases hkd : k < d
        · go_wp2_with (go_at_call 104; refine (l1Below_any b lo n _ Hcu.out (by omega) (by omega)).mono ?_; rintro e w4 ⟨j, hj, rfl, hc4, hg4⟩; have Hc4 := Lib.hid hc4; have Hg4 := Lib.hid (Hgr.out.trans hg4); have Ho4 := Lib.hid (Hown.out.away hg4 hbl2); clear hc4 hg4)
          have hti : i < T.length := by rw [Ho4.out.len]; exact hlt
          have hri := hrl.out i _ (List.getElem?_eq_getElem hti)
          obtain ⟨gk, ck, h5, ho, hne, hlo⟩ := Ho4.out.rowAt (List.getElem?_eq_getElem hti) (by omega)
          have hset := Ho4.out.setIn (List.getElem?_eq_getElem hti) h5 ho j (wrap64 (T[i].getD j 0 + 1))
          have Hrl := Lib.hid (rows_set (i := i) (r := T[i].set j (wrap64 (T[i].getD j 0 + 1))) hrl.out (by rw [List.length_set]; exact hri))
          rw [hri] at h5 ho
          have h6 := ho.cell j hj
          have h7 := ho.frozen j
          have Hset := Lib.hid hset
          have Hc5 := Lib.hid (Hc4.out.grown (only_setCell (World.grownBy.refl w4 (some gk)) rfl (p := ⟨gk, j, none⟩) (.int .i64 (wrap64 (T[i].getD j 0 + 1)))) (fun g e => by injection e; omega))
          have Hg5 := Lib.hid (grown_new Hg4.out (p := ⟨gk, j, none⟩) (by show _ ≤ gk; omega) (.int .i64 (wrap64 (T[i].getD j 0 + 1))))
          clear hset ho hri hrl
          go_still_tail 14, (by kernel_rfl)
          change wpList _ _ _ _ _ w4.drew
          go_wp2_with fail
          go_roundw
          case rel => exact ⟨k + 1, _, hkd, by go_num, Hset.out.drewN 1, Hrl.out, Hc5.out.drewN 1, grown_setdrew Hg5.out 1⟩
          case measure => simp [intOf]; omega
        · go_wp2_with fail
          go_roundw
          case rel => exact ⟨i + 1, T, hlt, by go_num, Hown.out, hrl, Hcu.out, Hgr.out⟩
          case measure => simp [intOf]; omega
    · have hti : 0 < T.length := by rw [Hown.out.len]; omega
      have HTL : Hid (T.length = n) := Hown.out.len
      have fin : Hid (∀ {W : World} {v : Value} {U : List (List Int)} {e : Ending}, e = .returned v → U.length = n → OIntss W w.heap.size v n U → Cur W b lo → w.grownBy W (some b) → ∃ v T, e = .returned v ∧ OIntss W w.heap.size v T.length T ∧ 1 ≤ T.length ∧ T.length ≤ 4 ∧ Cur W b lo ∧ w.grownBy W (some b)) := by
        intro W v U e he hU ho hc hg
        exact ⟨v, U, he, by rw [hU]; exact ho, by omega, by omega, hc, hg⟩
      go_wp2_with (go_at_call 105; refine (l1Once_any b lo 14 _ Hcu.out (by omega) (by omega)).mono ?_; rintro e w4 ⟨t4, rfl, hc4, hg4⟩; have Hc4 := Lib.hid hc4; have Hg4 := Lib.hid (Hgr.out.trans hg4); have Ho4 := Lib.hid (Hown.out.away hg4 hbl2); have hs4 := Hg4.out.size; clear hc4 hg4)
      · have hri := hrl.out 0 _ (List.getElem?_eq_getElem hti)
        obtain ⟨gk, ck, h5, ho, hne, hlo⟩ := Ho4.out.rowAt (List.getElem?_eq_getElem hti) (by omega)
        rw [hri] at h5
        have h6 := ho.cell 0 (by omega)
        have h7 := ho.frozen 0
        have hn0 : 0 < n := by omega
        have hgn : g3 < w4.heap.size := Ho4.out.lt.2
        have hgne : some g3 ≠ some b := by have := Ho4.out.lt.1; intro e; injection e; omega
        have hgk : gk < w4.heap.size := ho.lt.2
        have HO := Lib.hid ho
        have hset := fun (W : World) (hw : OIntss W w2.heap.size (.slice (some ⟨g3, 0, none⟩) n cap3) n T) (hc : W.cell? ⟨g3, 0, none⟩ = some (.slice (some ⟨gk, 0, none⟩) T[0].length ck)) (ho : OInts W w2.heap.size (.slice (some ⟨gk, 0, none⟩) T[0].length ck) T[0].length T[0]) (x : Int) => hw.setIn (List.getElem?_eq_getElem hti) hc ho 0 x
        rw [hri] at hset
        have HSet := Lib.hid hset
        have HB4 := Lib.hid (((Below.refl w4.heap.size w4).alloc (Nat.le_refl _) (.cells #[.int .i64 1, .int .i64 (-1), .int .i64 60] 3)).drew)
        have Hri := Lib.hid hri
        have HLit : Hid (OInts (w4.alloc (.cells #[.int .i64 1, .int .i64 (-1), .int .i64 60] 3)).drew w4.heap.size (.slice (some ⟨w4.heap.size, 0, none⟩) 3 3) 3 [1, -1, 60]) := (OInts.lit_ (w := w4) (arr := #[.int .i64 1, .int .i64 (-1), .int .i64 60]) (n := 3) (xs := [1, -1, 60]) (Nat.le_refl _) rfl rfl (by omega)).drewN 1
        clear hset ho h7 hri
        go_region_law (first
          | (go_simp; go_at_call 120; refine (l1PickInt_any b lo w4.heap.size 3 3 _ [1, -1, 60] _ (Hc4.out.keep HB4.out) HLit.out Hc4.out.lt.2 (by omega) (by omega)).mono ?_; rintro e w5 ⟨d0, hd0, rfl, hc5, hg5⟩; have Hc5 := Lib.hid hc5; have Hg5 := Lib.hid (Hg4.out.trans ((grown_of_below HB4.out).trans hg5)); have Ho5 := Lib.hid ((Ho4.out.keep HB4.out).away hg5 hbl2); have HOk := Lib.hid ((HO.out.keep HB4.out).away hg5 hbl2); have q5 := hg5.cell ((HB4.out.cell (p := ⟨g3, 0, none⟩) hgn).trans h5) hgne; have q6 := HOk.out.cell 0 (by rw [Hri.out]; exact hn0); have q7 := HOk.out.frozen 0; clear hc5 hg5 hd0))
        all_goals
          have Ht := Lib.hid (HSet.out _ Ho5.out q5 (by have h9 := HOk.out; rw [Hri.out] at h9; exact h9) (IntKind.i64.wrap (T[0][0]?.getD 0 + d0)))
          have HUl : Hid ((T.set 0 (T[0].set 0 (IntKind.i64.wrap (T[0][0]?.getD 0 + d0)))).length = n) := by show _ = _; rw [List.length_set]; exact HTL.out
          have Hc6 := Lib.hid (Hc5.out.grown (only_setCell (World.grownBy.refl w5 (some gk)) rfl (p := ⟨gk, 0, none⟩) (.int .i64 (IntKind.i64.wrap (T[0][0]?.getD 0 + d0)))) (fun g e => by injection e; omega))
          have Hg6 := Lib.hid (grown_new Hg5.out (p := ⟨gk, 0, none⟩) (by show _ ≤ gk; omega) (.int .i64 (IntKind.i64.wrap (T[0][0]?.getD 0 + d0))))
          generalize w5.setCell ⟨gk, 0, none⟩ (.int .i64 (IntKind.i64.wrap (T[0][0]?.getD 0 + d0))) = w6 at Ht Hc6 Hg6 ⊢
          generalize T.set 0 (T[0].set 0 (IntKind.i64.wrap (T[0][0]?.getD 0 + d0))) = U at Ht HUl
          clear q5 q6 q7 Ho5 HOk Hc5 Hg5 HSet h5 h6
          go_wp2_with (go_at_call 105; refine (l1Once_any b lo 4 _ Hc6.out (by omega) (by omega)).mono ?_; rintro e w7 ⟨t7, rfl, hc7, hg7⟩; have Hc7 := Lib.hid hc7; have Hg7 := Lib.hid (Hg6.out.trans hg7); have Ho7 := Lib.hid (Ht.out.away hg7 hbl2); clear hc7 hg7)
          · go_ret
            exact lit_fin Hg7.out Hc7.out rfl
          · go_ret
            exact fin.out rfl HUl.out (Ho7.out.mono hs2) Hc7.out Hg7.out
      · refine (l1Once_any b lo 4 _ Hc4.out (by omega) (by omega)).mono ?_
        rintro e w5 ⟨t5, rfl, hc5, hg5⟩
        have Hc5 := Lib.hid hc5
        have Hg5 := Lib.hid (Hg4.out.trans hg5)
        have Ho5 := Lib.hid (Ho4.out.away hg5 hbl2)
        have hs5 := Hg5.out.size
        clear hc5 hg5
        go_wp2_with fail
        · go_ret
          exact lit_fin Hg5.out Hc5.out rfl
        · go_ret
          exact fin.out rfl HTL.out (Ho5.out.mono hs2) Hc5.out Hg5.out
end Go.Proofs.Ytjkpndhfdlnpdaa
