/- D3c: a part of the proofs of this seat. -/
import Derived.BigQuiet
import Derived.Deep.RegionLaw
import Derived.Test.YtdmpokanfnlbgaaGreatDoorProg
import Derived.Test.YtdmpokanfnlbgaaGreatDoorBD3b
namespace Go.Proofs.YtdmpokanfnlbgaaGreatDoor
open Go.RowKit
set_option linter.all false
/- The draws of shifts that may be bent, and of what is asked with them. -/
def shB (b lo : Nat) (w w' : World) (e : Ending) : Prop := ∃ (K : Int) (v : Value) (F : List ByteArray), e = .returned (.agg #[.int .i64 K, v]) ∧ OStrs w' w.heap.size v F.length F ∧ (∀ f ∈ F, f.size ≤ 4) ∧ Cur w' b lo ∧ w.grownBy w' (some b)
def bent4 : List ByteArray := [⟨#[97]⟩, ⟨#[]⟩, ⟨#[100]⟩, ⟨#[97, 97, 97, 97]⟩]
theorem bent4_size {s : ByteArray} (h : s ∈ bent4) : s.size ≤ 4 := by
  simp only [bent4, List.mem_cons, List.not_mem_nil, or_false] at h
  rcases h with rfl | rfl | rfl | rfl <;> decide
theorem bent4_cell (w : World) (i : Nat) (s : ByteArray) (hs : bent4[i]? = some s) : (w.alloc (.cells (bent4.map Value.string).toArray 9)).cell? ⟨w.heap.size, i, none⟩ = some (.string s) :=
  (OStrs.lit w w.heap.size bent4 (Nat.le_refl _) (by decide)).cell hs
/-- What is put into the result's block. -/
theorem sh_put {b lo : Nat} {w W : World} {K : Int} {v : Value} {F : List ByteArray} (hb : b < w.heap.size) (ho : OStrs W (w.heap.size + 1) v F.length F) (hx : ∀ f ∈ F, f.size ≤ 4) (hc : Cur W b lo) (hg : w.grownBy W (some b)) (u0 u1 : Value) :
    shB b lo w ((W.setCell ⟨w.heap.size, 0, none⟩ u0).setCell ⟨w.heap.size, 1, none⟩ u1) (.returned (.agg #[.int .i64 K, v])) := by
  have hne := strs_ne ho (Nat.lt_succ_self _)
  refine ⟨K, v, F, rfl, ((ho.mono (Nat.le_succ _)).setFar' hne _).setFar' hne _, hx, ?_, ?_⟩
  · exact (hc.put (p := ⟨w.heap.size, 0, none⟩) hb _).put (p := ⟨w.heap.size, 1, none⟩) hb _
  · exact grown_new (grown_new hg (p := ⟨w.heap.size, 0, none⟩) (Nat.le_refl _) _) (p := ⟨w.heap.size, 1, none⟩) (Nat.le_refl _) _
theorem F4_push {F : List ByteArray} {s : ByteArray} (h : ∀ f ∈ F, f.size ≤ 4) (hs : s.size ≤ 4) : ∀ f ∈ F ++ [s], f.size ≤ 4 := fun f hf => by
  rcases List.mem_append.1 hf with h1 | h1
  · exact h f h1
  · rw [List.mem_singleton.1 h1]; exact hs
theorem wp_push_strAt {o : Oper} {a : Act} {K0 : Act → World → Prop} {Q : Exit → Act → World → Prop} (W : World) (y : ByteArray) (s x : Operand)
    (ho : o.op = .call { callee := .builtin .append, args := #[s, x], argTypes := #[28, 28] })
    (lo : Nat) (v : Value) (n : Nat) (xs : List ByteArray) (hs : a.eval s = v) (h : OStrs W lo v n xs) (hn : n + 1 ≤ 1099511627776) (hlo : lo ≤ W.heap.size)
    (tb : Nat) (htb : tb = W.heap.size) (hx : a.eval x = .slice (some ⟨tb, 0, none⟩) 1 1)
    (K : ∀ v' w', OStrs w' lo v' (n + 1) (xs ++ [y]) → W.grownBy w' v.ownBlock → NewOr W.heap.size v v' → K0 (a.put o.dst v') w') : o.wp Tryz.prog a (W.alloc (.cells #[.string y] 9)) K0 Q := by
  subst htb
  obtain ⟨i0, hi, hz0, hz1, hz2⟩ := info_parts info_str
  obtain ⟨v', w', hr, h2, h3, _, h5⟩ := run_append_own_at (P := Tryz.prog) (W.alloc (.cells #[.string y] 9)) lo 28 o.type 9 i0 (.string ⟨#[]⟩) 1 16 Tryz.underlying28 hi hz0 hz1 hz2 rfl (by decide) v n _ (h.alloc _).2 ⟨W.heap.size, 0, none⟩ 1 1 [.string y] rfl
    (by
      intro j u' hj
      match j, hj with
      | 0, hj =>
        simp at hj
        subst hj
        exact World.cell?_alloc_new _ _ _ _) (by intro u hu; simp at hu; subst hu; rfl) (by unfold maxLen; omega) (by omega) (by simp; omega)
  unfold Oper.wp execOp
  simp only [ho, resolve, invoke, builtin, Sem.run_bind, Sem.run_pure, Result.andThen_ok, List.map_toArray, List.map_cons, List.map_nil, hs, hx, hr]
  refine (K v' w' ⟨hn, ?_⟩ ((grown_alloc W _ _).trans h3) ?_)
  · rw [List.map_append]; exact h2
  · rcases h5 with h5 | h5
    · exact .inl h5
    · exact .inr ⟨_, h5, by simp⟩
theorem NewOr.ne {s g : Nat} {v v' : Value} (h : NewOr s v v') (hv : v.ownBlock ≠ some g) (hg : g < s) : v'.ownBlock ≠ some g := by
  rcases h with h | ⟨c, h, hc⟩
  · rw [h]; exact hv
  · rw [h]; intro e; injection e with e; omega
set_option maxRecDepth 20000 in
set_option maxHeartbeats 12800000 in
theorem l3Bent_any (b lo : Nat) (w : World) (h : Cur w b lo) :
    Calls Tryz.prog 36 #[.pointer (some ⟨b, 0, none⟩)] w fun e w' => shB b lo w w' e := by
  have hbl := h.lt.2
  have HZ1 := Lib.hid (Blk.new w 30 #[.int .i64 0, .slice none 0 0])
  have H1 := Lib.hid (h.keep (belowA w (.cells #[.int .i64 0, .slice none 0 0] 30)))
  have HG1 := Lib.hid (grown_alloc w (.cells #[.int .i64 0, .slice none 0 0] 30) (some b))
  have hne : some w.heap.size ≠ some b := some_ne (by omega)
  have HNE := Lib.hid hne
  clear h hne
  go_enter Tryz.func36, Tryz.ntmps36
  go_wp2_with fail
  generalize w.alloc (.cells #[.int .i64 0, .slice none 0 0] 30) = w1 at HZ1 H1 HG1 ⊢
  refine (l3Draw_any b lo _ H1.out).mono ?_
  rintro e w2 ⟨K, v2, F, rfl, ho2, hF, hc2, hg2⟩
  obtain ⟨a2, c2, rfl, _⟩ := ho2.form
  have hlz : w.heap.size < w1.heap.size := HZ1.out.lt
  have HX3 := Lib.hid (Blk.new w2 30 #[.int .i64 K, .slice a2 F.length c2])
  have HC3 := Lib.hid (hc2.keep (belowA w2 (.cells #[.int .i64 K, .slice a2 F.length c2] 30)))
  have HG3 := Lib.hid ((HG1.out.trans hg2).trans (grown_alloc w2 (.cells #[.int .i64 K, .slice a2 F.length c2] 30) (some b)))
  have HZ3 := Lib.hid ((HZ1.out.grown hg2 HNE.out).alloc (.cells #[.int .i64 K, .slice a2 F.length c2] 30))
  have HO3 := Lib.hid ((ho2.alloc (.cells #[.int .i64 K, .slice a2 F.length c2] 30)).mono (show w.heap.size + 1 ≤ w1.heap.size from hlz))
  have HOB := Lib.hid ho2
  have HF : Hid (∀ f ∈ F, f.size ≤ 4) := fun f hf => by have := hF.1 f hf; omega
  have hF8 := hF.2
  have hbl2 := hc2.lt.2
  have hl2 : w.heap.size < w2.heap.size := (HZ1.out.grown hg2 HNE.out).lt
  have HNEX : Hid (some w2.heap.size ≠ some b) := some_ne (by omega)
  have HNR3 : Hid ((Value.slice a2 F.length c2).ownBlock ≠ some w2.heap.size) := fun e => by have := (HOB.out.ownlt _ e).2; omega
  clear ho2 hF hc2 hg2 HZ1 H1 HG1 HOB
  go_wp2_with fail
  generalize w2.alloc (.cells #[.int .i64 K, .slice a2 F.length c2] 30) = w3 at HX3 HC3 HG3 HZ3 HO3 ⊢
  refine (l1Below_any b lo 16 _ HC3.out (by omega) (by omega)).mono ?_
  rintro e w4 ⟨x, hx, rfl, hc4, hg4⟩
  have HX4 := Lib.hid (HX3.out.grown hg4 HNEX.out)
  have HC4 := Lib.hid hc4
  have HG4 := Lib.hid (HG3.out.trans hg4)
  have HZ4 := Lib.hid (HZ3.out.grown hg4 HNE.out)
  have HO4 := Lib.hid (HO3.out.away hg4 (by omega))
  have hbl4 := hc4.lt.2
  clear hc4 hg4 HX3 HC3 HG3 HZ3 HO3
  by_cases hx0 : x = 0
  · subst hx0
    go_wp2_with (first
      | (go_at_call 58; refine (l1PickInt_any b lo w4.heap.size 3 3 _ [0, 4, 1] _ (HC4.out.keep ((Below.refl _ _).alloc (Nat.le_refl _) _)) (OInts.lit_ (Nat.le_refl _) rfl rfl (by omega)) hbl4 (by omega) (by omega)).mono ?_; rintro e w5 ⟨d, hd, rfl, hc5, hg5⟩; have HX5 := Lib.hid ((HX4.out.alloc _).grown hg5 HNEX.out); have HX6 : Hid (Blk (w5.setCell ⟨w2.heap.size, 0, none⟩ (.int .i64 d)) w2.heap.size 30 #[.int .i64 d, .slice a2 F.length c2]) := HX5.out.set 0 _; have HC6 := Lib.hid (hc5.put (p := ⟨w2.heap.size, 0, none⟩) (by show b < w2.heap.size; omega) (.int .i64 d)); have HG6 := Lib.hid (grown_new ((HG4.out.trans (grown_alloc w4 _ (some b))).trans hg5) (p := ⟨w2.heap.size, 0, none⟩) (by show w.heap.size ≤ w2.heap.size; omega) (.int .i64 d)); have HZ6 := Lib.hid (((HZ4.out.alloc _).grown hg5 HNE.out).other (p := ⟨w2.heap.size, 0, none⟩) (by show w.heap.size ≠ w2.heap.size; omega) (.int .i64 d)); have HO6 := Lib.hid (((HO4.out.alloc _).away hg5 (by omega)).setFar' (p := ⟨w2.heap.size, 0, none⟩) HNR3.out (.int .i64 d)); have k0 := HX6.out.cell 0; have k1 := HX6.out.cell 1; have z0 := HZ6.out.cell 0; have z1 := HZ6.out.cell 1; change _ = some _ at k0; change _ = some _ at k1; change _ = some _ at z0; change _ = some _ at z1; have f0 := HZ6.out.frozen 0; have f1 := HZ6.out.frozen 1; have g0 := HX5.out.cell 0; change _ = some _ at g0; have g1 := HX5.out.frozen 0; clear hd hc5 hg5))
    refine bodyPost_ret (v := .agg #[.int .i64 d, .slice a2 F.length c2]) (by simp [results, Tryz.results36, go_sem, *]) rfl ?_
    exact sh_put hbl HO6.out HF.out HC6.out HG6.out _ _
  by_cases hx1 : x = 1
  · subst hx1
    have k1 := HX4.out.cell 1
    change _ = some _ at k1
    have k1a : (w4.alloc (.cells #[.string ⟨#[97]⟩, .string ⟨#[]⟩, .string ⟨#[100]⟩, .string ⟨#[97, 97, 97, 97]⟩] 9)).cell? ⟨w2.heap.size, 1, none⟩ = some (.slice a2 F.length c2) := (HX4.out.alloc _).cell 1
    have HLC := Lib.hid (bent4_cell w4)
    have HNEB : Hid (b ≠ w4.heap.size) := by show _ ≠ _; omega
    go_wp2_with fail
    go_region_law (first
      | (refine step_of_wp rfl (wp_push_strAt w5 s (.tmp 17) (.tmp 21) rfl (w.heap.size + 1) (.slice a2 F.length c2) F.length F rfl (by exact HO5.out) (by omega) (by exact HL5.out) _ rfl rfl ?_); intro v9 w9 ho9 hg9 hn9; have HX9 := Lib.hid (HX5.out.grown hg9 (Ne.symm HNR3.out)); have q9 := HX9.out.cell 1; change _ = some _ at q9; have f9 := HX9.out.frozen 1; have HN9 := Lib.hid (hn9.ne HNR3.out HX5.out.lt); have HO9 := Lib.hid ho9; have HZ9 := Lib.hid (HZ5.out.grown hg9 (Ne.symm (strs_ne HO5.out (Nat.lt_succ_self _)))); have HB9 : Hid (Below (w.heap.size + 1) w5 w9) := (Below.refl _ _).grown hg9 HL5.out (fun k hk => (HO5.out.ownlt k hk).1); have HC9 := Lib.hid (HC5.out.below HB9.out (by omega)); have HG9 := Lib.hid (grown_belowB HG5.out HB9.out (Nat.le_succ _)); obtain ⟨a9, c9, rfl, _⟩ := ho9.form; clear ho9 hg9 hn9)
      | (go_simp; go_at_call 64; refine (l1Pick_any b lo w4.heap.size 4 4 bent4 _ ((HC4.out.keep (belowA w4 _)).drewN 1) rfl HLC.out HNEB.out (by omega) (by omega)).mono ?_; rintro e w5 ⟨s, hs, rfl, hc5, hg5⟩; have hg5' : w4.grownBy w5 (some b) := (grown_drewN (grown_alloc w4 _ (some b)) 1).trans hg5; have HS5 := Lib.hid (bent4_size hs); have HC5 := Lib.hid hc5; have HG5 := Lib.hid (HG4.out.trans hg5'); have HX5 := Lib.hid (HX4.out.grown hg5' HNEX.out); have HZ5 := Lib.hid (HZ4.out.grown hg5' HNE.out); have HO5 := Lib.hid (HO4.out.away hg5' (by omega)); have HL5 : Hid (w.heap.size + 1 ≤ w5.heap.size) := HZ5.out.lt; have q5 := HX5.out.cell 1; change _ = some _ at q5; have q5a : (w5.alloc (.cells #[.string s] 9)).cell? ⟨w2.heap.size, 1, none⟩ = some (.slice a2 F.length c2) := (HX5.out.alloc _).cell 1; clear hs hc5 hg5 hg5'))
    all_goals
      have HX10 : Hid (Blk (w9.setCell ⟨w2.heap.size, 1, none⟩ (.slice a9 (F.length + 1) c9)) w2.heap.size 30 #[.int .i64 K, .slice a9 (F.length + 1) c9]) := HX9.out.set 1 _
      have HZ10 := Lib.hid (HZ9.out.other (p := ⟨w2.heap.size, 1, none⟩) (by show w.heap.size ≠ w2.heap.size; omega) (.slice a9 (F.length + 1) c9))
      have k0 := HX10.out.cell 0
      have k1 := HX10.out.cell 1
      have z0 := HZ10.out.cell 0
      have z1 := HZ10.out.cell 1
      change _ = some _ at k0
      change _ = some _ at k1
      change _ = some _ at z0
      change _ = some _ at z1
      have f0 := HZ10.out.frozen 0
      have f1 := HZ10.out.frozen 1
      have HO10 : Hid (OStrs (w9.setCell ⟨w2.heap.size, 1, none⟩ (.slice a9 (F.length + 1) c9)) (w.heap.size + 1) (.slice a9 (F.length + 1) c9) (F ++ [s]).length (F ++ [s])) := by
        show OStrs _ _ _ _ _
        rw [List.length_append]
        exact HO9.out.setFar' (p := ⟨w2.heap.size, 1, none⟩) HN9.out _
      have HC10 := Lib.hid (HC9.out.put (p := ⟨w2.heap.size, 1, none⟩) (by show b < w2.heap.size; omega) (.slice a9 (F.length + 1) c9))
      have HG10 := Lib.hid (grown_new HG9.out (p := ⟨w2.heap.size, 1, none⟩) (by show w.heap.size ≤ w2.heap.size; omega) (.slice a9 (F.length + 1) c9))
      go_wp2_with fail
      refine bodyPost_ret (v := .agg #[.int .i64 K, .slice a9 (F.length + 1) c9]) (by simp [results, Tryz.results36, go_sem, *]) rfl ?_
      exact sh_put hbl HO10.out (F4_push HF.out HS5.out) HC10.out HG10.out _ _
  · have e0 : ((x : Int) == 0) = false := by simp; omega
    have e1 : ((x : Int) == 1) = false := by simp; omega
    have k0 := HX4.out.cell 0
    have k1 := HX4.out.cell 1
    have z0 := HZ4.out.cell 0
    have z1 := HZ4.out.cell 1
    change _ = some _ at k0
    change _ = some _ at k1
    change _ = some _ at z0
    change _ = some _ at z1
    have f0 := HZ4.out.frozen 0
    have f1 := HZ4.out.frozen 1
    go_wp2_with fail
    refine bodyPost_ret (v := .agg #[.int .i64 K, .slice a2 F.length c2]) (by simp [results, Tryz.results36, go_sem, *]) rfl ?_
    exact sh_put hbl HO4.out HF.out HC4.out HG4.out _ _
end Go.Proofs.YtdmpokanfnlbgaaGreatDoor
