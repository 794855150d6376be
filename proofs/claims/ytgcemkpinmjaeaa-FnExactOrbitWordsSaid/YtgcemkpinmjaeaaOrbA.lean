/- OrbA: a part of the proofs of this seat. -/
import Derived.BigQuiet
import Derived.Lib.IndexBytes
import Derived.Test.YtgcemkpinmjaeaaProg
import Derived.Test.YtgcemkpinmjaeaaOrbI3
import Derived.Test.YtgcemkpinmjaeaaBlk
namespace Go.Proofs.Ytgcemkpinmjaeaa
open Go.RowKit
set_option linter.all false
/- Words that avoid forbidden ones. -/
def MaxM (w : World) : Prop := ∃ m, w.cell? ⟨0, 0, none⟩ = some (.int .i64 m)
theorem maxM_of {w : World} (h : w.ShapedOpen Try.prog) : MaxM w := Try.laysM144.s1_3 w h
theorem MaxM.keep {w w' : World} (h : MaxM w) (hb : Below w.heap.size w w') : MaxM w' := by
  obtain ⟨m, h⟩ := h
  exact ⟨m, (hb.cell (World.block_lt_of_cell? w _ h)).trans h⟩
def avB (F : List ByteArray) (s : ByteArray) : Bool := F.all fun f => !occ s f
theorem av_step {F : List ByteArray} {s f : ByteArray} {k : Nat} {b : Bool} (hf : F[k]? = some f) (h : (F.drop k).all (fun f => !occ s f) = b) :
    (occ s f = true → b = false) ∧ (occ s f = false → (F.drop (k + 1)).all (fun f => !occ s f) = b) := by
  rw [drop_of_get hf, List.all_cons] at h
  exact ⟨fun e => by rw [e] at h; exact h.symm, fun e => by rw [e] at h; exact h⟩
set_option maxHeartbeats 800000 in
theorem sAvoids_any (ao : Option Addr) (n cap : Nat) (F : List ByteArray) (s : ByteArray) (w : World) (h : Strs w ao n F) (hs : s.size ≤ 100) (hF : ∀ f ∈ F, f.size ≤ 100) :
    Calls Try.prog 80 #[.slice ao n cap, .string s] w fun e w' => e = .returned (.bool (avB F s)) ∧ w = w' := by
  have hn := h.1
  have hm := h.2.1
  have H := Lib.hid h
  clear h
  go_enter Try.func80, Try.ntmps80
  go_wp2_with fail
  go_loop [5] (fun x => ∃ k : Nat, k ≤ n ∧ x = .int .i64 k ∧ Hid ((F.drop k).all (fun f => !occ s f) = avB F s)) (fun x => n - (intOf x).toNat)
  case atStart => exact ⟨0, Nat.zero_le _, rfl, rfl⟩
  case round =>
    obtain ⟨k, hk, rfl, hr⟩ := hrel
    by_cases hlt : k < n
    · obtain ⟨b, o, f, rfl, hc, hf⟩ := H.out.at_ hlt
      have HST := Lib.hid (av_step hf.out hr.out)
      have hfs := hF f (List.mem_of_getElem? hf.out)
      clear hf hr
      cases ho : occ s f
      · have HN := Lib.hid (HST.out.2 ho)
        have HO := Lib.hid ho
        clear HST ho
        go_wp2_with (go_at_call 150; refine (sOccurs_any s f _ hs hfs).mono ?_; rw [HO.out]; rintro e w' ⟨rfl, rfl⟩)
        go_round
        case rel => exact ⟨k + 1, hlt, by go_num, HN.out⟩
        case measure => simp [intOf]; omega
      · have HN := Lib.hid (HST.out.1 ho)
        have HO := Lib.hid ho
        clear HST ho
        go_wp2_with (go_at_call 150; refine (sOccurs_any s f _ hs hfs).mono ?_; rw [HO.out]; rintro e w' ⟨rfl, rfl⟩)
        go_ret
        exact ⟨ret_bool HN.out.symm, rfl⟩
    · have HE : Hid (avB F s = true) := by
        show _ = _
        rw [← hr.out, List.drop_eq_nil_of_le (by omega)]
        rfl
      clear hr
      go_wp2_with fail
      go_ret
      exact ⟨ret_bool HE.out.symm, rfl⟩
theorem occB_iff {s p : ByteArray} : ∀ (m i : Nat), occB s p i m = true ↔ ∃ j, i ≤ j ∧ j < i + m ∧ ((s.extract j (j + p.size)).toList == p.toList) = true
  | 0, i => by
    rw [occB]
    constructor
    · intro h; cases h
    · rintro ⟨j, h1, h2, _⟩; omega
  | m + 1, i => by
    rw [occB, Bool.or_eq_true, occB_iff m (i + 1)]
    constructor
    · rintro (h | ⟨j, h1, h2, h3⟩)
      · exact ⟨i, Nat.le_refl _, by omega, h⟩
      · exact ⟨j, by omega, by omega, h3⟩
    · rintro ⟨j, h1, h2, h3⟩
      by_cases e : j = i
      · subst e; exact .inl h3
      · exact .inr ⟨j, by omega, by omega, h3⟩
theorem occ_iff {s p : ByteArray} (h0 : 0 < p.size) : occ s p = true ↔ ∃ j, j + p.size ≤ s.size ∧ Lib.occAt s.data.toList p.data.toList j = true := by
  unfold occ
  rw [occB_iff]
  constructor
  · rintro ⟨j, _, h2, h3⟩
    exact ⟨j, by omega, by rw [Lib.occ_of_piece _ _ _ (by omega)]; exact h3⟩
  · rintro ⟨j, h1, h2⟩
    exact ⟨j, Nat.zero_le _, by omega, by rw [← Lib.occ_of_piece _ _ _ h1]; exact h2⟩
theorem least_of {P : Nat → Prop} : ∀ n, P n → ∃ m, m ≤ n ∧ P m ∧ ∀ j, j < m → ¬ P j := by
  intro n
  induction n using Nat.strongRecOn with
  | _ n ih =>
    intro hn
    by_cases h : ∃ j, j < n ∧ P j
    · obtain ⟨j, hj, hp⟩ := h
      obtain ⟨m, h1, h2, h3⟩ := ih j hj hp
      exact ⟨m, by omega, h2, h3⟩
    · exact ⟨n, Nat.le_refl _, hn, fun j hj hp => h ⟨j, hj, hp⟩⟩
theorem occ_contains (s p : ByteArray) (h0 : 0 < p.size) : occ s p = Lib.contains s.data.toList p.data.toList := by
  have hps : p.data.toList.length = p.size := Array.length_toList
  have hss : s.data.toList.length = s.size := Array.length_toList
  unfold Lib.contains
  cases h : occ s p
  · have hn : Lib.index s.data.toList p.data.toList = -1 := by
      refine Lib.index_none fun j hj => ?_
      cases hq : Lib.occAt s.data.toList p.data.toList j
      · rfl
      · rcases Lib.occAt_room hq with h1 | h1
        · have := (occ_iff h0).2 ⟨j, by omega, hq⟩
          rw [h] at this; cases this
        · rw [h1] at hps; simp at hps; omega
    rw [hn]; rfl
  · obtain ⟨j, h1, h2⟩ := (occ_iff h0).1 h
    obtain ⟨m, h3, h4, h5⟩ := least_of (P := fun j => Lib.occAt s.data.toList p.data.toList j = true) j h2
    have hi := Lib.index_first (s := s.data.toList) (sub := p.data.toList) (i := m) (by omega) h4 (fun j hj => by simpa using h5 j hj)
    rw [hi]; symm; simp
theorem rep_len (s : ByteArray) (k : Nat) : (repB s k).data.toList.length = k * s.size := by
  rw [Array.length_toList]; exact repB_size s k
theorem rep_get (s : ByteArray) : ∀ (k j : Nat), j < k * s.size → (repB s k).data.toList[j]? = s.data.toList[j % s.size]?
  | 0, j, h => by omega
  | k + 1, j, h => by
    have hl := rep_len s k
    have e : (repB s (k + 1)).data.toList = (repB s k).data.toList ++ s.data.toList := by rw [repB]; simp
    rw [e]
    rw [Nat.succ_mul] at h
    by_cases hj : j < k * s.size
    · rw [List.getElem?_append_left (by omega)]
      exact rep_get s k j hj
    · rw [List.getElem?_append_right (by omega), hl]
      congr 1
      rw [show j = (j - k * s.size) + s.size * k by rw [Nat.mul_comm s.size k]; omega, Nat.add_mul_mod_self_left, Nat.mod_eq_of_lt (by omega)]
      rw [Nat.mul_comm s.size k]; omega
theorem occ_move {s p : ByteArray} {a b i j : Nat} (h0 : 0 < s.size) (hi : i + p.size ≤ a * s.size) (hj : j + p.size ≤ b * s.size) (hm : i % s.size = j % s.size) :
    Lib.occAt (repB s a).data.toList p.data.toList i = Lib.occAt (repB s b).data.toList p.data.toList j := by
  have hps : p.data.toList.length = p.size := Array.length_toList
  rw [Lib.occAt_iff_take _ _ _ (by rw [rep_len]; omega), Lib.occAt_iff_take _ _ _ (by rw [rep_len]; omega)]
  congr 1
  apply List.ext_getElem?
  intro t
  by_cases ht : t < p.data.toList.length
  · rw [List.getElem?_take_of_lt ht, List.getElem?_take_of_lt ht, List.getElem?_drop, List.getElem?_drop, rep_get s a _ (by omega), rep_get s b _ (by omega)]
    congr 1
    rw [Nat.add_mod, hm, ← Nat.add_mod]
  · rw [List.getElem?_eq_none (by rw [List.length_take]; omega), List.getElem?_eq_none (by rw [List.length_take]; omega)]
/-- What occurs in five turns occurs in four. -/
theorem occ_five {s p : ByteArray} (h0 : 0 < s.size) (hp : 0 < p.size) (hp3 : p.size ≤ 3) : occ (repB s 5) p = occ (repB s 4) p := by
  have h5 := repB_size s 5
  have h4 := repB_size s 4
  rw [Bool.eq_iff_iff, occ_iff hp, occ_iff hp]
  constructor
  · rintro ⟨j, h1, h2⟩
    have hlt := Nat.mod_lt j h0
    refine ⟨j % s.size, by omega, ?_⟩
    rw [← h2]
    exact occ_move h0 (by omega) (by omega) (Nat.mod_mod _ _)
  · rintro ⟨j, h1, h2⟩
    refine ⟨j, by omega, ?_⟩
    rw [← h2]
    exact occ_move h0 (by omega) (by omega) rfl
theorem av_five {s : ByteArray} {F : List ByteArray} (h0 : 0 < s.size) (hF : ∀ f ∈ F, 0 < f.size ∧ f.size ≤ 3) : avB F (repB s 5) = avB F (repB s 4) := by
  unfold avB
  induction F with
  | nil => rfl
  | cons f F ih =>
    rw [List.all_cons, List.all_cons, ih (fun g hg => hF g (List.mem_cons_of_mem _ hg)), occ_five h0 (hF f (List.mem_cons_self ..)).1 (hF f (List.mem_cons_self ..)).2]
set_option maxHeartbeats 800000 in
theorem iAvoids_any (K : Int) (ao : Option Addr) (n cap : Nat) (F : List ByteArray) (s : ByteArray) (w : World) (h : Strs w ao n F) (hs : s.size ≤ 100) (hF : ∀ f ∈ F, 0 < f.size ∧ f.size ≤ 100) (hm : MaxM w) :
    Calls Try.prog 88 #[.agg #[.int .i64 K, .slice ao n cap], .string s] w fun e w' => e = .returned (.bool (avB F s)) ∧ Below w.heap.size w w' := by
  have hn := h.1
  have hm1 := h.2.1
  have HB := Lib.hid (below1 w (.cells #[.int .i64 K, .slice ao n cap] 27))
  have H := Lib.hid (h.keep HB.out)
  have HK := Blk.new w 27 #[.int .i64 K, .slice ao n cap]
  have k1 : (w.alloc (.cells #[.int .i64 K, .slice ao n cap] 27)).cell? ⟨w.heap.size, 1, none⟩ = some (.slice ao n cap) := HK.cell 1
  obtain ⟨mx, hmx⟩ := hm.keep HB.out
  have HX := Lib.hid hmx
  clear h hm HK hmx
  go_enter Try.func88, Try.ntmps88
  go_wp2_with fail
  generalize w.alloc (.cells #[.int .i64 K, .slice ao n cap] 27) = w1 at HB H k1 HX ⊢
  clear k1
  go_loop [10] (fun x => ∃ k : Nat, k ≤ n ∧ x = .int .i64 k ∧ Hid ((F.drop k).all (fun f => !occ s f) = avB F s)) (fun x => n - (intOf x).toNat)
  case atStart => exact ⟨0, Nat.zero_le _, rfl, rfl⟩
  case round =>
    obtain ⟨k, hk, rfl, hr⟩ := hrel
    by_cases hlt : k < n
    · obtain ⟨b, o, f, rfl, hc, hf⟩ := H.out.at_ hlt
      have HST := Lib.hid (av_step hf.out hr.out)
      have hfs := hF f (List.mem_of_getElem? hf.out)
      have HOC := Lib.hid (occ_contains s f hfs.1)
      clear hf hr
      cases ho : occ s f
      · have HN := Lib.hid (HST.out.2 ho)
        have HO : Hid (Lib.contains s.data.toList f.data.toList = false) := by show _ = _; rw [← HOC.out]; exact ho
        clear HST ho
        go_wp2_with (go_at_call 156; refine (Try.strings_Contains s f mx _ (by omega) HX.out).mono ?_; rw [HO.out]; rintro e w' ⟨rfl, rfl⟩)
        go_round
        case rel => exact ⟨k + 1, hlt, by go_num, HN.out⟩
        case measure => simp [intOf]; omega
      · have HN := Lib.hid (HST.out.1 ho)
        have HO : Hid (Lib.contains s.data.toList f.data.toList = true) := by show _ = _; rw [← HOC.out]; exact ho
        clear HST ho
        go_wp2_with (go_at_call 156; refine (Try.strings_Contains s f mx _ (by omega) HX.out).mono ?_; rw [HO.out]; rintro e w' ⟨rfl, rfl⟩)
        go_ret
        exact ⟨ret_bool HN.out.symm, HB.out⟩
    · have HE : Hid (avB F s = true) := by
        show _ = _
        rw [← hr.out, List.drop_eq_nil_of_le (by omega)]
        rfl
      clear hr
      go_wp2_with fail
      go_ret
      exact ⟨ret_bool HE.out.symm, HB.out⟩
end Go.Proofs.Ytgcemkpinmjaeaa
