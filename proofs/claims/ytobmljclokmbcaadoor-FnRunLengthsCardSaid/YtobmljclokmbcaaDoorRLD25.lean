/- D25: a part of the proofs of this seat. -/
import Derived.Deep.RegionLaw
import Derived.Test.YtobmljclokmbcaaDoorProg
import Derived.Test.YtobmljclokmbcaaDoorRLDraw1
import Derived.Test.YtobmljclokmbcaaDoorRLThA
import Derived.Test.YtobmljclokmbcaaDoorRLSRunW
namespace Go.Proofs.YtobmljclokmbcaaDoor
open Go.RowKit
set_option linter.all false
/- What the law of run lengths draws: bounds, a length, a word. -/
theorem cell_grown {w w' : World} {row : Option Nat} {p : Addr} {v : Value} (hg : w.grownBy w' row) (hc : w.cell? p = some v) (hne : some p.block ≠ row) : w'.cell? p = some v := by
  have hl := World.block_lt_of_cell? w _ hc
  have := hg.block p.block hl hne
  unfold World.cell? at hc ⊢
  rw [this]
  exact hc
theorem gr_alloc {w w' : World} {b : Nat} (h : w.grownBy w' (some b)) (o : Obj) : w.grownBy (w'.alloc o) (some b) :=
  h.trans (grown_of_below ((Below.refl _ _).alloc (Nat.le_refl _) o))
set_option maxRecDepth 20000 in
set_option maxHeartbeats 3200000 in
theorem l25Draw_any (b lo : Nat) (w : World) (h : Cur w b lo) :
    Calls Tryd.prog 45 #[.pointer (some ⟨b, 0, none⟩)] w fun e w' => ∃ d k : Int, e = .returned (.tuple #[.int .i64 d, .int .i64 k]) ∧ Cur w' b lo ∧ w.grownBy w' (some b) := by
  have H := Lib.hid h
  clear h
  go_enter Tryd.func45, Tryd.ntmps45
  go_wp2_with (first
    | (go_at_call 47; refine (l1PickInt_any b lo w3.heap.size 7 7 _ [0, 0, 0, 0, 0, 7, -4] _ (Hc3.out.keep ((Below.refl _ _).alloc (Nat.le_refl _) _)) (OInts.lit_ (Nat.le_refl _) rfl rfl (by omega)) hbl3 (by omega) (by omega)).mono ?_; rintro e w4 ⟨p, _, rfl, hc4, hg4⟩; have Hc4 := Lib.hid hc4; have Hg4 := Lib.hid ((gr_alloc Hg3.out _).trans hg4); clear hc4 hg4)
    | (go_at_call 46; refine (l1Below_any b lo 5 _ Hc2.out (by omega) (by omega)).mono ?_; rintro e w3 ⟨x, hx, rfl, hc3, hg3⟩; have Hc3 := Lib.hid hc3; have Hg3 := Lib.hid (Hg2.out.trans hg3); have hbl3 := hc3.lt.2; clear hc3 hg3)
    | (go_at_call 73; refine (l1Once_any b lo 14 _ Hc1.out (by omega) (by omega)).mono ?_; rintro e w2 ⟨t, rfl, hc2, hg2⟩; have Hc2 := Lib.hid hc2; have Hg2 := Lib.hid (Hg1.out.trans hg2); clear hc2 hg2)
    | (go_at_call 72; refine (l1Bit_any t _).mono ?_; rintro e w' ⟨rfl, rfl⟩)
    | (go_at_call 46; refine (l1Below_any b lo 3 _ H.out (by omega) (by omega)).mono ?_; rintro e w1 ⟨d, hd, rfl, hc1, hg1⟩; have Hc1 := Lib.hid hc1; have Hg1 := Lib.hid hg1; clear hc1 hg1))
  go_ret2
  exact ⟨_, _, rfl, Hc4.out, Hg4.out⟩
set_option maxRecDepth 20000 in
set_option maxHeartbeats 3200000 in
theorem l1Pick_any (b lo g n cap : Nat) (ss : List ByteArray) (w : World) (h : Cur w b lo) (hl : ss.length = n) (hc : ∀ i s, ss[i]? = some s → w.cell? ⟨g, i, none⟩ = some (.string s)) (hb : b ≠ g) (hn : 1 ≤ n) (hm : n ≤ 256) :
    Calls Tryd.prog 111 #[.pointer (some ⟨b, 0, none⟩), .slice (some ⟨g, 0, none⟩) n cap] w fun e w' => ∃ s ∈ ss, e = .returned (.string s) ∧ Cur w' b lo ∧ w.grownBy w' (some b) := by
  have H := Lib.hid h
  have HC := Lib.hid hc
  have HL := Lib.hid hl
  clear h hc hl
  go_enter Tryd.func111, Tryd.ntmps111
  go_wp2_with (first
    | (go_at_call 46; refine (l1Below_any b lo n _ H.out hn hm).mono ?_; rintro e w1 ⟨x, hx, rfl, hc1, hg1⟩; obtain ⟨s, hs⟩ : ∃ s, ss[x]? = some s := ⟨_, List.getElem?_eq_getElem (by rw [HL.out]; exact hx)⟩; have q := cell_grown hg1 (HC.out x s hs) (by simp; exact Ne.symm hb); have Hc1 := Lib.hid hc1; have Hg1 := Lib.hid hg1; have HS := Lib.hid (List.mem_of_getElem? hs); clear hc1 hg1 hs))
  go_ret
  exact ⟨s, HS.out, rfl, Hc1.out, Hg1.out⟩
theorem one_letter {s : ByteArray} (h : s ∈ [(⟨#[97]⟩ : ByteArray), ⟨#[98]⟩]) : s.size = 1 := by
  simp only [List.mem_cons, List.not_mem_nil, or_false] at h
  rcases h with rfl | rfl <;> rfl
set_option maxRecDepth 20000 in
set_option maxHeartbeats 3200000 in
theorem l2Draw_any (b lo : Nat) (w : World) (h : Cur w b lo) :
    Calls Tryd.prog 86 #[.pointer (some ⟨b, 0, none⟩), .int .i64 2, .int .i64 9] w fun e w' => ∃ s : ByteArray, s.size ≤ 9 ∧ e = .returned (.string s) ∧ Cur w' b lo ∧ w.grownBy w' (some b) := by
  have H := Lib.hid h
  clear h
  go_enter Tryd.func86, Tryd.ntmps86
  go_wp2_with (first
    | (go_at_call 46; refine (l1Below_any b lo 10 _ H.out (by omega) (by omega)).mono ?_; rintro e w1 ⟨m, hm, rfl, hc1, hg1⟩; have Hc1 := Lib.hid hc1; have Hg1 := Lib.hid hg1; clear hc1 hg1))
  go_loopw [7, 8] (fun v x wr => ∃ (i : Nat) (s : ByteArray), v = .string s ∧ x = .int .i64 i ∧ s.size + i ≤ 9 ∧ Cur wr b lo ∧ w.grownBy wr (some b)) (fun _ x _ => (intOf x).toNat)
  case atStart => exact ⟨m, ⟨#[]⟩, rfl, rfl, by simp [ByteArray.size]; omega, Hc1.out, Hg1.out⟩
  case round =>
    obtain ⟨i, s, rfl, rfl, hsz, hcu, hgr⟩ := hrel
    have Hcu := Lib.hid hcu
    have Hgr := Lib.hid hgr
    have hbl := hcu.lt.2
    clear Hc1 Hg1 hcu hgr
    by_cases hi0 : 0 < i
    · have hq : ¬ (9223372036854775807 < s.size + 1) := by omega
      go_wp2_with (first
        | (go_at_call 111; refine (l1Pick_any b lo wr.heap.size 2 3 [⟨#[97]⟩, ⟨#[98]⟩] _ (Hcu.out.keep ((Below.refl _ _).alloc (Nat.le_refl _) _)) rfl (fun i s hi => by match i, hi with | 0, hi => (injection hi with hi; subst hi; exact World.cell?_alloc_new _ _ _ _) | 1, hi => (injection hi with hi; subst hi; exact World.cell?_alloc_new _ _ _ _)) (by omega) (by omega) (by omega)).mono ?_; rintro e w2 ⟨t, ht, rfl, hc2, hg2⟩; have ht1 := one_letter ht; have Hc2 := Lib.hid hc2; have Hg2 := Lib.hid ((gr_alloc Hgr.out _).trans hg2); clear ht hc2 hg2; rw [← ht1] at hq))
      go_roundw
      case rel => exact ⟨i - 1, s ++ t, rfl, by go_num, by rw [ByteArray.size_append]; omega, Hc2.out, Hg2.out⟩
      case measure => simp [intOf]; omega
    · go_wp2_with fail
      go_ret
      exact ⟨s, by omega, rfl, Hcu.out, Hgr.out⟩
set_option maxRecDepth 20000 in
set_option maxHeartbeats 3200000 in
theorem drawRunWords_any (ao : Option Addr) (n c : Nat) (w : World) (h : Bytes w ao n) :
    Calls Tryd.prog 6 #[.slice ao n c] w fun e w' => ∃ d k m : Int, e = .returned (.tuple #[.int .i64 d, .int .i64 k, .int .i64 m]) ∧ Below w.heap.size w w' := by
  have H := Lib.hid h
  clear h
  go_enter Tryd.func6, Tryd.ntmps6
  go_wp2_with (first
    | (go_at_call 47; refine (l1PickInt_any _ _ w3.heap.size 6 6 _ [0, 0, 0, 0, 2, -7] _ (Hc3.out.keep ((Below.refl _ _).alloc (Nat.le_refl _) _)) (OInts.lit_ (Nat.le_refl _) rfl rfl (by omega)) hbl3 (by omega) (by omega)).mono ?_; rintro e w4 ⟨p, _, rfl, hc4, hg4⟩; have Hb4 := Lib.hid (Hb1.out.trans (below_of_grown ((gr_alloc Hg3.out _).trans hg4) (Nat.le_refl _) Hb1.out.size)); clear hc4 hg4)
    | (go_at_call 46; refine (l1Below_any _ _ 7 _ Hc2.out (by omega) (by omega)).mono ?_; rintro e w3 ⟨x, hx, rfl, hc3, hg3⟩; have Hc3 := Lib.hid hc3; have Hg3 := Lib.hid (Hg2.out.trans hg3); have hbl3 := hc3.lt.2; clear hc3 hg3)
    | (go_at_call 45; refine (l25Draw_any _ _ _ Hc1.out).mono ?_; rintro e w2 ⟨d, k, rfl, hc2, hg2⟩; have Hc2 := Lib.hid hc2; have Hg2 := Lib.hid hg2; clear hc2 hg2)
    | (go_at_call 44; refine (l1New_any _ _ _ _ H.out).mono ?_; rintro e w1 ⟨rfl, hc1, hb1⟩; have Hc1 := Lib.hid hc1; have Hb1 := Lib.hid hb1; clear hc1 hb1))
  go_ret3
  exact ⟨_, _, _, rfl, Hb4.out⟩
set_option maxRecDepth 20000 in
set_option maxHeartbeats 3200000 in
theorem drawCountRuns_any (ao : Option Addr) (n c : Nat) (w : World) (h : Bytes w ao n) :
    Calls Tryd.prog 11 #[.slice ao n c] w fun e w' => ∃ d k m : Int, e = .returned (.tuple #[.int .i64 d, .int .i64 k, .int .i64 m]) ∧ Below w.heap.size w w' := by
  have H := Lib.hid h
  clear h
  go_enter Tryd.func11, Tryd.ntmps11
  go_wp2_with (first
    | (go_at_call 47; refine (l1PickInt_any _ _ w3.heap.size 6 6 _ [0, 0, 0, 0, 12, -9] _ (Hc3.out.keep ((Below.refl _ _).alloc (Nat.le_refl _) _)) (OInts.lit_ (Nat.le_refl _) rfl rfl (by omega)) hbl3 (by omega) (by omega)).mono ?_; rintro e w4 ⟨p, _, rfl, hc4, hg4⟩; have Hb4 := Lib.hid (Hb1.out.trans (below_of_grown ((gr_alloc Hg3.out _).trans hg4) (Nat.le_refl _) Hb1.out.size)); clear hc4 hg4)
    | (go_at_call 46; refine (l1Below_any _ _ 9 _ Hc2.out (by omega) (by omega)).mono ?_; rintro e w3 ⟨x, hx, rfl, hc3, hg3⟩; have Hc3 := Lib.hid hc3; have Hg3 := Lib.hid (Hg2.out.trans hg3); have hbl3 := hc3.lt.2; clear hc3 hg3)
    | (go_at_call 45; refine (l25Draw_any _ _ _ Hc1.out).mono ?_; rintro e w2 ⟨d, k, rfl, hc2, hg2⟩; have Hc2 := Lib.hid hc2; have Hg2 := Lib.hid hg2; clear hc2 hg2)
    | (go_at_call 44; refine (l1New_any _ _ _ _ H.out).mono ?_; rintro e w1 ⟨rfl, hc1, hb1⟩; have Hc1 := Lib.hid hc1; have Hb1 := Lib.hid hb1; clear hc1 hb1))
  go_ret3
  exact ⟨_, _, _, rfl, Hb4.out⟩
theorem runWV_some (d k m : Int) (hm : m < 8) : (runWV d k m).length ≤ 128 ∧ ∀ s ∈ runWV d k m, s.size ≤ 9 := by
  unfold runWV
  split
  · rename_i hh
    simp only [Bool.and_eq_true] at hh
    have h0 := inR_true hh.2
    refine ⟨Nat.le_trans (List.length_filter_le _ _) ?_, fun s hs => ?_⟩
    · rw [allW_len]
      exact Nat.le_trans (Nat.pow_le_pow_right (by omega) (show m.toNat ≤ 7 by omega)) (by decide)
    · have h1 := (List.mem_filter.1 hs).1
      simp only [allW, List.mem_map] at h1
      obtain ⟨i, _, rfl⟩ := h1
      rw [wordN_size]
      omega
  · simp
set_option maxRecDepth 20000 in
set_option maxHeartbeats 6400000 in
theorem l25Word_any (ao : Option Addr) (n c : Nat) (w : World) (h : Bytes w ao n) :
    Calls Tryd.prog 52 #[.slice ao n c] w fun e w' => ∃ (d k : Int) (s : ByteArray), s.size ≤ 9 ∧ e = .returned (.tuple #[.int .i64 d, .int .i64 k, .string s]) ∧ Below w.heap.size w w' := by
  have H := Lib.hid h
  clear h
  go_enter Tryd.func52, Tryd.ntmps52
  go_wp2_with (first
    | (go_at_call 46; refine (l1Below_any _ _ 8 _ Hc2.out (by omega) (by omega)).mono ?_; rintro e w3 ⟨x, hx, rfl, hc3, hg3⟩; have Hc3 := Lib.hid hc3; have Hg3 := Lib.hid (Hg2.out.trans hg3); have hbl3 := hc3.lt.2; have hlen := runWV_some d k x (by omega); clear hc3 hg3)
    | (go_at_call 45; refine (l25Draw_any _ _ _ Hc1.out).mono ?_; rintro e w2 ⟨d, k, rfl, hc2, hg2⟩; have Hc2 := Lib.hid hc2; have Hg2 := Lib.hid hg2; clear hc2 hg2)
    | (go_at_call 44; refine (l1New_any _ _ _ _ H.out).mono ?_; rintro e w1 ⟨rfl, hc1, hb1⟩; have Hc1 := Lib.hid hc1; have Hb1 := Lib.hid hb1; clear hc1 hb1))
  refine (sRunWords_any _ _ _ _).mono ?_
  rintro e w4 ⟨v4, rfl, ho4, hb4⟩
  generalize runWV d k x = R at hlen ho4 ⊢
  obtain ⟨a4, c4, rfl, _⟩ := ho4.form
  have Ho4 := Lib.hid ho4
  have Hc4 := Lib.hid (Hc3.out.keep hb4)
  have Hg4 := Lib.hid (Hg3.out.trans (grown_of_below hb4))
  have HLO : Hid (w.heap.size < w3.heap.size) := hbl3
  clear ho4 hb4 Hc1 Hc2 Hc3 Hg2 Hg3
  by_cases hz : 0 < R.length
  · have dz : decide ((0 : Int) < (R.length : Int)) = true := decide_eq_true (by omega)
    obtain ⟨g, rfl⟩ : ∃ g, a4 = some ⟨g, 0, none⟩ := by
      rcases Ho4.out.two with ⟨_, h0⟩ | h1
      · omega
      · exact h1
    have hg := Ho4.out.lt
    go_wp2_with fail
    refine (l1Once_any _ _ 2 _ Hc4.out (by omega) (by omega)).mono ?_
    rintro e w5 ⟨t, rfl, hc5, hg5⟩
    have HC5 := Lib.hid (fun (i : Nat) (s : ByteArray) (hs : R[i]? = some s) => cell_grown hg5 (Ho4.out.cell hs) (fun e => by injection e with e; simp at e; omega))
    have Hc5 := Lib.hid hc5
    have Hg5 := Lib.hid (Hg4.out.trans hg5)
    clear hc5 hg5
    cases t
    · go_wp2_with fail
      refine (l2Draw_any _ _ _ Hc5.out).mono ?_
      rintro e w6 ⟨s, hs, rfl, _, hg6⟩
      have Hb6 := Lib.hid (Hb1.out.trans (below_of_grown (Hg5.out.trans hg6) (Nat.le_refl _) Hb1.out.size))
      clear hg6
      go_wp2_with fail
      go_ret3
      exact ⟨d, k, s, hs, rfl, Hb6.out⟩
    · go_wp2_with fail
      have hr1 : 1 ≤ R.length := hz
      have hr2 : R.length ≤ 256 := by omega
      go_region_law (first
        | (go_simp; go_at_call 46; refine (l1Below_any _ _ R.length _ (Hc5.out.drewN 1) hr1 hr2).mono ?_; rintro e w6 ⟨y, hy, rfl, hc6, hg6⟩; obtain ⟨s, hs⟩ : ∃ s, R[y]? = some s := ⟨_, List.getElem?_eq_getElem hy⟩; have q := cell_grown hg6 (show w5.drew.cell? _ = _ from HC5.out y s hs) (fun e => by injection e with e; simp at e; omega); have HS := Lib.hid (hlen.2 s (List.mem_of_getElem? hs)); have Hb6 := Lib.hid (Hb1.out.trans (below_of_grown ((grown_drewN Hg5.out 1).trans hg6) (Nat.le_refl _) Hb1.out.size)); clear hc6 hg6 hs))
      all_goals (go_wp2_with fail)
      all_goals go_ret3
      all_goals exact ⟨d, k, s, HS.out, rfl, Hb6.out⟩
  · have dz : decide ((0 : Int) < (R.length : Int)) = false := decide_eq_false (by omega)
    go_wp2_with fail
    refine (l2Draw_any _ _ _ Hc4.out).mono ?_
    rintro e w6 ⟨s, hs, rfl, _, hg6⟩
    have Hb6 := Lib.hid (Hb1.out.trans (below_of_grown (Hg4.out.trans hg6) (Nat.le_refl _) Hb1.out.size))
    clear hg6
    go_wp2_with fail
    go_ret3
    exact ⟨d, k, s, hs, rfl, Hb6.out⟩
set_option maxRecDepth 20000 in
set_option maxHeartbeats 3200000 in
theorem drawKeepsRuns_any (ao : Option Addr) (n c : Nat) (w : World) (h : Bytes w ao n) :
    Calls Tryd.prog 8 #[.slice ao n c] w fun e w' => ∃ (d k : Int) (s : ByteArray), s.size ≤ 9 ∧ e = .returned (.tuple #[.int .i64 d, .int .i64 k, .string s]) ∧ Below w.heap.size w w' := by
  have H := Lib.hid h
  clear h
  go_enter Tryd.func8, Tryd.ntmps8
  go_wp2_with (first
    | (go_at_call 52; refine (l25Word_any _ _ _ _ H.out).mono ?_; rintro e w1 ⟨d, k, s, hs, rfl, hb1⟩; have Hb1 := Lib.hid hb1; clear hb1))
  go_ret3
  exact ⟨d, k, s, hs, rfl, Hb1.out⟩
end Go.Proofs.YtobmljclokmbcaaDoor
