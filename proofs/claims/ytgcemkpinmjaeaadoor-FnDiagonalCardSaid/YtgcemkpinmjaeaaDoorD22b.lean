/- D22b: a part of the proofs of this seat. -/
import Derived.Deep.RegionLaw
import Derived.Test.YtgcemkpinmjaeaaDoorProg
import Derived.Test.YtgcemkpinmjaeaaDoorD22
import Derived.Test.YtgcemkpinmjaeaaDoorThA
import Derived.Test.YtgcemkpinmjaeaaDoorDgG
namespace Go.Proofs.YtgcemkpinmjaeaaDoor
open Go.RowKit
set_option linter.all false
theorem diagV_small (t : List (List Int)) : (diagV t).length ≤ 4 ∧ ∀ x ∈ diagV t, x ≤ 9223372036854775807 := by
  unfold diagV
  split
  · rename_i hs
    have hl := smith_len hs
    have hb := smith_bnd hs
    refine ⟨by rw [diagN_len]; exact hl.2, fun x hx => ?_⟩
    obtain ⟨j, hj⟩ := List.getElem?_of_mem hx
    have hjl : j < t.length := by have := (List.getElem?_eq_some_iff.1 hj).1; rw [diagN_len] at this; exact this
    rw [diag_get hl.2 hjl] at hj
    injection hj with hj
    subst hj
    unfold dgAt
    split
    · omega
    · have h1 := minorsI_small hb (k := j + 1) (by omega)
      have h2 := Int.tdiv_le_self (minorsI t j) h1.1
      have h3 := h1.2.2
      omega
  · simp
set_option maxRecDepth 20000 in
set_option maxHeartbeats 3200000 in
theorem drawDiag_any (ao : Option Addr) (n c : Nat) (w : World) (h : Bytes w ao n) :
    Calls Tryd.prog 5 #[.slice ao n c] w fun e w' => ∃ (v : Value) (T : List (List Int)), e = .returned v ∧ OIntss w' w.heap.size v T.length T ∧ Below w.heap.size w w' := by
  have H := Lib.hid h
  clear h
  go_enter Tryd.func5, Tryd.ntmps5
  go_wp2_with (first
    | (go_at_call 21; refine (l22Draw_any _ _ _ Hc1.out).mono ?_; rintro e w2 ⟨v, T, rfl, ho, hc2, hg2⟩; have HO := Lib.hid (ho.mono Hb1.out.size); have HB := Lib.hid (Hb1.out.trans (below_of_grown hg2 (Nat.le_refl _) Hb1.out.size)); clear ho hc2 hg2)
    | (go_at_call 22; refine (l1New_any _ _ _ _ H.out).mono ?_; rintro e w1 ⟨rfl, hc1, hb1⟩; have Hc1 := Lib.hid hc1; have Hb1 := Lib.hid hb1; clear hc1 hb1))
  go_ret
  exact ⟨_, T, rfl, HO.out, HB.out⟩
set_option maxRecDepth 20000 in
set_option maxHeartbeats 3200000 in
theorem drawRank_any (ao : Option Addr) (n c : Nat) (w : World) (h : Bytes w ao n) :
    Calls Tryd.prog 9 #[.slice ao n c] w fun e w' => ∃ (v : Value) (T : List (List Int)), e = .returned v ∧ OIntss w' w.heap.size v T.length T ∧ Below w.heap.size w w' := by
  have H := Lib.hid h
  clear h
  go_enter Tryd.func9, Tryd.ntmps9
  go_wp2_with (first
    | (go_at_call 21; refine (l22Draw_any _ _ _ Hc1.out).mono ?_; rintro e w2 ⟨v, T, rfl, ho, hc2, hg2⟩; have HO := Lib.hid (ho.mono Hb1.out.size); have HB := Lib.hid (Hb1.out.trans (below_of_grown hg2 (Nat.le_refl _) Hb1.out.size)); clear ho hc2 hg2)
    | (go_at_call 22; refine (l1New_any _ _ _ _ H.out).mono ?_; rintro e w1 ⟨rfl, hc1, hb1⟩; have Hc1 := Lib.hid hc1; have Hb1 := Lib.hid hb1; clear hc1 hb1))
  go_ret
  exact ⟨_, T, rfl, HO.out, HB.out⟩
set_option maxRecDepth 20000 in
set_option maxHeartbeats 3200000 in
theorem drawMinors_any (ao : Option Addr) (n c : Nat) (w : World) (h : Bytes w ao n) :
    Calls Tryd.prog 8 #[.slice ao n c] w fun e w' => ∃ (v : Value) (T : List (List Int)) (k : Int), e = .returned (.tuple #[v, .int .i64 k]) ∧ OIntss w' w.heap.size v T.length T ∧ Below w.heap.size w w' := by
  have H := Lib.hid h
  clear h
  go_enter Tryd.func8, Tryd.ntmps8
  go_wp2_with (first
    | (go_at_call 27; refine (l1Bit_any t _).mono ?_; rintro e w' ⟨rfl, rfl⟩)
    | (go_at_call 28; refine (l1Once_any _ _ 12 _ Hc3.out (by omega) (by omega)).mono ?_; rintro e w4 ⟨t, rfl, hc4, hg4⟩; have HO4 := Lib.hid (HO3.out.away hg4 hbl1); have HB := Lib.hid (Hb1.out.trans (below_of_grown (Hg3.out.trans hg4) (Nat.le_refl _) Hb1.out.size)); clear hc4 hg4)
    | (go_at_call 26; refine (l1Below_any _ _ 6 _ Hc2.out (by omega) (by omega)).mono ?_; rintro e w3 ⟨x, hx, rfl, hc3, hg3⟩; have HO3 := Lib.hid (HO2.out.away hg3 hbl1); have Hc3 := Lib.hid hc3; have Hg3 := Lib.hid (Hg2.out.trans hg3); clear hc3 hg3)
    | (go_at_call 21; refine (l22Draw_any _ _ _ Hc1.out).mono ?_; rintro e w2 ⟨v, T, rfl, ho, hc2, hg2⟩; obtain ⟨aX, cX, rfl, _⟩ := ho.form; have HO2 := Lib.hid ho; have Hc2 := Lib.hid hc2; have Hg2 := Lib.hid hg2; clear ho hc2 hg2)
    | (go_at_call 22; refine (l1New_any _ _ _ _ H.out).mono ?_; rintro e w1 ⟨rfl, hc1, hb1⟩; have hbl1 := hc1.lt.2; have Hc1 := Lib.hid hc1; have Hb1 := Lib.hid hb1; clear hc1 hb1))
  have HS := Hb1.out.size
  go_ret2
  exact ⟨_, T, _, rfl, HO4.out.mono HS, HB.out⟩
set_option maxRecDepth 20000 in
set_option maxHeartbeats 3200000 in
theorem l22List_any (b lo : Nat) (w : World) (h : Cur w b lo) :
    Calls Tryd.prog 29 #[.pointer (some ⟨b, 0, none⟩)] w fun e w' => ∃ (v : Value) (xs : List Int), e = .returned v ∧ OInts w' w.heap.size v xs.length xs ∧ (xs.length ≤ 5 ∧ ∀ x ∈ xs, x ≤ 9223372036854775807) ∧ w.grownBy w' (some b) := by
  have hbl := h.lt.2
  have H := Lib.hid h
  clear h
  go_enter Tryd.func29, Tryd.ntmps29
  go_wp2_with (go_at_call 21; refine (l22Draw_any _ _ _ H.out).mono ?_; rintro e w2 ⟨v, T, rfl, ho, hc2, hg2⟩; obtain ⟨aX, cX, rfl, hiX⟩ := ho.form; have HI := Lib.hid hiX; have Hc2 := Lib.hid hc2; have Hg2 := Lib.hid hg2; clear ho hiX hc2 hg2)
  refine (sDiagonalOf_any _ _ _ T _ HI.out).mono ?_
  rintro e w3 ⟨v3, rfl, ho3, hb3⟩
  have hDS := diagV_small T
  generalize diagV T = D at ho3 hDS
  generalize smith T = sm
  obtain ⟨a3, c3, rfl, _⟩ := ho3.form
  have HO3 := Lib.hid (ho3.mono Hg2.out.size)
  have Hc3 := Lib.hid (Hc2.out.keep hb3)
  have Hg3 := Lib.hid (Hg2.out.trans (grown_of_below hb3))
  clear ho3 hb3
  go_wp2_with fail
  refine (l1Once_any _ _ 8 _ Hc3.out (by omega) (by omega)).mono ?_
  rintro e w4 ⟨t, rfl, hc4, hg4⟩
  have HO4 := Lib.hid (HO3.out.away hg4 hbl)
  have Hc4 := Lib.hid hc4
  have Hg4 := Lib.hid (Hg3.out.trans hg4)
  have hbl4 := hc4.lt.2
  clear hc4 hg4
  cases t
  · go_wp2_with fail
    go_ret
    exact ⟨_, D, rfl, HO4.out, ⟨by omega, hDS.2⟩, Hg4.out⟩
  · have hD2 : D.length + 1 ≤ 1099511627776 := by omega
    have HDS := Lib.hid hDS
    clear hDS
    · go_wp2_with (first
        | (at_builtin; refine wpList_push_at w5 _ rfl (.tmp 13) (.tmp 17) rfl w.heap.size _ D.length D rfl HO5.out hD2 hs5 _ rfl rfl ?_; intro v6 w6 ho6 hg6 hn6; have HO6 := Lib.hid ho6; have HG6 := Lib.hid (grown_farV Hg5.out hg6 (fun g e => (HO5.out.ownlt g e).1)); clear ho6 hg6 hn6)
        | (go_at_call 41; refine (l1PickInt_any _ _ w4.heap.size 3 3 _ [-1, 1000, 1001] _ (Hc4.out.keep ((Below.refl _ _).alloc (Nat.le_refl _) _)) (OInts.lit_ (Nat.le_refl _) rfl rfl (by omega)) hbl4 (by omega) (by omega)).mono ?_; rintro e w5 ⟨d0, hd0, rfl, hc5, hg5'⟩; have hg5 := (gr_alloc (World.grownBy.refl w4 (some b)) _).trans hg5'; have HO5 := Lib.hid (HO4.out.away hg5 hbl); have Hg5 := Lib.hid (Hg4.out.trans hg5); have hs5 := Hg5.out.size; clear hc5 hg5' hg5))
      go_ret
      refine ⟨_, _, rfl, HO6.out.self, ⟨by have := HDS.out.1; simp; omega, fun x hx => ?_⟩, HG6.out⟩
      rcases List.mem_append.1 hx with hx | hx
      · exact HDS.out.2 x hx
      · simp at hx; simp at hd0; omega
set_option maxRecDepth 20000 in
set_option maxHeartbeats 3200000 in
theorem drawText_any (ao : Option Addr) (n c : Nat) (w : World) (h : Bytes w ao n) :
    Calls Tryd.prog 10 #[.slice ao n c] w fun e w' => ∃ (v : Value) (xs : List Int), e = .returned v ∧ OInts w' w.heap.size v xs.length xs ∧ (xs.length ≤ 5 ∧ ∀ x ∈ xs, x ≤ 9223372036854775807) ∧ Below w.heap.size w w' := by
  have H := Lib.hid h
  clear h
  go_enter Tryd.func10, Tryd.ntmps10
  go_wp2_with (first
    | (go_at_call 29; refine (l22List_any _ _ _ Hc1.out).mono ?_; rintro e w2 ⟨v, T, rfl, ho, hT, hg2⟩; have HO := Lib.hid (ho.mono Hb1.out.size); have HB := Lib.hid (Hb1.out.trans (below_of_grown hg2 (Nat.le_refl _) Hb1.out.size)); clear ho hg2)
    | (go_at_call 22; refine (l1New_any _ _ _ _ H.out).mono ?_; rintro e w1 ⟨rfl, hc1, hb1⟩; have Hc1 := Lib.hid hc1; have Hb1 := Lib.hid hb1; clear hc1 hb1))
  go_ret
  exact ⟨_, T, rfl, HO.out, hT, HB.out⟩
end Go.Proofs.YtgcemkpinmjaeaaDoor
