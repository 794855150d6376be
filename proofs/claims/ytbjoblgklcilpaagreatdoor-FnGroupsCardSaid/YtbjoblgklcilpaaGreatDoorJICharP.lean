/- ICharP: a part of the proofs of this seat. -/
import Derived.Deep.RegionLaw
import Derived.Test.YtbjoblgklcilpaaGreatDoorProg
import Derived.Test.YtbjoblgklcilpaaGreatDoorJThA
import Derived.Test.YtbjoblgklcilpaaGreatDoorJG1b
import Derived.Test.YtbjoblgklcilpaaGreatDoorJG0a
namespace Go.Proofs.YtbjoblgklcilpaaGreatDoor
open Go.RowKit
set_option linter.all false
theorem set_same {α : Type} {xs : List α} {k : Nat} {x : α} (h : xs[k]? = some x) : xs.set k x = xs := by
  obtain ⟨hk, rfl⟩ := List.getElem?_eq_some_iff.1 h
  exact List.set_getElem_self hk
theorem set_getx {α : Type} {xs : List α} {k : Nat} {x y : α} (h : xs[k]? = some x) : (xs.set k y)[k]? = some y := by
  obtain ⟨hk, _⟩ := List.getElem?_eq_some_iff.1 h
  simp [hk]
theorem Since.other {lo hi : Nat} {a b : World} (h : Since lo hi a b) {p : Addr} (hp : p.block < lo) (u : Value) : Since lo hi a (b.setCell p u) :=
  ⟨by simpa using h.size, fun i h1 h2 => (heap_setCell_other b p i u (by omega)).trans (h.block i h1 h2)⟩
set_option maxRecDepth 20000 in
set_option maxHeartbeats 6400000 in
theorem iCharP_any (p : Option Addr) (n c : Nat) (t : List (List Int)) (w : World) (h : Intss w p n t) (hr : RowsLen t n) (hn : n ≤ 4) :
    Calls Tryz.prog 89 #[.slice p n c] w fun e w' => ∃ v, e = .returned v ∧ OInts w' w.heap.size v (n + 1) (charL t n (n + 1)) ∧ Below w.heap.size w w' := by
  have hmk := make_ints (n + 1) (by omega)
  have hcast : ((n + 1 : Nat) : Int) = (n : Int) + 1 := by omega
  rw [hcast] at hmk
  have Hm0 := Lib.hid (OInts.made w (n + 1) (by omega))
  have Hb0 : Hid (Below w.heap.size w (w.alloc (.cells (madeCells #[.int .i64 0] (n + 1)) 3))) := (Below.refl _ _).alloc (Nat.le_refl _) _
  have H := Lib.hid h
  have HR := Lib.hid hr
  clear h hr hcast
  go_enter Tryz.func89, Tryz.ntmps89
  go_wp2_with fail
  clear hmk
  go_loopw [5, 6] (fun s x wr => ∃ (k : Nat) (g : Int), k ≤ n + 1 ∧ x = .int .i64 k ∧ s = .int .i64 g ∧ -1 ≤ g ∧ g ≤ 1 ∧ Hid (sg k = g) ∧ OInts wr w.heap.size (.slice (some ⟨w.heap.size, 0, none⟩) (n + 1) (n + 1)) (n + 1) (charL t n k) ∧ Below w.heap.size w wr) (fun _ x _ => n + 1 - (intOf x).toNat)
  case atStart => exact ⟨0, 1, Nat.zero_le _, rfl, rfl, by omega, by omega, rfl, by rw [charL_zero]; exact Hm0.out, Hb0.out⟩
  case round =>
    obtain ⟨k, g, hk, rfl, rfl, hg1, hg2, hg, hown, hbl⟩ := hrel
    obtain ⟨wa, rfl⟩ : ∃ wo : World, wo = wr := ⟨_, rfl⟩
    have Hown := Lib.hid hown
    have Hbl := Lib.hid hbl
    clear hown hbl Hm0 Hb0
    by_cases hlt : k < n + 1
    · have hle : k ≤ n := by omega
      have hd : decide ((k : Int) ≤ (n : Int)) = true := decide_eq_true (by omega)
      have HSG : Hid (sg (k + 1) = -g) := by show _ = _; rw [sg_next, hg.out]
      have HA0 : Hid (accS t k g ((sets n k).drop 0) 0 = pE t n k) := by show _ = _; rw [List.drop_zero, ← hg.out]; exact accS_pE
      have hsl : (sets n k).length ≤ 1048576 := by
        have h1 := setsTo_len n k (2 ^ n)
        have h2n : 2 ^ n ≤ 16 := Nat.pow_le_pow_right (n := 2) (by omega) hn
        have h2 : (sets n k).length ≤ 2 ^ n := h1
        omega
      have HC0 := Lib.hid (charL_get (t := t) hle)
      have HCS := Lib.hid (charL_set (t := t) hle)
      obtain ⟨C, hC⟩ : ∃ C, charL t n k = C := ⟨_, rfl⟩
      rw [hC] at Hown HC0 HCS
      clear hC hg
      have hblk := Hown.out.lt.2
      go_wp2_with (go_at_call 83; refine (iSets_any n k _ hn (by omega)).mono ?_; rintro e w1 ⟨v1, rfl, ho1, hb1⟩; obtain ⟨ao1, cap1, rfl, hi1⟩ := ho1.form; have HI1 := Lib.hid hi1; have HB1 := Lib.hid hb1; have HO1 := Lib.hid (Hown.out.keep hb1); have HOC := Lib.hid ho1; clear ho1 hi1 hb1)
      have hnk : (n : Int) - (k : Int) = ((n - k : Nat) : Int) := by omega
      obtain ⟨j, hj⟩ : ∃ j, n - k = j := ⟨_, rfl⟩
      rw [hj] at hnk HC0 HCS
      have hjn : j < n + 1 := by omega
      clear hj
      go_loopw [23] (fun x wr => ∃ (i : Nat) (s : Int), i ≤ (sets n k).length ∧ x = .int .i64 i ∧ Hid (accS t k g ((sets n k).drop i) s = pE t n k) ∧ OInts wr w.heap.size (.slice (some ⟨w.heap.size, 0, none⟩) (n + 1) (n + 1)) (n + 1) (C.set j s) ∧ Since wa.heap.size w1.heap.size w1 wr ∧ Below w.heap.size w wr) (fun x _ => (sets n k).length - (intOf x).toNat)
      case atStart => exact ⟨0, 0, Nat.zero_le _, rfl, HA0.out, by rw [set_same HC0.out]; exact HO1.out, Since.refl _ _ _, Hbl.out.trans (HB1.out.mono Hbl.out.size)⟩
      case round =>
        obtain ⟨i, s, hi, rfl, hs, hown, hsi, hbl⟩ := hrel
        clear HA0
        have HOw := Lib.hid hown
        have HSi := Lib.hid hsi
        have HBr := Lib.hid hbl
        have hrd := (HOC.out.since hsi).read
        clear hown hsi hbl
        by_cases hlt2 : i < (sets n k).length
        · obtain ⟨b1, o1, a1, c1, cs, rfl, hc1, hrow1, hget1⟩ := hrd.at_ hlt2
          have HX1 := Lib.hid (setsTo_mem (n := n) (k := k) (m := 2 ^ n) (List.mem_of_getElem? hget1.out))
          have hst := accS_step hget1.out hs.out
          obtain ⟨z, hz⟩ : ∃ z, det k (someT t cs cs) = z := ⟨_, rfl⟩
          rw [hz] at hst
          have HZ := Lib.hid hz
          have HST := Lib.hid hst
          have Hrow1 := Lib.hid hrow1
          have q0 := HOw.out.cell j hjn
          have e0 : (C.set j s).getD j 0 = s := by
            have h := set_getx (y := s) HC0.out
            simp [List.getD, h]
          rw [e0] at q0
          have Q0 := Lib.hid q0
          have F0 : Hid (∀ W : World, Below wr.drew.heap.size wr.drew W → W.cell? ⟨w.heap.size, j, none⟩ = some (.int .i64 s) ∧ W.frozen? ⟨w.heap.size, j, none⟩ = false) := by
            show ∀ W : World, _
            intro W hW
            have h := HOw.out.drewN 1
            have h2 := h.keep hW
            have h3 := h2.cell j hjn
            rw [e0] at h3
            exact ⟨h3, h2.frozen j⟩
          have hcl := HX1.out.1
          have HCL := Lib.hid hcl
          have hc4 : cs.length ≤ 4 := by omega
          clear hst hz hs hrow1 hget1 e0 hcl hrd q0
          go_wp2_with fail
          clear hc1
          have hjn2 : (j : Int) < (n : Int) + 1 := by omega
          have hwr : IntKind.i64.wrap (j : Int) = (j : Int) := by rw [wrap_i64_eq]; unfold wrap64; omega
          have q1 := (F0.out _ (Below.refl _ _)).1
          have q2 := (F0.out _ (Below.refl _ _)).2
          go_region_law (first
            | (go_simp; go_at_call 99; refine (iPicked_any _ _ _ t _ _ _ cs n _ (H.out.keep (HBr.out.drew.mono (Nat.le_refl _))) (Hrow1.out.drewN 1) HR.out HX1.out.2 HX1.out.2 (by omega)).mono ?_; rintro e w4 ⟨v4, rfl, ho4, hb4⟩; obtain ⟨ao4, cap4, rfl, hi4⟩ := ho4.form; have Hi4 := Lib.hid hi4; have HB4 := Lib.hid hb4; have q3 := (F0.out _ hb4).1; have q4 := (F0.out _ hb4).2; clear ho4 hb4 hi4)
            | (go_simp; go_at_call 48; refine (iDet_any k _ _ _ (someT t cs cs) _ HCL.out (by omega) Hi4.out (by have h := someT_rowsLen t cs cs; rw [HCL.out] at h; exact h)).mono ?_; rw [HZ.out]; rintro e w5 ⟨rfl, hb5⟩; have HB5 := Lib.hid (step2 HB4.out hb5); have q5 := (F0.out _ HB5.out).1; have q6 := (F0.out _ HB5.out).2; clear hb5))
          all_goals (go_wp2_with fail)
          all_goals go_roundw
          all_goals first
            | (refine ⟨i + 1, _, hlt2, by go_num, HST.out, ?_, ?_, ?_⟩
               · have h := (((HOw.out.drewN 1).keep HB5.out).set j (wrap64 (s + wrap64 (g * z))))
                 rw [List.set_set] at h
                 exact h
               · exact (Since.below (HSi.out) (show Below wr.heap.size wr w5 from (below_drewN (Below.refl _ _) 1).trans (HB5.out)) HSi.out.size).other hblk _
               · exact ((HBr.out.drew).trans (HB5.out.mono HBr.out.size)).setCell (p := ⟨w.heap.size, j, none⟩) (Nat.le_refl _) _)
            | (simp [intOf] <;> omega)
        · have e : s = pE t n k := accS_end (by omega) hs.out
          subst e
          have HCE := Lib.hid HCS.out
          have ho := HOw.out
          rw [HCE.out] at ho
          have HO2 := Lib.hid ho
          clear ho HCE HCS hs hrd
          go_wp2_with fail
          go_roundw
          case rel => exact ⟨k + 1, -g, hlt, by go_num, rfl, by omega, by omega, HSG.out, HO2.out, HBr.out⟩
          case measure => (simp [intOf] <;> omega)
    · have e : k = n + 1 := by omega
      subst e
      have hd : decide (((n + 1 : Nat) : Int) ≤ (n : Int)) = false := decide_eq_false (by omega)
      rw [show ((n + 1 : Nat) : Int) = (n : Int) + 1 by omega] at hd ⊢
      go_wp2_with fail
      go_ret
      exact ⟨_, rfl, Hown.out, Hbl.out⟩
end Go.Proofs.YtbjoblgklcilpaaGreatDoor
