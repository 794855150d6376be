/- SBlockG: a part of the proofs of this seat. -/
import Derived.BigQuiet
import Derived.Deep.RegionLaw
import Derived.Test.YtdmpokanfnlbgaaGreatDoorProg
import Derived.Test.YtdmpokanfnlbgaaGreatDoorBG1a
import Derived.Test.YtdmpokanfnlbgaaGreatDoorBG0b
import Derived.Test.YtdmpokanfnlbgaaGreatDoorBThA
namespace Go.Proofs.YtdmpokanfnlbgaaGreatDoor
open Go.RowKit
set_option linter.all false
theorem blk_bit {m : List (List Int)} {i j : Nat} {p q : Int} (hi : entA (arcsV m) i 1 = p) (hj : entA (arcsV m) j 0 = q) : bit (p == q) = blkF m i j := by
  unfold blkF bit
  rw [hi, hj]
  by_cases h : p = q <;> simp [h]
set_option maxRecDepth 20000 in
set_option maxHeartbeats 6400000 in
theorem sBlockG_any (p : Option Addr) (n c : Nat) (m : List (List Int)) (w : World) (h : Intss w p n m) :
    Calls Tryz.prog 7 #[.slice p n c] w fun e w' => ∃ v, e = .returned (.tuple #[v, .bool (blkOk m)]) ∧ OIntss w' w.heap.size v (blkV m).length (blkV m) ∧ Below w.heap.size w w' := by
  have H := Lib.hid h
  clear h
  obtain ⟨A, hA⟩ : ∃ A, arcsV m = A := ⟨_, rfl⟩
  have HT : Hid (∀ (i : Nat) (a : List Int), A[i]? = some a → ∃ p q : Nat, a = [(p : Int), (q : Int)] ∧ entA A i 0 = p ∧ entA A i 1 = q) := fun i a h => by rw [← hA] at h ⊢; exact arcs_two h
  have HAE := Lib.hid hA
  go_enter Tryz.func7, Tryz.ntmps7
  go_wp2_with fail
  refine (sArcsOf_any _ _ _ m _ H.out).mono ?_
  rw [hA]
  clear hA
  rintro e w1 ⟨va, rfl, hoa, hb1⟩
  obtain ⟨aa, ca, rfl, hra⟩ := hoa.form
  have HA1 := Lib.hid hra
  have HB1 := Lib.hid hb1
  clear hoa hra hb1
  go_wp2_with fail
  refine (l1In_any _ _ _ _).mono ?_
  rintro e w' ⟨rfl, rfl⟩
  cases hin : inR (A.length : Int) 1 9
  · have hk : Hid (blkOk m = false) := by show _ = _; unfold blkOk; rw [HAE.out]; exact hin
    have hv : Hid (blkV m = []) := by show _ = _; unfold blkV; rw [hk.out]; rfl
    clear hin
    go_wp2_with fail
    go_ret2
    rw [hk.out, hv.out]
    exact ⟨_, rfl, OIntss.empty _ _ HB1.out.size, HB1.out.alloc HB1.out.size _⟩
  have hr := inR_true hin
  have hk : Hid (blkOk m = true) := by show _ = _; unfold blkOk; rw [HAE.out]; exact hin
  have hv : Hid (blkV m = mkT A.length (blkF m)) := by show _ = _; unfold blkV; rw [hk.out, HAE.out]; rfl
  have hn9 : A.length ≤ 9 := by omega
  have hn1 : 1 ≤ A.length := by omega
  clear hin hr
  go_wp2_with fail
  refine (sL4Zero_any A.length A.length _ (by omega) (by omega)).mono ?_
  rintro e w2 ⟨v, rfl, hown, hbl⟩
  obtain ⟨g, cap, rfl⟩ := hown.head (by omega)
  rw [mix_start _ (blkF m)] at hown
  have Hown := Lib.hid hown
  have Hbl := Lib.hid hbl
  clear hown hbl
  go_wp2_with fail
  go_loopw [6] (fun x wr => ∃ i : Nat, i ≤ A.length ∧ x = .int .i64 i ∧ OIntss wr w1.heap.size (.slice (some ⟨g, 0, none⟩) A.length cap) A.length (mkT A.length (mixT (blkF m) i 0)) ∧ Below w1.heap.size w1 wr) (fun x _ => A.length - (intOf x).toNat)
  case atStart => exact ⟨0, Nat.zero_le _, rfl, Hown.out, Hbl.out⟩
  case round =>
    obtain ⟨i, hi, rfl, hown, hbl⟩ := hrel
    clear Hown Hbl
    by_cases hlt : i < A.length
    · have Hown := Lib.hid hown
      have Hbl := Lib.hid hbl
      clear hown hbl
      go_wp2_with fail
      go_loopw [7] (fun x wr => ∃ j : Nat, j ≤ A.length ∧ x = .int .i64 j ∧ OIntss wr w1.heap.size (.slice (some ⟨g, 0, none⟩) A.length cap) A.length (mkT A.length (mixT (blkF m) i j)) ∧ Below w1.heap.size w1 wr) (fun x _ => A.length - (intOf x).toNat)
      case atStart => exact ⟨0, Nat.zero_le _, rfl, Hown.out, Hbl.out⟩
      case round =>
        clear Hown Hbl
        obtain ⟨j, hj, rfl, hown, hbl⟩ := hrel
        by_cases hjn : j < A.length
        · obtain ⟨b1, o1, a1, c1, r1, rfl, q1, hr1, hg1⟩ := (HA1.out.keep hbl).at_ hlt
          obtain ⟨b2, o2, a2, c2, r2, e2, q2, hr2, hg2⟩ := (HA1.out.keep hbl).at_ hjn
          cases e2
          obtain ⟨p1, y1, rfl, _, ey⟩ := HT.out i r1 hg1.out
          obtain ⟨p2, y2, rfl, ep, _⟩ := HT.out j r2 hg2.out
          change _ = some (Value.slice a1 2 c1) at q1
          change _ = some (Value.slice a2 2 c2) at q2
          obtain ⟨b3, o3, x3, rfl, q3, g3⟩ := hr1.at_ (k := 1) (by simp)
          obtain ⟨b4, o4, x4, rfl, q4, g4⟩ := hr2.at_ (k := 0) (by simp)
          have e3 : (y1 : Int) = x3 := by have := g3.out; injection this
          have e4 : (p2 : Int) = x4 := by have := g4.out; injection this
          subst e3 e4
          simp only [Nat.add_zero] at q4
          have hbb := blk_bit (m := m) (i := i) (j := j) (p := (y1 : Int)) (q := (p2 : Int)) (by rw [HAE.out]; exact ey) (by rw [HAE.out]; exact ep)
          obtain ⟨gi, ci, h5, hlo, _, hcl, hst⟩ := hown.mkEnt hlt
          obtain ⟨u, h6⟩ := (hcl j hjn).1
          have h7 := (hcl j hjn).2
          have HS := Lib.hid (hst j (blkF m i j) (mixT (blkF m) i (j + 1)) hjn mix_step)
          have Hb' := Lib.hid (hbl.setCell (p := ⟨gi, j, none⟩) hlo (.int .i64 (blkF m i j)))
          clear hst hcl hown hbl hr1 hr2 hg1 hg2 g3 g4 ey ep
          go_wp2_with fail
          go_region_law (first
            | (go_simp; go_at_call 35; refine (l1Bit_any _ _).mono ?_; rintro e w' ⟨rfl, rfl⟩; rw [hbb]))
          all_goals (go_wp2_with fail)
          all_goals go_roundw
          all_goals first
            | exact ⟨j + 1, hjn, by go_num, by first | exact HS.out | exact HS.out.drewN _, by first | exact Hb'.out | exact below_drewN Hb'.out _⟩
            | (simp [intOf]; omega)
        · have e : j = A.length := by omega
          subst e
          rw [mix_row] at hown
          have Hown := Lib.hid hown
          have Hbl := Lib.hid hbl
          clear hown hbl
          go_wp2_with fail
          go_roundw
          case rel => exact ⟨i + 1, hlt, by go_num, Hown.out, Hbl.out⟩
          case measure => (simp [intOf] <;> omega)
    · have e : i = A.length := by omega
      subst e
      rw [mix_fin] at hown
      have Hown := Lib.hid hown
      have Hbl := Lib.hid hbl
      clear hown hbl
      go_wp2_with fail
      go_ret2
      rw [hk.out, hv.out, mkT_len]
      exact ⟨_, rfl, Hown.out.mono HB1.out.size, step2 HB1.out Hbl.out⟩
end Go.Proofs.YtdmpokanfnlbgaaGreatDoor
