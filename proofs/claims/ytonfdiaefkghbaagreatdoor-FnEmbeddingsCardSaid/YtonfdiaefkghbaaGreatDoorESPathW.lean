/- SPathW: a part of the proofs of this seat. -/
import Derived.Test.YtonfdiaefkghbaaGreatDoorProg
import Derived.Test.YtonfdiaefkghbaaGreatDoorEG1a
import Derived.Test.YtonfdiaefkghbaaGreatDoorEG0b
import Derived.Test.YtonfdiaefkghbaaGreatDoorEG0a
namespace Go.Proofs.YtonfdiaefkghbaaGreatDoor
open Go.RowKit
set_option linter.all false
theorem Since.row {lo hi : Nat} {a b c : World} {v : Value} (h : Since lo hi a b) (k : b.grownBy c v.ownBlock) (hv : ∀ g, v.ownBlock = some g → g < lo ∨ hi ≤ g) (hs : hi ≤ b.heap.size) : Since lo hi a c :=
  ⟨Nat.le_trans h.size k.size, fun i h1 h2 => (k.block i (by omega) (fun e => by have := hv i e.symm; omega)).trans (h.block i h1 h2)⟩
theorem NewOr.out {lo hi s : Nat} {v v' : Value} (h : NewOr s v v') (hv : ∀ g, v.ownBlock = some g → g < lo ∨ hi ≤ g) (hs : hi ≤ s) : ∀ g, v'.ownBlock = some g → g < lo ∨ hi ≤ g := by
  intro g e
  rcases h with h | ⟨b, h, hb⟩
  · exact hv g (by rw [← h]; exact e)
  · rw [h] at e; injection e with e; omega
set_option maxRecDepth 20000 in
set_option maxHeartbeats 3200000 in
theorem sPathW_any (p : Option Addr) (n c : Nat) (m : List (List Int)) (t : Int) (w : World) (h : Intss w p n m) :
    Calls Tryz.prog 19 #[.slice p n c, .int .i64 t] w fun e w' => ∃ v, e = .returned v ∧ OStrs w' w.heap.size v (pathW m t).length (pathW m t) ∧ Below w.heap.size w w' := by
  have H := Lib.hid h
  clear h
  have HE := Lib.hid (OStrs.empty w w.heap.size (Nat.le_refl _))
  have HB := Lib.hid (belowA w (.cells #[] 9))
  have H1 := Lib.hid (H.out.keep HB.out)
  by_cases hb : 10 < (arcsV m).length
  · have hv := Lib.hid (pathW_big (t := t) hb)
    have hd : decide ((10 : Int) < ((arcsV m).length : Int)) = true := by simp; omega
    clear hb
    go_enter Tryz.func19, Tryz.ntmps19
    go_wp2_with fail
    refine (sArcsOf_any _ _ _ m _ H1.out).mono ?_
    rintro e w1 ⟨v1, rfl, ho1, hb1⟩
    obtain ⟨a1, c1, rfl, _⟩ := ho1.form
    have HE1 := Lib.hid (HE.out.keep hb1)
    have HB1 := Lib.hid (step2 HB.out hb1)
    clear ho1 hb1
    go_wp2_with fail
    go_ret
    rw [hv.out]
    exact ⟨_, rfl, HE1.out, HB1.out⟩
  · have hv := Lib.hid (pathW_map (t := t) (Nat.le_of_not_lt hb))
    have hd : decide ((10 : Int) < ((arcsV m).length : Int)) = false := by simp; omega
    clear hb
    go_enter Tryz.func19, Tryz.ntmps19
    go_wp2_with fail
    refine (sArcsOf_any _ _ _ m _ H1.out).mono ?_
    rintro e w1 ⟨v1, rfl, ho1, hb1⟩
    obtain ⟨a1, c1, rfl, _⟩ := ho1.form
    have HE1 := Lib.hid (HE.out.keep hb1)
    have HB1 := Lib.hid (step2 HB.out hb1)
    clear ho1 hb1
    go_wp2_with fail
    clear hd
    refine (sPathsOf_any _ _ _ m t _ (H.out.keep HB1.out)).mono ?_
    rintro e w2 ⟨v2, rfl, ho2, hb2⟩
    obtain ⟨a2, c2, rfl, hi2⟩ := ho2.form
    have HL2 := Lib.hid ho2
    have HSZ : Hid (w.heap.size < w1.heap.size) := by have := HE1.out.lt; exact this.2
    have HE2 := Lib.hid (HE1.out.keep hb2)
    have HB2 := Lib.hid (step2 HB1.out hb2)
    have HPM : Hid (∀ q ∈ pathsV m t, 1 ≤ q.length ∧ q.length ≤ 6 ∧ Idx 60 q) := fun q hq => pathsV_mem (p := []) hq
    have hL := hi2.2.1
    clear ho2 hb2 hi2
    generalize pathsV m t = P at HL2 HPM hL hv ⊢
    go_wp2_with fail
    go_loopw [5, 7] (fun v x wr => ∃ k : Nat, k ≤ P.length ∧ x = .int .i64 k ∧ OStrs wr w.heap.size v k ((P.map txtP).take k) ∧ Below w.heap.size w wr ∧ Since w1.heap.size w2.heap.size w2 wr ∧ Hid (∀ g, v.ownBlock = some g → g < w1.heap.size ∨ w2.heap.size ≤ g)) (fun _ x _ => P.length - (intOf x).toNat)
    case atStart => exact ⟨0, Nat.zero_le _, rfl, by simpa using HE2.out, HB2.out, Since.refl _ _ _, (fun g e => .inl (by have e2 : w.heap.size = g := (by simpa [Value.ownBlock] using e); have := HSZ.out; omega))⟩
    case round =>
      obtain ⟨k, hk, rfl, hown, hbl, hb2, hout⟩ := hrel
      obtain ⟨wo, rfl⟩ : ∃ wo : World, wo = wr := ⟨_, rfl⟩
      have Hown := Lib.hid hown
      have Hbl := Lib.hid hbl
      have HSi := Lib.hid hb2
      have HI2 := Lib.hid (HL2.out.since hb2).read
      clear hown hbl hb2
      by_cases hlt : k < P.length
      · obtain ⟨b1, o1, a3, c3, q, e1, q1, hrow, hget⟩ := HI2.out.at_ hlt
        subst e1
        have hqm := HPM.out q (List.mem_of_getElem? hget.out)
        have HQI := Lib.hid hqm.2.2
        have hq6 := hqm.2.1
        have HPT : Hid ((P.map txtP).take k ++ [txtP q] = (P.map txtP).take (k + 1)) := push_take (by rw [List.getElem?_map, hget.out]; rfl)
        have Hrow := Lib.hid hrow
        have Q1 := Lib.hid q1
        obtain ⟨qn, hqn⟩ : ∃ qn, q.length = qn := ⟨_, rfl⟩
        rw [hqn] at Q1 Hrow hq6
        have HQN := Lib.hid hqn
        clear hget hqm hrow q1 hqn
        go_wp2_with fail
        go_loopw [8, 9] (fun v x wr => ∃ i : Nat, i ≤ qn ∧ v = .string (txtP (q.take i)) ∧ x = .int .i64 i ∧ Below wo.heap.size wo wr) (fun _ x _ => qn - (intOf x).toNat)
        case atStart => exact ⟨0, Nat.zero_le _, rfl, rfl, Below.refl _ _⟩
        case round =>
          obtain ⟨i, hi, rfl, rfl, hb2⟩ := hrel
          obtain ⟨wi, rfl⟩ : ∃ wi : World, wi = wr := ⟨_, rfl⟩
          have hts := txtP_size (q.take i) (HQI.out.take i)
          have hts2 : (txtP (q.take i)).size ≤ 120 := by have : (q.take i).length ≤ i := by simp; omega
                                                         omega
          have q2 := (hb2.cell (World.block_lt_of_cell? wo _ Q1.out)).trans Q1.out
          by_cases hil : i < qn
          · obtain ⟨b4, o4, x, rfl, q3, hgx⟩ := (Hrow.out.keep hb2).at_ hil
            have hxr := HQI.out x (List.mem_of_getElem? hgx.out)
            obtain ⟨u, rfl⟩ : ∃ u : Nat, x = (u : Int) := ⟨x.toNat, by omega⟩
            have HST := Lib.hid (txtP_step hgx.out)
            rw [Int.toNat_natCast] at HST
            have hds := decB_size (u := u) (by omega)
            have Hb2 := Lib.hid hb2
            clear hb2 hgx hts
            generalize txtP (q.take i) = T at HST hts2 ⊢
            go_wp2_with (go_at_call 61; refine (sFormat_any u _ (by omega)).mono ?_; rintro e w5 ⟨rfl, hb5⟩; have HB5 := Lib.hid (step2 Hb2.out hb5); clear hb5)
            go_roundw
            case rel => exact ⟨i + 1, hil, by rw [← HST.out], by go_num, HB5.out⟩
            case measure => (simp [intOf] <;> omega)
          · have HT := Lib.hid (txtP_all (p := q) (k := i) (by have := HQN.out; omega))
            rw [HT.out] at hts2 ⊢
            have HOi := Lib.hid (Hown.out.keep hb2)
            have HBi := Lib.hid (step2 Hbl.out hb2)
            have HSj := Lib.hid (HSi.out.below hb2 HSi.out.size)
            clear hb2 hts
            go_wp2_with (refine wpList_push_strAt wi _ rfl (.tmp 44) (.tmp 46) rfl w.heap.size _ _ _ rfl HOi.out (by omega) HBi.out.size _ rfl rfl ?_; intro v6 w6 ho6 hg6 hn6; have HO6 := Lib.hid ho6; have HB6 := Lib.hid (HBi.out.grown hg6 HBi.out.size (fun b hb => (HOi.out.ownlt b hb).1)); have HS6 := Lib.hid (HSj.out.row hg6 hout.out HSj.out.size); have HO7 : Hid (∀ g, v6.ownBlock = some g → g < w1.heap.size ∨ w2.heap.size ≤ g) := hn6.out hout.out HSj.out.size; clear ho6 hg6 hn6)
            go_roundw
            case rel =>
              have h9 := HO6.out
              rw [HPT.out] at h9
              exact ⟨k + 1, hlt, by go_num, h9, HB6.out, HS6.out, HO7⟩
            case measure => (simp [intOf] <;> omega)
      · have hk2 : k = P.length := by omega
        have HT : Hid ((P.map txtP).take k = P.map txtP) := by show _ = _; rw [List.take_of_length_le (by simp; omega)]
        go_wp2_with fail
        go_ret
        have h9 := Hown.out
        rw [HT.out, hk2] at h9
        rw [hv.out]
        exact ⟨_, rfl, by rw [List.length_map]; exact h9, Hbl.out⟩
end Go.Proofs.YtonfdiaefkghbaaGreatDoor
