/- D3b: a part of the proofs of this seat. -/
import Derived.BigQuiet
import Derived.Deep.RegionLaw
import Derived.Test.YtdmpokanfnlbgaaGreatDoorProg
import Derived.Test.YtdmpokanfnlbgaaGreatDoorBG1a
namespace Go.Proofs.YtdmpokanfnlbgaaGreatDoor
open Go.RowKit
set_option linter.all false
def shD (b lo : Nat) (w w' : World) (e : Ending) : Prop := ∃ (K : Int) (v : Value) (F : List ByteArray), e = .returned (.agg #[.int .i64 K, v]) ∧ OStrs w' w.heap.size v F.length F ∧ ((∀ f ∈ F, f.size ≤ 3) ∧ F.length ≤ 8) ∧ Cur w' b lo ∧ w.grownBy w' (some b)
def catT (b lo : Nat) (w w' : World) (v : Value) : Prop := ∃ x : ByteArray, v = .string x ∧ x.size ≤ 3 ∧ Cur w' b lo ∧ w.grownBy w' (some b)
theorem OStrs.away {w w' : World} {lo n b : Nat} {v : Value} {ss : List ByteArray} (h : OStrs w lo v n ss) (hg : w.grownBy w' (some b)) (hb : b < lo) : OStrs w' lo v n ss := by
  refine h.grown hg ?_
  cases hv : v.ownBlock with
  | none => exact .inl rfl
  | some g => right; intro e; injection e with e; have := h.ownlt g hv; omega
theorem l2Draw_two (b lo k : Nat) (w : World) (h : Cur w b lo) (hk1 : 1 ≤ k) (hk3 : k ≤ 3) :
    Calls Tryz.prog 87 #[.pointer (some ⟨b, 0, none⟩), .int .i64 k, .int .i64 2] w fun e w' => ∃ s : ByteArray, s.size ≤ 2 ∧ e = .returned (.string s) ∧ Cur w' b lo ∧ w.grownBy w' (some b) := l2Draw_gen b lo k 2 w h hk1 hk3 (by omega)
theorem put_size {F G : List ByteArray} {x : ByteArray} (hF : ∀ f ∈ F, f.size ≤ 3) (hx : x.size ≤ 3) (hG : ∀ f ∈ G, f ∈ F ∨ f = x) : ∀ f ∈ G, f.size ≤ 3 := fun f hf => by
  rcases hG f hf with h | rfl
  · exact hF f h
  · exact hx
theorem shS_get {s : ByteArray} {d : Nat} {F : List ByteArray} (h : shS s d F) : (∀ f ∈ F, f.size ≤ 3) ∧ F.length ≤ 8 :=
  ⟨fun f hf => ((isSh_get h.2.2.1).2.2 f hf).2, (isSh_get h.2.2.1).2.1⟩
theorem strs_ne {w : World} {lo n g : Nat} {v : Value} {ss : List ByteArray} (h : OStrs w lo v n ss) (hg : g < lo) : v.ownBlock ≠ some g := fun e => by
  have := (h.ownlt g e).1
  omega
theorem some_ne {a b : Nat} (h : a ≠ b) : some a ≠ some b := fun e => h (by injection e)
set_option maxRecDepth 20000 in
set_option maxHeartbeats 12800000 in
theorem l3Draw_any (b lo : Nat) (w : World) (h : Cur w b lo) :
    Calls Tryz.prog 63 #[.pointer (some ⟨b, 0, none⟩)] w fun e w' => shD b lo w w' e := by
  have hbl := h.lt.2
  have HZ1 := Lib.hid (Blk.new w 30 #[.int .i64 0, .slice none 0 0])
  have H1 := Lib.hid (h.keep (belowA w (.cells #[.int .i64 0, .slice none 0 0] 30)))
  have HG1 := Lib.hid (grown_alloc w (.cells #[.int .i64 0, .slice none 0 0] 30) (some b))
  have hne : some w.heap.size ≠ some b := some_ne (by omega)
  have HNE := Lib.hid hne
  clear h hne
  go_enter Tryz.func63, Tryz.ntmps63
  go_wp2_with fail
  generalize w.alloc (.cells #[.int .i64 0, .slice none 0 0] 30) = w1 at HZ1 H1 HG1 ⊢
  refine (l1Once_any b lo 3 _ H1.out (by omega) (by omega)).mono ?_
  rintro e w2 ⟨t, rfl, hc2, hg2⟩
  have HC2 := Lib.hid hc2
  have HG2 := Lib.hid (HG1.out.trans hg2)
  have HZ2 := Lib.hid (HZ1.out.grown hg2 HNE.out)
  have hbl2 := hc2.lt.2
  clear hc2 hg2 HZ1 H1 HG1
  cases t
  · have HX := Lib.hid (fun (k : Nat) (w3 : World) => Blk.new w3 30 #[.int .i64 k, .slice none 0 0])
    go_wp2_with (first
      | (go_at_call 37; refine (l1Below_any b lo 5 _ (HC3.out.keep (belowA w3 _)) (by omega) (by omega)).mono ?_; rintro e w4 ⟨n, hn, rfl, hc4, hg4⟩; have HC4 := Lib.hid hc4; have HX4 := Lib.hid ((HX.out k w3).grown hg4 HNE3.out); have HZ4 := Lib.hid ((HZ3.out.alloc _).grown hg4 HNE.out); have HG4 := Lib.hid ((HG3.out.trans (grown_alloc w3 _ (some b))).trans hg4); clear hc4 hg4)
      | (go_at_call 58; refine (l1PickInt_any b lo w2.heap.size 4 4 _ [1, 1, 2, 0] _ (HC2.out.keep ((Below.refl _ _).alloc (Nat.le_refl _) _)) (OInts.lit_ (Nat.le_refl _) rfl rfl (by omega)) hbl2 (by omega) (by omega)).mono ?_; rintro e w3 ⟨d, hd, rfl, hc3, hg3⟩; have hd2 : 0 ≤ d ∧ d ≤ 2 := (by simp at hd; omega); obtain ⟨k, hk⟩ : ∃ k : Nat, 1 + d = k := ⟨(1 + d).toNat, (by omega)⟩; have hk1 : 1 ≤ k := (by omega); have hk3 : k ≤ 3 := (by omega); have hd0 := hd2.1; have hd3 := hd2.2; have HC3 := Lib.hid hc3; have HG3 := Lib.hid ((HG2.out.trans (grown_alloc w2 _ (some b))).trans hg3); have HZ3 := Lib.hid ((HZ2.out.alloc _).grown hg3 HNE.out); have hbl3 := hc3.lt.2; have hlr3 : w.heap.size < w3.heap.size := HZ3.out.lt; have HNE3 := Lib.hid (some_ne (a := w3.heap.size) (b := b) (by omega)); clear hc3 hg3 hd hd2))
    clear hk hd0 hd3 HC3 HZ3 HG3 HC2 HG2 HZ2
    have hr3 : w.heap.size < w3.heap.size := hlr3
    go_loopw [6] (fun x wr => ∃ (i : Nat) (v : Value) (F : List ByteArray), i + F.length ≤ 4 ∧ x = .int .i64 i ∧ Blk wr w3.heap.size 30 #[.int .i64 k, v] ∧ OStrs wr (w3.heap.size + 1) v F.length F ∧ Hid (∀ f ∈ F, f.size ≤ 3) ∧ Blk wr w.heap.size 30 #[.int .i64 0, .slice none 0 0] ∧ Cur wr b lo ∧ w.grownBy wr (some b)) (fun x _ => (intOf x).toNat)
    case atStart => exact ⟨n, _, [], by simp; omega, rfl, HX4.out, OStrs.none_ _ _, (by show ∀ f ∈ [], _; simp), HZ4.out, HC4.out, HG4.out⟩
    case round =>
      obtain ⟨i, v, F, hil, rfl, hx, hown, hfz, hz, hcu, hgr⟩ := hrel
      obtain ⟨av, cv, rfl, _⟩ := hown.form
      have HX := Lib.hid hx
      have HO := Lib.hid hown
      have HZ := Lib.hid hz
      have HC := Lib.hid hcu
      have HG := Lib.hid hgr
      clear hx hown hz hcu hgr HX4 HZ4 HC4 HG4
      by_cases hi0 : 0 < i
      · obtain ⟨wo, rfl⟩ : ∃ wo : World, wo = wr := ⟨_, rfl⟩
        have k0 : wo.cell? ⟨w3.heap.size, 0, none⟩ = some (.int .i64 k) := HX.out.cell 0
        have k0a : (wo.alloc (.cells #[.string ⟨#[97]⟩, .string ⟨#[98]⟩, .string ⟨#[99]⟩] 9)).cell? ⟨w3.heap.size, 0, none⟩ = some (.int .i64 k) := (HX.out.alloc _).cell 0
        have hs2 := slice_toS (some ⟨wo.heap.size, 0, none⟩) 3 3 k hk3
        have HcA : Hid (Cur (wo.alloc (.cells #[.string ⟨#[97]⟩, .string ⟨#[98]⟩, .string ⟨#[99]⟩] 9)).drew b lo) := (HC.out.keep (belowA wo _)).drewN 1
        have HcB : Hid (Cur wo.drew b lo) := HC.out.drewN 1
        have HgA : Hid (wo.grownBy (wo.alloc (.cells #[.string ⟨#[97]⟩, .string ⟨#[98]⟩, .string ⟨#[99]⟩] 9)).drew (some b)) := grown_drewN (grown_alloc wo _ (some b)) 1
        have HgB : Hid (wo.grownBy wo.drew (some b)) := grown_drewN (World.grownBy.refl wo _) 1
        have HAL := Lib.hid (abc3_len hk3)
        have HLA := Lib.hid (abc3_cell wo k)
        have hbo := HC.out.lt.2
        have hneo : some wo.heap.size ≠ some b := some_ne (by omega)
        have HNEO := Lib.hid hneo
        clear hneo
        go_wp2_with fail
        go_cut [7] (fun v wx => catT b lo wo wx v)
        case first =>
          go_region_with (first
            | (go_at_call 64; refine (l1Pick_any b lo wo.heap.size k 3 (abc3.take k) _ HcA5.out HAL.out HLA5.out (by omega) hk1 (by omega)).mono ?_; rintro e w6 ⟨t, ht, rfl, hc6, hg6⟩; have ht1 := abc3_one ht; have hq : ¬ (9223372036854775807 < s.size + t.size) := (by omega); have HC6 := Lib.hid hc6; have HG6 := Lib.hid (HG5.out.trans hg6); clear ht hc6 hg6)
            | (go_at_call 64; refine (l1Pick_any b lo w5.heap.size k 3 (abc3.take k) _ (HcB5.out.keep (belowA w5 _)) HAL.out HLB5.out (by omega) hk1 (by omega)).mono ?_; rintro e w6 ⟨t, ht, rfl, hc6, hg6⟩; have ht1 := abc3_one ht; have hq : ¬ (9223372036854775807 < s.size + t.size) := (by omega); have HC6 := Lib.hid hc6; have HG6 := Lib.hid ((HG5.out.trans (grown_alloc w5 _ (some b))).trans hg6); clear ht hc6 hg6)
            | (go_at_call 87; refine (l2Draw_two b lo k _ ?_ hk1 hk3).mono ?_; (with_reducible exact HcA.out); rintro e w5 ⟨s, hs5, rfl, hc5, hg5⟩; have HcA5 := Lib.hid hc5; have HG5 := Lib.hid (HgA.out.trans hg5); have k05 : w5.cell? ⟨w3.heap.size, 0, none⟩ = some (.int .i64 k) := (((HX.out.alloc _).drewN 1).grown hg5 HNE3.out).cell 0; have HLA5 := Lib.hid (fun (i : Nat) (s : ByteArray) (hs : (abc3.take k)[i]? = some s) => cell_grown hg5 (HLA.out i s hs) HNEO.out); clear hc5 hg5)
            | (go_at_call 87; refine (l2Draw_two b lo k _ ?_ hk1 hk3).mono ?_; (with_reducible exact HcB.out); rintro e w5 ⟨s, hs5, rfl, hc5, hg5⟩; have HcB5 := Lib.hid hc5; have HG5 := Lib.hid (HgB.out.trans hg5); have k05 : w5.cell? ⟨w3.heap.size, 0, none⟩ = some (.int .i64 k) := ((HX.out.drewN 1).grown hg5 HNE3.out).cell 0; have k05a : (w5.alloc (.cells #[.string ⟨#[97]⟩, .string ⟨#[98]⟩, .string ⟨#[99]⟩] 9)).cell? ⟨w3.heap.size, 0, none⟩ = some (.int .i64 k) := (((HX.out.drewN 1).grown hg5 HNE3.out).alloc _).cell 0; have hb5 := hc5.lt.2; have hs3 := slice_toS (some ⟨w5.heap.size, 0, none⟩) 3 3 k hk3; have HLB5 := Lib.hid (abc3_cell w5 k); clear hc5 hg5))
          all_goals (go_wp2_with fail; go_meet; exact ⟨_, rfl, by rw [ByteArray.size_append]; omega, HC6.out, HG6.out⟩)
        case rest =>
        obtain ⟨x, rfl, hx3, hcx, hgx⟩ := hcut
        have HXc := Lib.hid (HX.out.grown hgx HNE3.out)
        have HOc := Lib.hid (HO.out.away hgx (by omega))
        have HZc := Lib.hid (HZ.out.grown hgx HNE.out)
        have HCc := Lib.hid hcx
        have HGc := Lib.hid (HG.out.trans hgx)
        have q1 := HXc.out.cell 1
        change _ = some _ at q1
        clear hcx hgx k0 k0a hs2 HcA HcB HgA HgB HLA HX HO HZ HC HG
        go_wp2_with fail
        refine (l2Put_any (w3.heap.size + 1) _ F x _ HOc.out (by omega) (by have := HXc.out.lt; omega)).mono ?_
        rintro e w5 ⟨v5, G, rfl, ho5, hG, hl5, hb5⟩
        obtain ⟨a5, c5, rfl, _⟩ := ho5.form
        have HX5 := Lib.hid (HXc.out.below hb5 (by omega))
        have q1 := HX5.out.cell 1
        change _ = some _ at q1
        have f1 := HX5.out.frozen 1
        have HX6 : Hid (Blk (w5.setCell ⟨w3.heap.size, 1, none⟩ (.slice a5 G.length c5)) w3.heap.size 30 #[.int .i64 k, .slice a5 G.length c5]) := HX5.out.set 1 _
        have HO6 := Lib.hid (ho5.setFar' (p := ⟨w3.heap.size, 1, none⟩) (strs_ne ho5 (by show w3.heap.size < _; omega)) (.slice a5 G.length c5))
        have HZ6 := Lib.hid ((HZc.out.below hb5 (by omega)).other (p := ⟨w3.heap.size, 1, none⟩) (by show w.heap.size ≠ w3.heap.size; omega) (.slice a5 G.length c5))
        have HC6 := Lib.hid ((HCc.out.below hb5 (by omega)).put (p := ⟨w3.heap.size, 1, none⟩) (by show b < w3.heap.size; omega) (.slice a5 G.length c5))
        have HG6 := Lib.hid (grown_new (grown_belowB HGc.out hb5 (by omega)) (p := ⟨w3.heap.size, 1, none⟩) (by show w.heap.size ≤ w3.heap.size; omega) (.slice a5 G.length c5))
        have HF6 := Lib.hid (put_size hfz.out hx3 hG)
        clear ho5 hb5 hG hfz
        go_wp2_with fail
        go_roundw
        case rel => exact ⟨i - 1, _, G, by omega, by go_num, HX6.out, HO6.out, HF6.out, HZ6.out, HC6.out, HG6.out⟩
        case measure => (simp [intOf] <;> omega)
      · have k0 := HX.out.cell 0
        have k1 := HX.out.cell 1
        have z0 := HZ.out.cell 0
        have z1 := HZ.out.cell 1
        change _ = some _ at k0
        change _ = some _ at k1
        change _ = some _ at z0
        change _ = some _ at z1
        have f0 := HZ.out.frozen 0
        have f1 := HZ.out.frozen 1
        have HNR := Lib.hid (strs_ne HO.out (show w.heap.size < w3.heap.size + 1 by omega))
        have hF8 : F.length ≤ 8 := by omega
        go_wp2_with fail
        refine bodyPost_ret (v := .agg #[.int .i64 k, .slice av F.length cv]) (by simp [results, Tryz.results63, go_sem, *]) rfl ?_
        exact ⟨k, _, F, rfl, ((HO.out.mono (by omega)).setFar' HNR.out _).setFar' HNR.out _, ⟨hfz.out, hF8⟩, (HC.out.put (p := ⟨w.heap.size, 0, none⟩) hbl _).put (p := ⟨w.heap.size, 1, none⟩) hbl _, grown_new (grown_new HG.out (p := ⟨w.heap.size, 0, none⟩) (Nat.le_refl _) _) (p := ⟨w.heap.size, 1, none⟩) (Nat.le_refl _) _⟩
  · have HLC := Lib.hid (fun (i : Nat) (s : ByteArray) (hs : strs11[i]? = some s) => (OStrs.lit w2 w2.heap.size strs11 (Nat.le_refl _) (by decide)).cell hs)
    go_wp2_with (first
      | (go_at_call 64; refine (l1Pick_any b lo w2.heap.size 11 11 strs11 _ (HC2.out.keep ((Below.refl _ _).alloc (Nat.le_refl _) _)) rfl HLC.out (by omega) (by omega) (by omega)).mono ?_; rintro e w3 ⟨s, hs, rfl, hc3, hg3⟩; obtain ⟨d, F, hS⟩ := strs11_get hs; have HS := Lib.hid hS; have HC3 := Lib.hid hc3; have HG3 := Lib.hid ((HG2.out.trans (grown_alloc w2 _ (some b))).trans hg3); have HZ3 := Lib.hid ((HZ2.out.alloc _).grown hg3 HNE.out); clear hs hS hc3 hg3))
    refine (sParseSh_any s d F _ HS.out).mono ?_
    rintro e w4 ⟨v4, rfl, ho4, hb4⟩
    obtain ⟨a4, c4, rfl, _⟩ := ho4.form
    have HFZ := Lib.hid (shS_get HS.out)
    have HC4 := Lib.hid ((HC3.out.keep hb4).keep (belowA w4 (.cells #[.int .i64 d, .slice a4 F.length c4] 30)))
    have HG4 := Lib.hid ((HG3.out.trans (grown_of_below hb4)).trans (grown_alloc w4 (.cells #[.int .i64 d, .slice a4 F.length c4] 30) (some b)))
    have HZ4 := Lib.hid ((HZ3.out.keep hb4).alloc (.cells #[.int .i64 d, .slice a4 F.length c4] 30))
    have HO4 := Lib.hid (ho4.alloc (.cells #[.int .i64 d, .slice a4 F.length c4] 30))
    have hlz : w.heap.size < w3.heap.size := HZ3.out.lt
    have HNR := Lib.hid (strs_ne ho4 hlz)
    have HX := Blk.new w4 30 #[.int .i64 d, .slice a4 F.length c4]
    have k0 := HX.cell 0
    have k1 := HX.cell 1
    change _ = some _ at k0
    change _ = some _ at k1
    have z0 := HZ4.out.cell 0
    have z1 := HZ4.out.cell 1
    change _ = some _ at z0
    change _ = some _ at z1
    have f0 := HZ4.out.frozen 0
    have f1 := HZ4.out.frozen 1
    clear ho4 hb4 HX HC2 HC3 HG2 HG3 HZ2 HZ3
    go_wp2_with fail
    refine bodyPost_ret (v := .agg #[.int .i64 d, .slice a4 F.length c4]) (by simp [results, Tryz.results63, go_sem, *]) rfl ?_
    exact ⟨d, _, F, rfl, ((HO4.out.mono (Nat.le_of_lt hlz)).setFar' HNR.out _).setFar' HNR.out _, HFZ.out, (HC4.out.put (p := ⟨w.heap.size, 0, none⟩) hbl _).put (p := ⟨w.heap.size, 1, none⟩) hbl _, grown_new (grown_new HG4.out (p := ⟨w.heap.size, 0, none⟩) (Nat.le_refl _) _) (p := ⟨w.heap.size, 1, none⟩) (Nat.le_refl _) _⟩
end Go.Proofs.YtdmpokanfnlbgaaGreatDoor
