/- D27: a part of the proofs of this seat. -/
import Derived.BigQuiet
import Derived.Deep.RegionLaw
import Derived.Test.YtmkodbkbgpjgoaaProg
import Derived.Test.YtmkodbkbgpjgoaaED14b
namespace Go.Proofs.Ytmkodbkbgpjgoaa
open Go.RowKit
set_option linter.all false
theorem lab_ret {b lo : Nat} {w w2 W : World} {e : Ending} (hs : w.heap.size < w2.heap.size) (h : labD 101 b lo w2 W e) (hg : w.grownBy w2 (some b)) : ∃ (L S : Int) (v : Value) (xs : List Ar), e = .returned (.agg #[.int .i64 L, .int .i64 S, v]) ∧ OArcs W (w.heap.size + 1) v xs.length xs ∧ xs.length ≤ 101 ∧ Cur W b lo ∧ w.grownBy W (some b) := by
  obtain ⟨L, S, v, xs, he, ho, hx, hc, hg2⟩ := h
  exact ⟨L, S, v, xs, he, ho.mono hs, hx, hc, hg.trans hg2⟩
set_option maxRecDepth 20000 in
set_option maxHeartbeats 12800000 in
theorem l27Draw_any (b lo : Nat) (w : World) (h : Cur w b lo) :
    Calls Try.prog 27 #[.pointer (some ⟨b, 0, none⟩)] w fun e w' => labD 101 b lo w w' e := by
  have hbl := h.lt.2
  have HZ1 := Lib.hid (Blk.new w 26 #[.int .i64 0, .int .i64 0, .slice none 0 0])
  have H1 := Lib.hid (h.keep (belowA w (.cells #[.int .i64 0, .int .i64 0, .slice none 0 0] 26)))
  have HG1 := Lib.hid (grown_alloc w (.cells #[.int .i64 0, .int .i64 0, .slice none 0 0] 26) (some b))
  have hne : some w.heap.size ≠ some b := some_ne (by omega)
  have HNE := Lib.hid hne
  clear h hne
  go_enter Try.func27, Try.ntmps27
  go_wp2_with fail
  generalize w.alloc (.cells #[.int .i64 0, .int .i64 0, .slice none 0 0] 26) = w1 at HZ1 H1 HG1 ⊢
  refine (l1Once_any b lo 3 _ H1.out (by omega) (by omega)).mono ?_
  rintro e w2 ⟨t, rfl, hc2, hg2⟩
  have HC2 := Lib.hid hc2
  have HG2 := Lib.hid (HG1.out.trans hg2)
  have HZ2 := Lib.hid (HZ1.out.grown hg2 HNE.out)
  clear hc2 hg2 HZ1 H1 HG1
  cases t
  · have HX := Lib.hid (fun (L S : Nat) (W : World) => Blk.new W 26 #[.int .i64 L, .int .i64 S, .slice none 0 0])
    go_wp2_with (first
      | (go_at_call 28; refine (l1Below_any b lo 4 _ HC3.out (by omega) (by omega)).mono ?_; rintro e w4 ⟨d4, hd4, rfl, hc4, hg4⟩; obtain ⟨S, hS⟩ : ∃ k : Nat, 1 + (d4 : Int) = k := ⟨d4 + 1, (by omega)⟩; have hS1 : 1 ≤ S := (by omega); have hS4 : S ≤ 4 := (by omega); have HC4 := Lib.hid hc4; have HG4 := Lib.hid (HG3.out.trans hg4); have HZ4 := Lib.hid (HZ3.out.grown hg4 HNE.out); have hbl4 := hc4.lt.2; have hlr4 : w.heap.size < w4.heap.size := HZ4.out.lt; clear hc4 hg4 hd4)
      | (go_at_call 28; refine (l1Below_any b lo 2 _ HC2.out (by omega) (by omega)).mono ?_; rintro e w3 ⟨d3, hd3, rfl, hc3, hg3⟩; obtain ⟨L, hL⟩ : ∃ k : Nat, 2 + (d3 : Int) = k := ⟨d3 + 2, (by omega)⟩; have hL2 : 2 ≤ L := (by omega); have hL3 : L ≤ 3 := (by omega); have HC3 := Lib.hid hc3; have HG3 := Lib.hid (HG2.out.trans hg3); have HZ3 := Lib.hid (HZ2.out.grown hg3 HNE.out); clear hc3 hg3 hd3))
    clear hL hS
    have HR5 : Hid (Gr (w4.alloc (.cells #[.int .i64 L, .int .i64 S, .slice none 0 0] 26)) w4.heap.size w4.heap.size L S (.slice none 0 0) []) := ⟨Blk.new w4 _ _, OArcs.none_ _ _, by simp [Value.ownBlock], Nat.le_refl _⟩
    have HC5 := Lib.hid (HC4.out.keep (belowA w4 (.cells #[.int .i64 L, .int .i64 S, .slice none 0 0] 26)))
    have HG5 := Lib.hid (HG4.out.trans (grown_alloc w4 (.cells #[.int .i64 L, .int .i64 S, .slice none 0 0] 26) (some b)))
    have HZ5 := Lib.hid (HZ4.out.alloc (.cells #[.int .i64 L, .int .i64 S, .slice none 0 0] 26))
    clear HC2 HC3 HC4 HG2 HG3 HG4 HZ2 HZ3 HZ4 HX
    generalize w4.alloc (.cells #[.int .i64 L, .int .i64 S, .slice none 0 0] 26) = w5 at HR5 HC5 HG5 HZ5 ⊢
    generalize w4.heap.size = g3 at hbl4 hlr4 HR5 ⊢
    go_loopw [4] (fun y wr => ∃ (p : Nat) (v : Value) (xs : List Ar), p ≤ S ∧ xs.length ≤ p * 3 ∧ y = .int .i64 p ∧ Gr wr g3 g3 L S v xs ∧ Blk wr w.heap.size 26 #[.int .i64 0, .int .i64 0, .slice none 0 0] ∧ Cur wr b lo ∧ w.grownBy wr (some b)) (fun y _ => S - (intOf y).toNat)
    case atStart => exact ⟨0, _, [], Nat.zero_le _, by simp, rfl, HR5.out, HZ5.out, HC5.out, HG5.out⟩
    case round =>
      obtain ⟨p, v, xs, hp, hxl, rfl, hr, hz, hc, hg⟩ := hrel
      obtain ⟨av, cv, rfl, _⟩ := hr.o.form
      have HR := Lib.hid hr
      have HZ := Lib.hid hz
      have HC := Lib.hid hc
      have HG := Lib.hid hg
      have k1 : wr.cell? ⟨g3, 1, none⟩ = some (.int .i64 S) := hr.kb.c1
      clear hr hz hc hg HR5 HZ5 HC5 HG5
      by_cases hlt : p < S
      · go_wp2_with (go_at_call 28; refine (l1Below_any b lo 4 _ HC.out (by omega) (by omega)).mono ?_; rintro e w6 ⟨sk, hsk, rfl, hc6, hg6⟩; have HC6 := Lib.hid hc6; have HG6 := Lib.hid (HG.out.trans hg6); have HZ6 := Lib.hid (HZ.out.grown hg6 HNE.out); have HR6 := Lib.hid (HR.out.away hg6 hbl4); clear hc6 hg6 k1)
        obtain ⟨wo, rfl⟩ : ∃ wo : World, wo = wr := ⟨_, rfl⟩
        clear HR HZ HC HG
        go_loopw [6] (fun y wr => ∃ (x : Nat) (v : Value) (xs : List Ar), x ≤ L ∧ xs.length ≤ p * 3 + x ∧ y = .int .i64 x ∧ Gr wr g3 g3 L S v xs ∧ Blk wr w.heap.size 26 #[.int .i64 0, .int .i64 0, .slice none 0 0] ∧ Cur wr b lo ∧ w.grownBy wr (some b)) (fun y _ => L - (intOf y).toNat)
        case atStart => exact ⟨0, _, xs, Nat.zero_le _, by omega, rfl, HR6.out, HZ6.out, HC6.out, HG6.out⟩
        case round =>
          clear hxl HR6 HZ6 HC6 HG6
          obtain ⟨x, v, xs, hxL, hxl, rfl, hr, hz, hc, hg⟩ := hrel
          obtain ⟨av, cv, rfl, _⟩ := hr.o.form
          obtain ⟨wp, rfl⟩ : ∃ wp : World, wp = wr := ⟨_, rfl⟩
          have HR := Lib.hid hr
          have HZ := Lib.hid hz
          have HC := Lib.hid hc
          have HG := Lib.hid hg
          have k0 : wp.cell? ⟨g3, 0, none⟩ = some (.int .i64 L) := hr.kb.c0
          have k1 : wp.cell? ⟨g3, 1, none⟩ = some (.int .i64 S) := hr.kb.c1
          have k2 : wp.cell? ⟨g3, 2, none⟩ = some (.slice av xs.length cv) := hr.kb.c2
          have hxs : xs.length ≤ 20 := by omega
          clear hr hz hc hg
          by_cases hxt : x < L
          · by_cases hsk2 : x = sk
            · have dsk : ((x : Int) != (sk : Int)) = false := by simp [hsk2]
              by_cases hL22 : L = 2
              · have dL : ((L : Int) == 2) = true := beq_iff_eq.2 (by omega)
                clear hsk2 hL22
                go_wp2_with fail
                go_region_law (first
                  | (refine step_of_wp rfl (wp_push_arc wy ((p : Int), (d : Int), (x : Int)) (.tmp 41) (.tmp 49) rfl g3 (.slice av xs.length cv) xs.length xs rfl (by exact HRy.out.o) (by omega) (by exact HLy.out) _ rfl rfl ?_); intro v9 w9 ho hg hn; have hk := HRy.out.grownB hg; have q9 := hk.c2; have f9 := hk.frozen 2; have HR9 := Lib.hid (HRy.out.pushed ho rfl hg hn); have hb9 := HRy.out.belowP (Below.refl g3 wy) hg (by exact HLy.out) (Nat.le_refl _) v9; have HZ9 := Lib.hid (HZy.out.below hb9 hlr4); have HC9 := Lib.hid (HCy.out.below hb9 hbl4); have HG9 := Lib.hid (grown_belowB HGy.out hb9 (Nat.le_of_lt hlr4)); obtain ⟨a9, c9, rfl, _⟩ := ho.form; clear ho hg hn hk hb9)
                  | (go_simp; go_at_call 28; refine (l1Below_any b lo S _ (HC.out.drewN 1) hS1 (by omega)).mono ?_; rintro e wy ⟨d, hd, rfl, hcy, hgy⟩; have hgy' : wp.grownBy wy (some b) := (grown_drewN (World.grownBy.refl wp _) 1).trans hgy; have HCy := Lib.hid hcy; have HGy := Lib.hid (HG.out.trans hgy'); have HZy := Lib.hid (HZ.out.grown hgy' HNE.out); have HRy := Lib.hid (HR.out.away hgy' hbl4); have HLy : Hid (g3 ≤ wy.heap.size) := Nat.le_of_lt HRy.out.kb.lt; have qy := HRy.out.kb.c2; have qz : (wy.alloc (.cells #[.int .i64 p, .int .i64 d, .int .i64 x] 55)).cell? ⟨g3, 2, none⟩ = some (.slice av xs.length cv) := (HRy.out.kb.alloc _).c2; clear hcy hgy hgy' hd))
                all_goals
                  clear k0 k1 k2
                  go_wp2_with fail
                  go_roundw
                all_goals first
                  | exact ⟨x + 1, _, xs ++ [((p : Int), (d : Int), (x : Int))], hxt, by simp; omega, by go_num, HR9.out, HZ9.out, HC9.out, HG9.out⟩
                  | (simp [intOf] <;> omega)
              · have dL : ((L : Int) == 2) = false := beq_eq_false_iff_ne.2 (by omega)
                clear hsk2 hL22
                go_wp2_with fail
                go_roundw
                case rel => exact ⟨x + 1, _, xs, hxt, by omega, by go_num, HR.out, HZ.out, HC.out, HG.out⟩
                case measure => (simp [intOf] <;> omega)
            · have dsk : ((x : Int) != (sk : Int)) = true := by simp; omega
              clear hsk2
              go_wp2_with fail
              go_region_law (first
                | (refine step_of_wp rfl (wp_push_arc wy ((p : Int), (d : Int), (x : Int)) (.tmp 41) (.tmp 49) rfl g3 (.slice av xs.length cv) xs.length xs rfl (by exact HRy.out.o) (by omega) (by exact HLy.out) _ rfl rfl ?_); intro v9 w9 ho hg hn; have hk := HRy.out.grownB hg; have q9 := hk.c2; have f9 := hk.frozen 2; have HR9 := Lib.hid (HRy.out.pushed ho rfl hg hn); have hb9 := HRy.out.belowP (Below.refl g3 wy) hg (by exact HLy.out) (Nat.le_refl _) v9; have HZ9 := Lib.hid (HZy.out.below hb9 hlr4); have HC9 := Lib.hid (HCy.out.below hb9 hbl4); have HG9 := Lib.hid (grown_belowB HGy.out hb9 (Nat.le_of_lt hlr4)); obtain ⟨a9, c9, rfl, _⟩ := ho.form; clear ho hg hn hk hb9)
                | (go_simp; go_at_call 28; refine (l1Below_any b lo S _ (HC.out.drewN 1) hS1 (by omega)).mono ?_; rintro e wy ⟨d, hd, rfl, hcy, hgy⟩; have hgy' : wp.grownBy wy (some b) := (grown_drewN (World.grownBy.refl wp _) 1).trans hgy; have HCy := Lib.hid hcy; have HGy := Lib.hid (HG.out.trans hgy'); have HZy := Lib.hid (HZ.out.grown hgy' HNE.out); have HRy := Lib.hid (HR.out.away hgy' hbl4); have HLy : Hid (g3 ≤ wy.heap.size) := Nat.le_of_lt HRy.out.kb.lt; have qy := HRy.out.kb.c2; have qz : (wy.alloc (.cells #[.int .i64 p, .int .i64 d, .int .i64 x] 55)).cell? ⟨g3, 2, none⟩ = some (.slice av xs.length cv) := (HRy.out.kb.alloc _).c2; clear hcy hgy hgy' hd))
              all_goals
                clear k0 k1 k2
                go_wp2_with fail
                go_roundw
              all_goals first
                | exact ⟨x + 1, _, xs ++ [((p : Int), (d : Int), (x : Int))], hxt, by simp; omega, by go_num, HR9.out, HZ9.out, HC9.out, HG9.out⟩
                | (simp [intOf] <;> omega)
          · go_wp2_with fail
            go_roundw
            case rel => exact ⟨p + 1, _, xs, hlt, by omega, by go_num, HR.out, HZ.out, HC.out, HG.out⟩
            case measure => (simp [intOf] <;> omega)
      · have k0 := HR.out.kb.c0
        have k2 := HR.out.kb.c2
        have z0 := HZ.out.c0
        have z1 := HZ.out.c1
        have z2 := HZ.out.c2
        have f0 := HZ.out.frozen 0
        have f1 := HZ.out.frozen 1
        have f2 := HZ.out.frozen 2
        have HOf := Lib.hid (HR.out.o.mono (show w.heap.size + 1 ≤ g3 from hlr4))
        go_wp2_with fail
        refine bodyPost_ret (v := .agg #[.int .i64 L, .int .i64 S, .slice av xs.length cv]) (by simp [results, Try.results27, go_sem, *]) rfl ?_
        exact lab_put hbl HOf.out (by omega) HC.out HG.out _ _ _
  · go_wp2_with fail
    refine (l14Bent_any b lo _ HC2.out).mono ?_
    intro e w3 h3
    obtain ⟨L, S, v, xs, rfl, ho, hx, hc, hg⟩ := lab_ret HZ2.out.lt h3 HG2.out
    have hg3 : w2.grownBy w3 (some b) := by obtain ⟨_, _, _, _, _, _, _, _, q⟩ := h3; exact q
    have HZ3 := Lib.hid (HZ2.out.grown hg3 HNE.out)
    obtain ⟨av, cv, rfl, _⟩ := ho.form
    have z0 := HZ3.out.c0
    have z1 := HZ3.out.c1
    have z2 := HZ3.out.c2
    have f0 := HZ3.out.frozen 0
    have f1 := HZ3.out.frozen 1
    have f2 := HZ3.out.frozen 2
    have HO := Lib.hid ho
    have HC := Lib.hid hc
    have HG := Lib.hid hg
    clear h3 hg3 ho hc hg
    go_wp2_with fail
    refine bodyPost_ret (v := .agg #[.int .i64 L, .int .i64 S, .slice av xs.length cv]) (by simp [results, Try.results27, go_sem, *]) rfl ?_
    exact lab_put hbl HO.out hx HC.out HG.out _ _ _
end Go.Proofs.Ytmkodbkbgpjgoaa
