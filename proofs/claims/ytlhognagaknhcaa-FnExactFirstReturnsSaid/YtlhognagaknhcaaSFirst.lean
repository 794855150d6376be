/- SFirst: a part of the proofs of this seat. -/
import Derived.Test.YtlhognagaknhcaaProg
import Derived.Test.YtlhognagaknhcaaFRlist
import Derived.Test.YtlhognagaknhcaaSCountRooted
import Derived.Test.YtlhognagaknhcaaSTimes
namespace Go.Proofs.Ytlhognagaknhcaa
open Go.RowKit
set_option linter.all false
theorem Intss.one {W : World} {ao : Option Addr} {cap : Nat} {r : List Int} (h : Ints W ao r.length r) (hcap : r.length ≤ cap) : Intss (W.alloc (.cells #[.slice ao r.length cap] 24)) (some ⟨W.heap.size, 0, none⟩) 1 [r] := by
  refine ⟨rfl, by omega, fun i q hi => ?_⟩
  match i, hi with
  | 0, hi =>
    simp at hi
    subst hi
    exact ⟨W.heap.size, 0, ao, cap, rfl, World.cell?_alloc_new _ _ _ _, h.keep ((Below.refl _ _).alloc (Nat.le_refl _) _), hcap⟩
  | i + 1, hi => simp at hi
set_option maxRecDepth 20000 in
set_option maxHeartbeats 3200000 in
theorem sFirst_any (pm : Option Addr) (nm cm : Nat) (m : List (List Int)) (i n : Int) (w : World) (h : Intss w pm nm m) :
    Calls Try.prog 42 #[.slice pm nm cm, .int .i64 i, .int .i64 n] w fun e w' => e = .returned (.int .i64 (firstR m i n)) ∧ Below w.heap.size w w' := by
  have HL : Hid (m.length = nm) := h.1
  have H := Lib.hid h
  clear h
  by_cases h10 : 10 < n
  · have hg : Hid (firstR m i n = -1) := by show _ = _; simp [firstR, h10]
    go_enter Try.func42, Try.ntmps42
    go_wp2_with fail
    go_ret
    exact ⟨ret_int hg.out.symm, Below.refl _ _⟩
  have hd10 : decide (10 < n) = false := by simpa using h10
  by_cases hc : rooted m i n < 0
  · have hg : Hid (firstR m i n = -1) := by show _ = _; simp [firstR, h10, hc]
    have hdc : decide (rooted m i n < 0) = true := by simpa using hc
    clear hc
    go_enter Try.func42, Try.ntmps42
    go_wp2_with (go_at_call 92; refine (sCountRooted_any _ _ _ m _ _ _ H.out).mono ?_; rintro e w1 ⟨rfl, hb1⟩; have Hb1 := Lib.hid hb1; clear hb1)
    go_ret
    exact ⟨ret_int hg.out.symm, Hb1.out⟩
  have hf := rooted_facts hc
  have hdc : decide (rooted m i n < 0) = false := by simpa using hc
  have hg : Hid (firstR m i n = (frRow m i.toNat (n.toNat - 1)).getD i.toNat 0) := by show _ = _; simp [firstR, h10, hc]
  obtain ⟨hmat, hi0, hiN, hn1, _, _⟩ := hf
  obtain ⟨i0, rfl⟩ := Int.eq_ofNat_of_zero_le hi0
  obtain ⟨n0, rfl⟩ := Int.eq_ofNat_of_zero_le (show 0 ≤ n by omega)
  have hi : i0 < nm := by have := HL.out; omega
  have hml := isMat_len hmat
  have hn9 : nm ≤ 9 := by have := HL.out; omega
  have HM : Hid (isMat m = true) := hmat
  have HR := Lib.hid (isMat_rowsLen hmat HL.out)
  have hn10 : n0 ≤ 10 := by omega
  have hn1' : 1 ≤ n0 := by omega
  clear hc h10 hmat hi0 hiN hn1 hml
  obtain ⟨b1, o1, a1, c1, r, rfl, hca, hrow, hget⟩ := H.out.at_ hi
  have hrl : r.length = nm := HR.out _ _ hget.out
  have HF0 : Hid (frRow m i0 0 = r) := by show m.getD i0 [] = r; exact getD_get hget.out
  go_enter Try.func42, Try.ntmps42
  go_wp2_with fail
  refine (sCountRooted_any _ _ _ m _ _ _ H.out).mono ?_
  rintro e w1 ⟨rfl, hb1⟩
  have hbx : Below w.heap.size w (w1.alloc (.cells #[] 3)) := hb1.alloc hb1.size _
  have q1 := (hb1.cell (World.block_lt_of_cell? w _ hca)).trans hca
  have q2 := (hbx.cell (World.block_lt_of_cell? w _ hca)).trans hca
  have HRow := Lib.hid (hrow.keep hbx)
  have HE := Lib.hid ((OInts.empty w1 w1.heap.size (Nat.le_refl _)).mono hb1.size)
  have HB1 := Lib.hid hbx
  have HRL := Lib.hid hrl
  have hrm : r.length ≤ 9 := by omega
  have Hget := Lib.hid hget.out
  clear hb1 hbx hca hrow hget hrl
  go_wp2_with (first
    | (at_builtin; refine wpList_app_ints _ rfl _ _ rfl w.heap.size _ 0 [] rfl HE.out _ _ _ r rfl HRow.out (by omega) HB1.out.size ?_; intro v2 w2 ho2 hg2; rw [Nat.zero_add, List.nil_append] at ho2; have Ho2 := Lib.hid ho2; have Hb2 : Hid (Below w.heap.size w w2) := HB1.out.grown hg2 HB1.out.size (fun k hk => (HE.out.ownlt k hk).1); clear ho2 hg2))
  clear hdc hd10 q1 q2
  go_loopw [7, 8] (fun v x wr => ∃ k : Nat, 1 ≤ k ∧ k ≤ n0 ∧ x = .int .i64 k ∧ OInts wr w.heap.size v nm (frRow m i0 (k - 1)) ∧ Below w.heap.size w wr) (fun _ x _ => n0 - (intOf x).toNat)
  case atStart => exact ⟨1, Nat.le_refl _, hn1', rfl, by have h9 := Ho2.out; rw [HRL.out] at h9; show OInts w2 w.heap.size v2 nm (frRow m i0 0); rw [HF0.out]; exact h9, Hb2.out⟩
  case round =>
    obtain ⟨k, hk1, hk2, rfl, hown, hbl⟩ := hrel
    obtain ⟨g, cap, rfl⟩ := hown.head (by omega)
    have hci := hown.cell i0 hi
    have hfi := hown.frozen i0
    have hgl := hown.lt
    by_cases hlt : k < n0
    · have HS := Lib.hid (hown.set i0 0)
      have hsl : ((frRow m i0 (k - 1)).set i0 0).length = nm := HS.out.len
      have hcap : nm ≤ cap := HS.out.capLe rfl
      have hbs := hbl.setCell (p := ⟨g, i0, none⟩) hgl.1 (.int .i64 0)
      have HI : Hid (Intss ((wr.setCell ⟨g, i0, none⟩ (.int .i64 0)).alloc (.cells #[.slice (some ⟨g, 0, none⟩) nm cap] 24)) (some ⟨wr.heap.size, 0, none⟩) 1 [(frRow m i0 (k - 1)).set i0 0]) := by
        have h9 := Intss.one (W := wr.setCell ⟨g, i0, none⟩ (.int .i64 0)) (ao := some ⟨g, 0, none⟩) (cap := cap) (r := (frRow m i0 (k - 1)).set i0 0) (by rw [hsl]; exact HS.out.ints) (by rw [hsl]; exact hcap)
        rw [hsl] at h9
        have h8 : (wr.setCell ⟨g, i0, none⟩ (.int .i64 0)).heap.size = wr.heap.size := by simp
        rw [h8] at h9
        exact h9
      have hb3 : Below w.heap.size w ((wr.setCell ⟨g, i0, none⟩ (.int .i64 0)).alloc (.cells #[.slice (some ⟨g, 0, none⟩) nm cap] 24)) := hbs.alloc (by simpa using hbl.size) _
      have HM3 := Lib.hid (H.out.keep hb3)
      have HB3 := Lib.hid hb3
      have HRA : Hid (RowsLen [(frRow m i0 (k - 1)).set i0 0] nm) := fun j q hq => by
        match j, hq with
        | 0, hq => simp at hq; subst hq; exact hsl
        | j + 1, hq => simp at hq
      have HFS : Hid (mulRow m nm ((frRow m i0 (k - 1)).set i0 0) = frRow m i0 k) := by
        obtain ⟨j, rfl⟩ : ∃ j, k = j + 1 := ⟨k - 1, by omega⟩
        show mulRow m nm ((frRow m i0 j).set i0 0) = mulRow m m.length ((frRow m i0 j).set i0 0)
        rw [HL.out]
      have hnp : 0 < nm := by omega
      clear hown hbl hbs hb3 hsl hcap HS
      go_wp2_with (first
        | (go_at_call 93; refine (sL4Times_any _ _ _ [(frRow m i0 (k - 1)).set i0 0] _ _ _ m nm _ HI.out HM3.out HRA.out HR.out (by omega) (by omega)).mono ?_; rintro e w4 ⟨v4, rfl, ho4, hb4⟩; obtain ⟨g4, c4, rfl⟩ := ho4.head (by omega); obtain ⟨g5, c5, hc5, ho5, _, _⟩ := ho4.rowAt (k := 0) (r := mulRow m nm ((frRow m i0 (k - 1)).set i0 0)) rfl (by rw [mulRow_len]; exact hnp); rw [mulRow_len] at hc5 ho5; rw [HFS.out] at ho5; have Ho5 := Lib.hid (ho5.mono HB3.out.size); have Hb4 := Lib.hid (step2 HB3.out hb4); clear ho4 ho5 hb4))
      go_roundw
      case rel =>
        first | exact ⟨k + 1, by omega, by omega, by go_num, Ho5.out, Hb4.out⟩ | ((repeat apply Exists.intro); exact ⟨⟨k + 1, by omega, by omega, by go_num, Ho5.out, Hb4.out⟩, rfl⟩)
      case measure => simp [intOf]; omega
    · have e : k = n0 := by omega
      subst e
      have Hbl := Lib.hid hbl
      clear hown hbl
      go_wp2_with fail
      go_ret
      exact ⟨ret_int (by rw [hg.out]; rfl), Hbl.out⟩
end Go.Proofs.Ytlhognagaknhcaa
