/- D28b: a part of the proofs of this seat. -/
import Derived.Test.YtjkpndhfdlnpdaaProg
import Derived.Test.YtjkpndhfdlnpdaaD28
import Derived.Test.YtjkpndhfdlnpdaaBase
namespace Go.Proofs.Ytjkpndhfdlnpdaa
open Go.RowKit
set_option linter.all false
theorem Cur.under {w w' : World} {b lo B : Nat} (h : Cur w b lo) (hb : Below B w w') (hB : b < B) : Cur w' b lo := by
  have hl := h.lt
  obtain ⟨h1, ao, n, c, k, x, hh, h2, h3, h4⟩ := h
  refine ⟨h1, ao, n, c, k, x, (hb.block b hB).trans hh, h2, h3, fun i hi => ?_⟩
  obtain ⟨q, o, y, e, hq, hc, hy⟩ := h4 i hi
  exact ⟨q, o, y, e, hq, (hb.cell (p := ⟨q, o + i, none⟩) (by show q < B; omega)).trans hc, hy⟩
theorem Since.under {lo hi : Nat} {a b c : World} (h : Since lo hi a b) (k : Below hi b c) : Since lo hi a c :=
  ⟨Nat.le_trans h.size k.size, fun i h1 h2 => (k.block i h2).trans (h.block i h1 h2)⟩
theorem Since.apart {lo hi g : Nat} {a b c : World} (h : Since lo hi a b) (k : b.grownBy c (some g)) (hg : g < lo) (hs : hi ≤ b.heap.size) : Since lo hi a c :=
  ⟨Nat.le_trans h.size k.size, fun i h1 h2 => (k.block i (by omega) (fun e => by injection e; omega)).trans (h.block i h1 h2)⟩
theorem hi_set {lo hi g k : Nat} {a b : World} (h : Since lo hi a b) (hg : hi ≤ g) (u : Value) : Since lo hi a (b.setCell ⟨g, k, none⟩ u) :=
  ⟨by simpa [World.setCell] using h.size, fun i h1 h2 => (Below.heap_setCell b ⟨g, k, none⟩ u i (by show i ≠ g; omega)).trans (h.block i h1 h2)⟩
/-- Something of two lists drawn. -/
def DrawT (P : Program) (f : FuncId) : Prop := ∀ (ao : Option Addr) (n c : Nat) (w : World), Bytes w ao n →
  Calls P f #[.slice ao n c] w fun e w' => ∃ v T, e = .returned v ∧ OIntss w' w.heap.size v T.length T ∧ Below w.heap.size w w'
set_option maxHeartbeats 800000 in
theorem drawResting_any : DrawT Try.prog 52 := by
  intro ao n c w h
  have H := Lib.hid h
  clear h
  go_enter Try.func52, Try.ntmps52
  go_wp2_with (first
    | (go_at_call 93; refine (l1New_any _ _ _ _ H.out).mono ?_; rintro e w1 ⟨rfl, hc1, hb1⟩; have Hc1 := Lib.hid hc1; have Hb1 := Lib.hid hb1; clear hc1 hb1)
    | (go_at_call 92; refine (l28Draw_any _ _ _ Hc1.out).mono ?_; rintro e w2 ⟨v, T, rfl, ho2, _, _, _, hg2⟩; have Ho2 := Lib.hid (ho2.mono Hb1.out.size); have Hb2 := Lib.hid (Hb1.out.trans (below_of_grown hg2 (Nat.le_refl _) Hb1.out.size)); clear ho2 hg2))
  go_ret
  exact ⟨v, T, rfl, Ho2.out, Hb2.out⟩
set_option maxHeartbeats 800000 in
theorem drawReversed_any : DrawT Try.prog 56 := by
  intro ao n c w h
  have H := Lib.hid h
  clear h
  go_enter Try.func56, Try.ntmps56
  go_wp2_with (first
    | (go_at_call 93; refine (l1New_any _ _ _ _ H.out).mono ?_; rintro e w1 ⟨rfl, hc1, hb1⟩; have Hc1 := Lib.hid hc1; have Hb1 := Lib.hid hb1; clear hc1 hb1)
    | (go_at_call 92; refine (l28Draw_any _ _ _ Hc1.out).mono ?_; rintro e w2 ⟨v, T, rfl, ho2, _, _, _, hg2⟩; have Ho2 := Lib.hid (ho2.mono Hb1.out.size); have Hb2 := Lib.hid (Hb1.out.trans (below_of_grown hg2 (Nat.le_refl _) Hb1.out.size)); clear ho2 hg2))
  go_ret
  exact ⟨v, T, rfl, Ho2.out, Hb2.out⟩
set_option maxHeartbeats 3200000 in
theorem drawChance_any (ao : Option Addr) (n c : Nat) (w : World) (h : Bytes w ao n) :
    Calls Try.prog 55 #[.slice ao n c] w fun e w' => ∃ v T u xs, e = .returned (.tuple #[v, u]) ∧ OIntss w' w.heap.size v T.length T ∧ OInts w' w.heap.size u xs.length xs ∧ xs.length ≤ 6 ∧ Below w.heap.size w w' := by
  have H := Lib.hid h
  clear h
  go_enter Try.func55, Try.ntmps55
  go_wp2_with (first
    | (go_at_call 93; refine (l1New_any _ _ _ _ H.out).mono ?_; rintro e w1 ⟨rfl, hc1, hb1⟩; have Hl1 := Lib.hid hc1.lt; have Hc1 := Lib.hid hc1; have Hb1 := Lib.hid hb1; clear hc1 hb1)
    | (go_at_call 92; refine (l28Draw_any _ _ _ Hc1.out).mono ?_; rintro e w2 ⟨vt, T, rfl, ho2, ht1, ht4, hc2, hg2⟩; obtain ⟨at_, capt, rfl, _⟩ := ho2.form; have Ho2 := Lib.hid ho2; have Hc2 := Lib.hid hc2; have Hs2 := Lib.hid hg2.size; have Hb2 := Lib.hid (Hb1.out.trans (below_of_grown hg2 (Nat.le_refl _) Hb1.out.size)); clear ho2 hg2 hc2)
    | (go_at_call 104; refine (l1Below_any w.heap.size w.heap.size 6 _ (Hc2.out.keep ((Below.refl _ _).alloc (Nat.le_refl _) _)) (by omega) (by omega)).mono ?_; rintro e w3 ⟨m, hm, rfl, hc3, hg3⟩; have Hc3 := Lib.hid hc3; have Hg3 := Lib.hid hg3; clear hc3 hg3))
  have HA3 : Hid (OInts (w2.alloc (.cells #[] 3)) w2.heap.size (.slice (some ⟨w2.heap.size, 0, none⟩) 0 0) 0 []) := OInts.empty w2 _ (Nat.le_refl _)
  have hl1 := Hl1.out.2
  have hs2 := Hs2.out
  have Ho3 := Lib.hid (HA3.out.away Hg3.out (by omega))
  have hz3 := Hg3.out.size
  have hz4 : (w2.alloc (.cells #[] 3)).heap.size = w2.heap.size + 1 := by simp
  have HS3 : Hid (Since w1.heap.size w2.heap.size w2 w3) := ((Since.refl _ _ w2).under ((Below.refl w2.heap.size w2).alloc (Nat.le_refl _) _)).apart Hg3.out hl1 (by omega)
  have Hb3 := Lib.hid (Hb2.out.trans ((((Below.refl w2.heap.size w2).alloc (Nat.le_refl _) (.cells #[] 3)).mono Hb2.out.size).trans (below_of_grown Hg3.out (Nat.le_refl _) (by have := Hb2.out.size; omega))))
  clear HA3 hz3 hz4
  go_loopw [6, 7] (fun vw x wr => ∃ (k : Nat) (xs : List Int), k + xs.length ≤ 6 ∧ x = .int .i64 k ∧ OInts wr w2.heap.size vw xs.length xs ∧ Cur wr w.heap.size w.heap.size ∧ Since w1.heap.size w2.heap.size w2 wr ∧ Below w.heap.size w wr) (fun _ x _ => (intOf x).toNat)
  case atStart => exact ⟨m, [], by simp; omega, rfl, Ho3.out, Hc3.out, HS3.out, Hb3.out⟩
  case round =>
    obtain ⟨k, xs, hk, rfl, hown, hcu, hsi, hbl⟩ := hrel
    obtain ⟨ao5, cap5, rfl, _⟩ := hown.form
    have Hown := Lib.hid hown
    have Hcu := Lib.hid hcu
    have Hsi := Lib.hid hsi
    have Hbl := Lib.hid hbl
    have hsw := hsi.size
    clear hown hcu hsi hbl Hc3 Hg3 Ho3 HS3 Hb3
    by_cases hk0 : 0 < k
    · go_wp2_with (first
        | (go_at_call 104; refine (l1Below_any w.heap.size w.heap.size T.length _ Hcu.out ht1 (by omega)).mono ?_; rintro e w4 ⟨y, hy, rfl, hc4, hg4⟩; have Hz4 := Lib.hid hg4.size; have Ho4 := Lib.hid (Hown.out.away hg4 (by omega)); have Hc4 := Lib.hid hc4; have Hs4 := Lib.hid (Hsi.out.apart hg4 hl1 hsw); have Hb4 := Lib.hid (Hbl.out.trans (below_of_grown hg4 (Nat.le_refl _) Hbl.out.size)); clear hc4 hg4)
        | (at_builtin; refine wpList_push_one _ _ rfl _ _ rfl w2.heap.size _ _ _ rfl Ho4.out (by omega) (Nat.le_trans hsw Hz4.out) _ rfl rfl ?_; intro v6 w6 ho6 hb6; have Ho6 := Lib.hid ho6; have Hb6 := Lib.hid hb6; clear ho6 hb6))
      go_roundw
      case rel =>
        refine ⟨k - 1, xs ++ [(y : Int)], by simp; omega, by go_num, by rw [List.length_append]; exact Ho6.out, Hc4.out.under Hb6.out (by omega), Hs4.out.under Hb6.out, Hb4.out.trans (Hb6.out.mono (by have := Hb2.out.size; omega))⟩
      case measure => simp [intOf]; omega
    · have hk00 : k = 0 := by omega
      subst hk00
      have HT := Lib.hid (Ho2.out.since Hsi.out)
      have fin : Hid (∀ {W : World} {u : Value} {ys : List Int} {e : Ending}, e = .returned (.tuple #[.slice at_ T.length capt, u]) → OIntss W w1.heap.size (.slice at_ T.length capt) T.length T → ys.length = xs.length → OInts W w2.heap.size u ys.length ys → Below w.heap.size w W →
          ∃ v T u xs, e = .returned (.tuple #[v, u]) ∧ OIntss W w.heap.size v T.length T ∧ OInts W w.heap.size u xs.length xs ∧ xs.length ≤ 6 ∧ Below w.heap.size w W) := by
        intro W u ys e he ht hy ho hb
        exact ⟨_, T, u, ys, he, ht.mono (Nat.le_of_lt hl1), ho.mono (Nat.le_trans (Nat.le_of_lt hl1) hs2), by rw [hy]; omega, hb⟩
      have Hk := Lib.hid hk
      by_cases hx : 0 < xs.length
      · have hd : decide ((0 : Int) < (xs.length : Int)) = true := decide_eq_true (by omega)
        obtain ⟨g, cg, eg⟩ := Hown.out.head hx
        injection eg with e1 e2 e3
        subst e1
        clear e2 e3
        go_wp2_with (first
          | (go_at_call 105; refine (l1Once_any w.heap.size w.heap.size 12 _ Hcu.out (by omega) (by omega)).mono ?_; rintro e w4 ⟨t4, rfl, hc4, hg4⟩; have Hz4 := Lib.hid hg4.size; have Ho4 := Lib.hid (Hown.out.away hg4 (by omega)); have Ht4 := Lib.hid (HT.out.away hg4 (by omega)); have Hs4 := Lib.hid (Hsi.out.apart hg4 hl1 hsw); have Hc4 := Lib.hid hc4; have Hb4 := Lib.hid (Hbl.out.trans (below_of_grown hg4 (Nat.le_refl _) Hbl.out.size)); clear hc4 hg4)
          | (go_at_call 104; refine (l1Below_any w.heap.size w.heap.size 6 _ Hc4.out (by omega) (by omega)).mono ?_; rintro e w5 ⟨y, hy, rfl, hc5, hg5⟩; have ho5 := Ho4.out.away hg5 (by omega); have h6 := ho5.cell 0 hx; have h7 := ho5.frozen 0; have hlo := ho5.lt; have Ho5 := Lib.hid ho5; have Hs5 := Lib.hid (Hs4.out.apart hg5 hl1 (by have := Hz4.out; omega)); have Hb5 := Lib.hid (Hb4.out.trans (below_of_grown hg5 (Nat.le_refl _) Hb4.out.size)); clear hc5 hg5 ho5))
        · go_ret2
          have hne : w2.heap.size ≤ g := hlo.1
          refine fin.out (ys := xs.set 0 ((y : Int) - 1)) (u := .slice (some ⟨g, 0, none⟩) xs.length cap5) rfl ?_ (by simp) (by rw [List.length_set]; exact Ho5.out.set 0 _) ?_
          · exact Ho2.out.since (hi_set Hs5.out hne _)
          · exact Hb5.out.setCell (by show _ ≤ g; omega) _
        · go_ret2
          exact fin.out rfl Ht4.out rfl Ho4.out Hb4.out
      · have hd : decide ((0 : Int) < (xs.length : Int)) = false := decide_eq_false (by omega)
        go_wp2_with fail
        go_ret2
        exact fin.out rfl HT.out rfl Hown.out Hbl.out
end Go.Proofs.Ytjkpndhfdlnpdaa
