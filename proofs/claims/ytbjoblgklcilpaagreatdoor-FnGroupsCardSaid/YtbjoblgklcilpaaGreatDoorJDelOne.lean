/- DelOne: a part of the proofs of this seat. -/
import Derived.Lib.SliceRun
import Derived.Test.YtbjoblgklcilpaaGreatDoorProg
import Derived.Test.YtbjoblgklcilpaaGreatDoorJG0a
namespace Go.Proofs.YtbjoblgklcilpaaGreatDoor
open Go.RowKit
set_option linter.all false
/- 'slices.DeleteFunc' of all ones of a slice of the call's own. -/
def ne1 (x : Int) : Bool := !(x == 1)
def idx1 : Nat → List Int → Int
  | _, [] => -1
  | k, x :: r => if x = 1 then (k : Int) else idx1 (k + 1) r
theorem idx1_split : ∀ (xs : List Int) (k : Nat), (idx1 k xs = -1 ∧ xs.filter ne1 = xs) ∨ ∃ i, idx1 k xs = ((k + i : Nat) : Int) ∧ i < xs.length ∧ xs.take i ++ (xs.drop (i + 1)).filter ne1 = xs.filter ne1
  | [], k => .inl ⟨rfl, rfl⟩
  | x :: r, k => by
    by_cases h : x = 1
    · right
      refine ⟨0, by simp [idx1, h], by simp, ?_⟩
      have : ne1 x = false := by simp [ne1, h]
      simp [List.filter_cons, this]
    · have hn : ne1 x = true := by simp [ne1, h]
      rcases idx1_split r (k + 1) with ⟨h1, h2⟩ | ⟨i, h1, h2, h3⟩
      · left
        refine ⟨by simp [idx1, h, h1], by simp [List.filter_cons, hn, h2]⟩
      · right
        refine ⟨i + 1, ?_, by simp; omega, ?_⟩
        · simp only [idx1, if_neg h, h1]
          congr 1
          omega
        · simp [List.filter_cons, hn, h3]
theorem idx1_step {xs : List Int} {k : Nat} {x : Int} {r : Int} (hk : xs[k]? = some x) (h : idx1 k (xs.drop k) = r) : (x = 1 → r = (k : Int)) ∧ (x ≠ 1 → idx1 (k + 1) (xs.drop (k + 1)) = r) := by
  rw [drop_of_get hk] at h
  constructor
  · intro e; simpa [idx1, e] using h.symm
  · intro e; simpa [idx1, e] using h
theorem isOne_any (x : Int) (w : World) : Calls Tryz.prog 35 #[.int .i64 x] w fun e w' => e = .returned (.bool (x == 1)) ∧ w = w' := by
  go_enter Tryz.func35, Tryz.ntmps35
  go_wp2
  go_ret
  exact ⟨rfl, rfl⟩
set_option maxHeartbeats 800000 in
theorem indexOne_any (ao : Option Addr) (n cap : Nat) (xs : List Int) (w : World) (h : Ints w ao n xs) :
    Calls Tryz.prog 59 #[.slice ao n cap, .func (.func 35) #[] #[]] w fun e w' => e = .returned (.int .i64 (idx1 0 xs)) ∧ w = w' := by
  have hm := h.2.1
  have HL : Hid (xs.length = n) := h.1
  have H := Lib.hid h
  clear h
  go_enter Tryz.func59, Tryz.ntmps59
  go_wp2_with fail
  go_loop [8] (fun v => ∃ k : Nat, k ≤ n ∧ v = .int .i64 k ∧ Hid (idx1 k (xs.drop k) = idx1 0 xs)) (fun v => n - (intOf v).toNat)
  case atStart => exact ⟨0, Nat.zero_le _, rfl, rfl⟩
  case round =>
    obtain ⟨k, hk, rfl, hr⟩ := hrel
    by_cases hlt : k < n
    · obtain ⟨b, o, x, rfl, hcell, hget⟩ := H.out.at_ hlt
      have Hst := Lib.hid (idx1_step hget.out hr.out)
      clear hget hr
      by_cases he : x = 1
      · have he1 : (x == 1) = true := by simp [he]
        have HR := Lib.hid (Hst.out.1 he)
        clear he Hst
        go_wp2_with (go_at_call 35; refine (isOne_any _ _).mono ?_; rintro e w' ⟨rfl, rfl⟩)
        go_ret
        exact ⟨ret_int HR.out.symm, rfl⟩
      · have he1 : (x == 1) = false := by simp [he]
        have HR := Lib.hid (Hst.out.2 he)
        clear he Hst
        go_wp2_with (go_at_call 35; refine (isOne_any _ _).mono ?_; rintro e w' ⟨rfl, rfl⟩)
        go_round
        case rel => exact ⟨k + 1, hlt, by go_num, HR.out⟩
        case measure => simp [intOf]; omega
    · have e : k = n := by omega
      have HR : Hid (idx1 0 xs = -1) := by have := hr.out; rw [drop_all xs k (by rw [HL.out]; omega)] at this; exact this.symm
      clear hr
      go_wp2_with fail
      go_ret
      exact ⟨ret_int HR.out.symm, rfl⟩
theorem OInts.short {w : World} {lo g n cap i : Nat} {ys : List Int} (h : OInts w lo (.slice (some ⟨g, 0, none⟩) n cap) n ys) (hi : i ≤ n) : OInts w lo (.slice (some ⟨g, 0, none⟩) i cap) i (ys.take i) := by
  have hl := h.len
  refine ⟨by have := h.1; omega, by simp [hl]; omega, ?_⟩
  rcases h.2.2 with ⟨e, _⟩ | ⟨g', c, cur, e, hg, hh, hnc, hcm, hs, ht⟩
  · cases e
  · right
    simp only [Value.slice.injEq, Option.some.injEq, Addr.mk.injEq, and_true, true_and] at e
    obtain ⟨rfl, rfl⟩ := e
    refine ⟨g, cap, cur, rfl, hg, hh, by omega, hcm, hs, ?_⟩
    rw [List.map_take, ← ht, List.take_take]
    congr 1
    omega
theorem OInts.zeros {w : World} {lo g n cap : Nat} : ∀ (m o : Nat) (w' : World) (ys : List Int), w.grownBy w' (some g) → OInts w' lo (.slice (some ⟨g, 0, none⟩) n cap) n ys →
    ∃ ys', OInts (w'.setCells g o (List.replicate m (.int .i64 0))) lo (.slice (some ⟨g, 0, none⟩) n cap) n ys' ∧ ys'.take o = ys.take o ∧ w.grownBy (w'.setCells g o (List.replicate m (.int .i64 0))) (some g)
  | 0, o, w', ys, hg, h => ⟨ys, h, rfl, hg⟩
  | m + 1, o, w', ys, hg, h => by
    obtain ⟨ys', h1, h2, h3⟩ := OInts.zeros m (o + 1) (w'.setCell ⟨g, o, none⟩ (.int .i64 0)) (ys.set o 0) (only_setCell hg rfl _) (h.set o 0)
    refine ⟨ys', h1, ?_, h3⟩
    have h4 : (ys'.take (o + 1)).take o = ((ys.set o 0).take (o + 1)).take o := by rw [h2]
    rw [List.take_take, List.take_take, Nat.min_eq_left (by omega)] at h4
    rw [h4, List.take_set_of_le (by omega)]
theorem slice_low (a : Option Addr) (len cap j : Nat) (hj : j < len) (hc : len ≤ cap) (w : World) :
    (Instr.slice 26 (.slice a len cap) (some (.int .i64 (j : Int))) none none).run Tryz.prog w = .ok (.slice (a.map (·.add j)) (len - j) (cap - j)) w := by
  rw [run_slice_l (P := Tryz.prog) w 26 a len cap (by rw [elem_ints]; exact Tryz.underlying26) .i64 (j : Int) (by omega) (by omega), elem_ints, sizeOf_int]
  simp [sliced, Result.andThen, show ¬ cap = j by omega]
theorem zero_int (w : World) : (zeroValue 3).run Tryz.prog w = .ok (.int .i64 0) w := by
  obtain ⟨i, hi, hz, _, _⟩ := info_parts info_int
  simp [zeroValue, typeInfo, hi, hz]
set_option maxHeartbeats 1600000 in
theorem delOne_any (v : Value) (n lo : Nat) (xs : List Int) (w : World) (h : OInts w lo v n xs) :
    Calls Tryz.prog 32 #[v, .func (.func 35) #[] #[]] w fun e w' => ∃ v', e = .returned v' ∧ OInts w' lo v' (xs.filter ne1).length (xs.filter ne1) ∧ Below lo w w' := by
  have hm := h.1
  have HL : Hid (xs.length = n) := h.len
  obtain ⟨ao, cap, rfl, hi⟩ := h.form
  have HI := Lib.hid hi
  have H := Lib.hid h
  have hcap : n ≤ cap := h.capLe rfl
  clear h hi
  rcases idx1_split xs 0 with ⟨hx, hf⟩ | ⟨i, hx, hil, hf⟩
  · have HF := Lib.hid hf
    have HX := Lib.hid hx
    clear hf hx
    go_enter Tryz.func32, Tryz.ntmps32
    go_wp2_with (go_at_call 59; refine (indexOne_any _ _ _ xs _ HI.out).mono ?_; rintro e w' ⟨rfl, rfl⟩; rw [HX.out])
    go_ret
    rw [HF.out, HL.out]
    exact ⟨_, rfl, H.out, Below.refl _ _⟩
  · have HF := Lib.hid hf
    have HX : Hid (idx1 0 xs = (i : Int)) := by show _ = _; rw [hx]; simp
    have hin : i < n := by rw [← HL.out]; exact hil
    clear hf hx hil
    obtain ⟨g, c', e⟩ := H.out.head (by omega)
    injection e with e1 e2 e3
    subst e1
    subst e3
    clear e2
    have hne : ((i : Int) == -1) = false := by simp
    have hsl := fun (k : Nat) (hk : k < n) => slice_low (some ⟨g, 0, none⟩) n cap k hk hcap
    have hst := fun (k : Nat) (hk : k < n) => slice_to (some ⟨g, 0, none⟩) n cap k (by omega)
    have HSL := Lib.hid hsl
    have HST := Lib.hid hst
    have hlo := H.out.lt
    clear hsl hst
    go_enter Tryz.func32, Tryz.ntmps32
    go_wp2_with (go_at_call 59; refine (indexOne_any _ _ _ xs _ HI.out).mono ?_; rintro e w' ⟨rfl, rfl⟩; rw [HX.out])
    go_loopw [5, 6] (fun vi vj wr => ∃ (i j : Nat) (ys : List Int), vi = .int .i64 i ∧ vj = .int .i64 j ∧ i < j ∧ j ≤ n ∧ OInts wr lo (.slice (some ⟨g, 0, none⟩) n cap) n ys ∧ Hid (ys.take i ++ (ys.drop j).filter ne1 = xs.filter ne1) ∧ w.grownBy wr (some g)) (fun _ vj _ => n - (intOf vj).toNat)
    case atStart => exact ⟨i, i + 1, xs, rfl, by go_num, by omega, by omega, H.out, HF.out, World.grownBy.refl _ _⟩
    case round =>
      clear HX hin hne
      obtain ⟨i, j, ys, rfl, rfl, hij, hjn, hown, hf, hgr⟩ := hrel
      have HO := Lib.hid hown
      have HG := Lib.hid hgr
      have hyl := Lib.hid hown.len
      clear hown hgr
      by_cases hlt : j < n
      · have hcj := HO.out.cell j hlt
        obtain ⟨y, hy⟩ : ∃ y, ys[j]? = some y := ⟨_, List.getElem?_eq_getElem (by rw [hyl.out]; exact hlt)⟩
        have hyd : ys.getD j 0 = y := by simp [List.getD, hy]
        rw [hyd] at hcj
        have hci := HO.out.cell i (by omega)
        have hfi := HO.out.frozen i
        have hf2 := hf.out
        rw [drop_of_get hy, List.filter_cons] at hf2
        by_cases he : y = 1
        · have he1 : (y == 1) = true := by simp [he]
          have hn1 : ne1 y = false := by simp [ne1, he]
          rw [hn1] at hf2
          have HF2 := Lib.hid hf2
          clear hf2 hn1 he hyd hf hy
          go_wp2_with (go_at_call 35; refine (isOne_any _ _).mono ?_; rintro e w' ⟨rfl, rfl⟩)
          go_roundw
          case rel => exact ⟨i, j + 1, ys, rfl, by go_num, by omega, by omega, HO.out, HF2.out, HG.out⟩
          case measure => simp [intOf]; omega
        · have he1 : (y == 1) = false := by simp [he]
          have hn1 : ne1 y = true := by simp [ne1, he]
          rw [hn1] at hf2
          have HF2 : Hid ((ys.set i y).take (i + 1) ++ ((ys.set i y).drop (j + 1)).filter ne1 = xs.filter ne1) := by
            show _ = _
            rw [← hf2]
            have h1 : (ys.set i y).take (i + 1) = ys.take i ++ [y] := by
              have h2 : (ys.set i y)[i]? = some y := by rw [List.getElem?_set, if_pos rfl, if_pos (by rw [hyl.out]; omega)]
              rw [← push_take h2, List.take_set_of_le (Nat.le_refl _)]
            have h3 : (ys.set i y).drop (j + 1) = ys.drop (j + 1) := List.drop_set_of_lt (by omega)
            rw [h1, h3]
            simp
          clear hf2 hn1 he hyd hf hy
          go_wp2_with (go_at_call 35; refine (isOne_any _ _).mono ?_; rintro e w' ⟨rfl, rfl⟩)
          go_roundw
          case rel => exact ⟨i + 1, j + 1, ys.set i y, by go_num, by go_num, by omega, by omega, HO.out.set i y, HF2.out, only_setCell HG.out rfl _⟩
          case measure => simp [intOf]; omega
      · have ej : j = n := by omega
        subst ej
        have hsl1 := HSL.out i hij
        have hst1 := HST.out i hij
        simp only [Option.map_some, Addr.add_lit, Nat.zero_add] at hsl1
        have hcl : ∀ ty, (Builtin.clear_ #[26] ty #[.slice (some ⟨g, i, none⟩) (j - i) (cap - i)]).run Tryz.prog wr = .ok (.tuple #[]) (wr.setCells g i (List.replicate (j - i) (.int .i64 0))) :=
          fun ty => Lib.run_clear_slice wr _ _ ty _ Tryz.underlying26 zero_int rfl rfl g i _ _ (by omega) (fun t ht => by rw [HO.out.cell (i + t) (by omega)]; rfl) (fun t ht => HO.out.frozen (i + t))
        obtain ⟨ys', h1, h2, h3⟩ := OInts.zeros (j - i) i wr ys HG.out HO.out
        have HY := Lib.hid (h1.short (i := i) (by omega))
        have HE : Hid (ys'.take i = xs.filter ne1) := by
          show _ = _
          rw [h2, ← hf.out, drop_all ys j (by rw [hyl.out]; exact Nat.le_refl _)]
          simp
        have HEL : Hid ((xs.filter ne1).length = i) := by show _ = _; rw [← HE.out, List.length_take, h1.len]; omega
        have HG3 := Lib.hid h3
        clear h1 h2 h3 hf HL
        go_wp2_with fail
        go_ret
        rw [HEL.out, ← HE.out]
        exact ⟨_, rfl, HY.out, (Below.refl lo w).grown HG3.out (by omega) (fun k hk => by injection hk with hk; subst hk; exact hlo.1)⟩
end Go.Proofs.YtbjoblgklcilpaaGreatDoor
