/- Parts of the proof of a law, joined: DelPart IPartsOf SFill17 SPartsOf OrbT STrace SL4One SJoinT SMinor SJoinOut Rooted FRmath FRlist Trace SplL. -/
import Derived.Lib.SliceRun
import Derived.BigQuiet
import Derived.Test.YtblkgkgopneleaaProg
import Derived.Deep.RegionLaw
import Derived.StillTailTactics
import Derived.Test.YtblkgkgopneleaaBG0b
import Derived.Test.YtblkgkgopneleaaBG0a
namespace Go.Proofs.Ytblkgkgopneleaa
open Go.RowKit
set_option linter.all false
/- 'slices.DeleteFunc' of lists of which the sum is 0 or that of a row: what is left reads as the filtered list. -/
def dropP (row l : List Int) : Bool := (isum 0 l == 0) || (isum 0 l == isum 0 row)
def idxL (q : List Int → Bool) : Nat → List (List Int) → Int
  | _, [] => -1
  | k, x :: r => if q x then (k : Int) else idxL q (k + 1) r
theorem idxL_split (q : List Int → Bool) : ∀ (xs : List (List Int)) (k : Nat), (idxL q k xs = -1 ∧ xs.filter (fun l => !q l) = xs) ∨ ∃ i, idxL q k xs = ((k + i : Nat) : Int) ∧ i < xs.length ∧ xs.take i ++ (xs.drop (i + 1)).filter (fun l => !q l) = xs.filter (fun l => !q l)
  | [], k => .inl ⟨rfl, rfl⟩
  | x :: r, k => by
    cases h : q x
    · rcases idxL_split q r (k + 1) with ⟨h1, h2⟩ | ⟨i, h1, h2, h3⟩
      · left
        refine ⟨by simp [idxL, h, h1], by simp [List.filter_cons, h, h2]⟩
      · right
        refine ⟨i + 1, ?_, by simp; omega, ?_⟩
        · simp only [idxL, h, h1]
          simp
          omega
        · simp [List.filter_cons, h, h3]
    · right
      refine ⟨0, by simp [idxL, h], by simp, ?_⟩
      simp [List.filter_cons, h]
theorem idxL_step {q : List Int → Bool} {xs : List (List Int)} {k : Nat} {x : List Int} {r : Int} (hk : xs[k]? = some x) (h : idxL q k (xs.drop k) = r) : (q x = true → r = (k : Int)) ∧ (q x = false → idxL q (k + 1) (xs.drop (k + 1)) = r) := by
  rw [drop_of_get hk] at h
  constructor
  · intro e; simpa [idxL, e] using h.symm
  · intro e; simpa [idxL, e] using h
set_option maxHeartbeats 1600000 in
theorem closeP_any (gb : Nat) (p : Option Addr) (N c : Nat) (row : List Int) (a : Option Addr) (n c' : Nat) (l : List Int) (w : World) (hb : w.cell? ⟨gb, 0, none⟩ = some (.slice p N c)) (hr : Ints w p N row) (hl : Ints w a n l) :
    Calls Try.prog 82 #[.slice a n c', .pointer (some ⟨gb, 0, none⟩)] w fun e w' => e = .returned (.bool (dropP row l)) ∧ Drew w w' := by
  have HR := Lib.hid hr
  have HL := Lib.hid hl
  clear hr hl
  cases h0 : (isum 0 l == 0)
  · have hg : Hid (dropP row l = (isum 0 l == isum 0 row)) := by show _ = _; unfold dropP; rw [h0]; rfl
    go_enter Try.func82, Try.ntmps82
    go_wp2_with fail
    go_quiet ((go_at_call 83; first | exact quiet_La (total_any _ _ _ l _ (HL.out.drewN _)) | exact quiet_La (total_any _ _ _ row _ (HR.out.drewN _)) | exact quiet_L (total_any _ _ _ l _ (HL.out.drewN _)) | exact quiet_L (total_any _ _ _ row _ (HR.out.drewN _))))
    go_wp2_with fail
    go_ret
    exact ⟨ret_bool hg.out.symm, (by first | exact Drew.refl _ | exact Drew.mk _ _ | exact (Drew.mk _ _).drewN _)⟩
  · have hg : Hid (dropP row l = true) := by show _ = _; unfold dropP; rw [h0]; rfl
    go_enter Try.func82, Try.ntmps82
    go_wp2_with fail
    go_quiet ((go_at_call 83; first | exact quiet_La (total_any _ _ _ l _ (HL.out.drewN _)) | exact quiet_L (total_any _ _ _ l _ (HL.out.drewN _))))
    go_wp2_with fail
    go_ret
    exact ⟨ret_bool hg.out.symm, (by first | exact Drew.refl _ | exact Drew.mk _ _ | exact (Drew.mk _ _).drewN _)⟩
set_option maxHeartbeats 1600000 in
theorem indexP_any (gb : Nat) (p : Option Addr) (N c : Nat) (row : List Int) (ao : Option Addr) (n cap : Nat) (xss : List (List Int)) (w : World) (hb : w.cell? ⟨gb, 0, none⟩ = some (.slice p N c)) (hr : Ints w p N row) (h : Intss w ao n xss) :
    Calls Try.prog 105 #[.slice ao n cap, .func (.func 82) #[] #[.pointer (some ⟨gb, 0, none⟩)]] w fun e w' => e = .returned (.int .i64 (idxL (dropP row) 0 xss)) ∧ Drew w w' := by
  have hm := h.2.1
  have HL : Hid (xss.length = n) := h.1
  have H := Lib.hid h
  have HR := Lib.hid hr
  have HB := Lib.hid hb
  clear h hr hb
  go_enter Try.func105, Try.ntmps105
  go_wp2_with fail
  go_loopw [8] (fun v wr => ∃ k : Nat, k ≤ n ∧ v = .int .i64 k ∧ Hid (idxL (dropP row) k (xss.drop k) = idxL (dropP row) 0 xss) ∧ Drew w wr) (fun v _ => n - (intOf v).toNat)
  case atStart => exact ⟨0, Nat.zero_le _, rfl, rfl, Drew.refl _⟩
  case round =>
    obtain ⟨k, hk, rfl, hr, ⟨dn, rfl⟩⟩ := hrel
    by_cases hlt : k < n
    · obtain ⟨b, o, ai, ci, r, rfl, hcell, hrow, hget⟩ := H.out.at_ hlt
      have Hst := Lib.hid (idxL_step hget.out hr.out)
      have Hrow := Lib.hid hrow
      clear hget hr hrow
      cases he : dropP row r
      · have HRR := Lib.hid (Hst.out.2 he)
        have HE := Lib.hid he
        clear he Hst
        go_wp2_with (go_at_call 82; refine (closeP_any gb p N c row _ _ _ r (w.drewN dn) HB.out (HR.out.drewN dn) (Hrow.out.drewN dn)).mono ?_; rw [HE.out]; rintro e w' ⟨rfl, ⟨m1, rfl⟩⟩)
        go_roundw
        case rel => exact ⟨k + 1, hlt, by go_num, HRR.out, by first | exact Drew.mk _ _ | exact (Drew.mk _ _).drewN _⟩
        case measure => simp [intOf]; omega
      · have HRR := Lib.hid (Hst.out.1 he)
        have HE := Lib.hid he
        clear he Hst
        go_wp2_with (go_at_call 82; refine (closeP_any gb p N c row _ _ _ r (w.drewN dn) HB.out (HR.out.drewN dn) (Hrow.out.drewN dn)).mono ?_; rw [HE.out]; rintro e w' ⟨rfl, ⟨m1, rfl⟩⟩)
        go_ret
        exact ⟨ret_int HRR.out.symm, by first | exact Drew.mk _ _ | exact (Drew.mk _ _).drewN _⟩
    · have e : k = n := by omega
      have HRR : Hid (idxL (dropP row) 0 xss = -1) := by have := hr.out; rw [drop_all xss k (by rw [HL.out]; omega)] at this; exact this.symm
      clear hr
      go_wp2_with fail
      go_ret
      exact ⟨ret_int HRR.out.symm, Drew.mk _ _⟩
/-- The value u reads as the list r in all worlds that have grown from w by the block g alone. -/
def RV (w : World) (g : Nat) (u : Value) (r : List Int) : Prop := ∃ ai ci, u = .slice ai r.length ci ∧ r.length ≤ ci ∧ ∀ wr, w.grownBy wr (some g) → Ints wr ai r.length r
theorem OIntss.rvs {w : World} {lo g n cap : Nat} {xss : List (List Int)} (h : OIntss w lo (.slice (some ⟨g, 0, none⟩) n cap) n xss) : ∃ ys : List Value, w.ownsRow lo 42 1 (.slice (some ⟨g, 0, none⟩) n cap) n ys ∧ ys.length = n ∧ ∀ (k : Nat) (u : Value) (r : List Int), ys[k]? = some u → xss[k]? = some r → RV w g u r := by
  obtain ⟨h1, h2, vs, hv, hr, hd⟩ := h
  refine ⟨vs, hv, by simpa using hv.1, fun k u r hu hx => ?_⟩
  have ho := hr k u r hu hx
  obtain ⟨ai, ci, e, _⟩ := ho.form
  refine ⟨ai, ci, e, ho.capLe e, fun wr hg => ?_⟩
  have hne : u.ownBlock = none ∨ u.ownBlock ≠ some g := own_int_ne ho hv
  have h9 := ho.grown hg hne
  rw [e] at h9
  obtain ⟨a9, c9, e9, hi⟩ := h9.form
  injection e9 with e9
  subst e9
  exact hi
theorem zero_ints (w : World) : (zeroValue 42).run Try.prog w = .ok (.slice none 0 0) w := by
  obtain ⟨i, hi, hz, _, _⟩ := info_parts info_ints
  simp [zeroValue, typeInfo, hi, hz]
theorem own_zeros {w : World} {lo g n cap : Nat} : ∀ (m o : Nat) (w' : World) (ys : List Value), w.grownBy w' (some g) → w'.ownsRow lo 42 1 (.slice (some ⟨g, 0, none⟩) n cap) n ys →
    ∃ ys', (w'.setCells g o (List.replicate m (.slice none 0 0))).ownsRow lo 42 1 (.slice (some ⟨g, 0, none⟩) n cap) n ys' ∧ ys'.take o = ys.take o ∧ w.grownBy (w'.setCells g o (List.replicate m (.slice none 0 0))) (some g)
  | 0, o, w', ys, hg, h => ⟨ys, h, rfl, hg⟩
  | m + 1, o, w', ys, hg, h => by
    obtain ⟨ys', h1, h2, h3⟩ := own_zeros m (o + 1) (w'.setCell ⟨g, o, none⟩ (.slice none 0 0)) (ys.set o (.slice none 0 0)) (only_setCell hg rfl _) (h.stored o _).1
    refine ⟨ys', h1, ?_, h3⟩
    have h4 : (ys'.take (o + 1)).take o = ((ys.set o (.slice none 0 0)).take (o + 1)).take o := by rw [h2]
    rw [List.take_take, List.take_take, Nat.min_eq_left (by omega)] at h4
    rw [h4, List.take_set_of_le (by omega)]
theorem slice_low2 (a : Option Addr) (len cap j : Nat) (hj : j < len) (hc : len ≤ cap) (w : World) :
    (Instr.slice 46 (.slice a len cap) (some (.int .i64 (j : Int))) none none).run Try.prog w = .ok (.slice (a.map (·.add j)) (len - j) (cap - j)) w := by
  rw [run_slice_l (P := Try.prog) w 46 a len cap (by rw [elem_intss]; exact Try.underlying46) .i64 (j : Int) (by omega) (by omega), elem_intss, sizeOf_ints]
  simp [sliced, Result.andThen, show ¬ cap = j by omega]
set_option maxRecDepth 20000 in
set_option maxHeartbeats 3200000 in
theorem delP_any (gb : Nat) (p : Option Addr) (N c : Nat) (row : List Int) (v : Value) (n lo : Nat) (xss : List (List Int)) (w : World) (hgb : gb < lo) (hb : w.cell? ⟨gb, 0, none⟩ = some (.slice p N c)) (hr : ∀ W, Below lo w W → Ints W p N row) (h : OIntss w lo v n xss) (hlo : lo ≤ w.heap.size) :
    Calls Try.prog 81 #[v, .func (.func 82) #[] #[.pointer (some ⟨gb, 0, none⟩)]] w fun e w' => ∃ ao m c', e = .returned (.slice ao m c') ∧ (Intss w' ao m (xss.filter fun l => !dropP row l) ∧ Below lo w w') := by
  have hm := h.1
  have HL : Hid (xss.length = n) := h.len
  obtain ⟨ao, cap, rfl, hi⟩ := h.form
  have HI := Lib.hid hi
  have H := Lib.hid h
  have hcap : n ≤ cap := Intss.capLe h rfl
  have HR := Lib.hid hr
  have HB := Lib.hid hb
  clear h hi hr hb
  rcases idxL_split (dropP row) xss 0 with ⟨hx, hf⟩ | ⟨i, hx, hil, hf⟩
  · have HF := Lib.hid hf
    have HX := Lib.hid hx
    clear hf hx
    go_enter Try.func81, Try.ntmps81
    go_wp2_with (go_at_call 105; refine (indexP_any gb p N c row _ _ _ xss _ HB.out (HR.out _ (Below.refl _ _)) HI.out).mono ?_; rw [HX.out]; rintro e w' ⟨rfl, ⟨m1, rfl⟩⟩)
    go_ret
    rw [HF.out]
    exact ⟨_, _, _, rfl, HI.out, below_drewN (Below.refl _ _) _⟩
  · have HF := Lib.hid hf
    have HX : Hid (idxL (dropP row) 0 xss = (i : Int)) := by show _ = _; rw [hx]; simp
    have hin : i < n := by rw [← HL.out]; exact hil
    clear hf hx hil
    obtain ⟨g, c', e⟩ := H.out.head (by omega)
    injection e with e1 e2 e3
    subst e1
    subst e3
    clear e2
    have hne : ((i : Int) == -1) = false := by simp
    have HSL := Lib.hid (fun (k : Nat) (hk : k < n) => slice_low2 (some ⟨g, 0, none⟩) n cap k hk hcap)
    have HST := Lib.hid (fun (k : Nat) (hk : k < n) => slice_to2 (some ⟨g, 0, none⟩) n cap k (by omega))
    have hglo := H.out.lt
    obtain ⟨ys0, hys0, hyl0, hrv0⟩ := H.out.rvs
    have HY0 := Lib.hid hys0
    have HV0 := Lib.hid hrv0
    have hgne : ¬ gb = g := by omega
    clear hys0 hrv0
    go_enter Try.func81, Try.ntmps81
    go_wp2_with (go_at_call 105; refine (indexP_any gb p N c row _ _ _ xss _ HB.out (HR.out _ (Below.refl _ _)) HI.out).mono ?_; rw [HX.out]; rintro e w' ⟨rfl, ⟨m1, rfl⟩⟩)
    go_loopw [5, 6] (fun vi vj wr => ∃ (i j : Nat) (ys : List Value) (zs : List (List Int)), vi = .int .i64 i ∧ vj = .int .i64 j ∧ i < j ∧ j ≤ n ∧ wr.ownsRow lo 42 1 (.slice (some ⟨g, 0, none⟩) n cap) n ys ∧ Hid (ys.length = n) ∧ Hid (zs.length = n) ∧ Hid (∀ (k : Nat) (u : Value) (r : List Int), ys[k]? = some u → zs[k]? = some r → RV w g u r) ∧ Hid (zs.take i ++ (zs.drop j).filter (fun l => !dropP row l) = xss.filter (fun l => !dropP row l)) ∧ w.grownBy wr (some g)) (fun _ vj _ => n - (intOf vj).toNat)
    case atStart => exact ⟨i, i + 1, ys0, xss, rfl, by go_num, by omega, by omega, HY0.out, hyl0, HL, HV0, HF, grown_drewN (World.grownBy.refl _ _) _⟩
    case round =>
      clear HX hin hne HY0 HV0 HF
      obtain ⟨i, j, ys, zs, rfl, rfl, hij, hjn, hown, hyl, hzl, hrv, hf, hgr⟩ := hrel
      have HO := Lib.hid hown
      have HG := Lib.hid hgr
      have HBL : Hid (Below lo w wr) := (Below.refl lo w).grown hgr hlo (fun b hb => by injection hb with hb; omega)
      have HBr : Hid (wr.cell? ⟨gb, 0, none⟩ = some (.slice p N c)) := (HBL.out.cell (p := ⟨gb, 0, none⟩) hgb).trans HB.out
      have HRr := Lib.hid (HR.out wr HBL.out)
      clear hown hgr
      by_cases hlt : j < n
      · obtain ⟨u, hu⟩ : ∃ u, ys[j]? = some u := ⟨_, List.getElem?_eq_getElem (by rw [hyl.out]; exact hlt)⟩
        obtain ⟨r, hr⟩ : ∃ r, zs[j]? = some r := ⟨_, List.getElem?_eq_getElem (by rw [hzl.out]; exact hlt)⟩
        have hrv1 := hrv.out j u r hu hr
        obtain ⟨ai, ci, rfl, hrc, hri⟩ := hrv1
        have hcj := HO.out.cells (g := g) rfl j _ hu
        rw [Addr.add_lit] at hcj
        simp only [Nat.zero_add] at hcj
        obtain ⟨u2, hu2⟩ : ∃ u2, ys[i]? = some u2 := ⟨_, List.getElem?_eq_getElem (by rw [hyl.out]; omega)⟩
        have hci := HO.out.cells (g := g) rfl i _ hu2
        rw [Addr.add_lit] at hci
        simp only [Nat.zero_add] at hci
        have hfi := HO.out.frozenAt i
        have Hri := Lib.hid (hri wr HG.out)
        have Hhri := Lib.hid hri
        have hf2 := hf.out
        rw [drop_of_get hr, List.filter_cons] at hf2
        have hin : i < n := by omega
        cases he : dropP row r
        · rw [he] at hf2
          have HF2 : Hid ((zs.set i r).take (i + 1) ++ ((zs.set i r).drop (j + 1)).filter (fun l => !dropP row l) = xss.filter (fun l => !dropP row l)) := by
            show _ = _
            rw [← hf2]
            have h1 : (zs.set i r).take (i + 1) = zs.take i ++ [r] := by
              have h2 : (zs.set i r)[i]? = some r := by rw [List.getElem?_set, if_pos rfl, if_pos (by rw [hzl.out]; omega)]
              rw [← push_take h2, List.take_set_of_le (Nat.le_refl _)]
            have h3 : (zs.set i r).drop (j + 1) = zs.drop (j + 1) := List.drop_set_of_lt (by omega)
            rw [h1, h3]
            simp
          have HE := Lib.hid he
          have HU := Lib.hid hu
          have HZ := Lib.hid hr
          have HRV2 : Hid (∀ (k : Nat) (u : Value) (s : List Int), (ys.set i (.slice ai r.length ci))[k]? = some u → (zs.set i r)[k]? = some s → RV w g u s) := by
            intro k u s h1 h2
            rw [List.getElem?_set] at h1 h2
            by_cases e : i = k
            · rw [if_pos e] at h1 h2
              split at h1 <;> split at h2
              · injection h1 with h1
                injection h2 with h2
                subst h1
                subst h2
                exact ⟨ai, ci, rfl, hrc, Hhri.out⟩
              all_goals first | (exfalso; simp at h2; done) | (exfalso; simp at h1; done)
            · rw [if_neg e] at h1 h2
              exact hrv.out k u s h1 h2
          clear hf2 he hf hu hr hri hu2
          go_wp2_with (go_at_call 82; refine (closeP_any gb p N c row _ _ _ r _ HBr.out HRr.out Hri.out).mono ?_; rw [HE.out]; rintro e w' ⟨rfl, ⟨m2, rfl⟩⟩)
          go_roundw
          case rel => exact ⟨i + 1, j + 1, ys.set i _, zs.set i r, by go_num, by go_num, by omega, by omega, (World.ownsRow.stored (w := wr.drewN m2) HO.out i _).1, (by show _ = _; rw [List.length_set]; exact hyl.out), (by show _ = _; rw [List.length_set]; exact hzl.out), HRV2, HF2, only_setCell (grown_drewN HG.out m2) rfl _⟩
          case measure => simp [intOf]; omega
        · rw [he] at hf2
          have HF2 := Lib.hid hf2
          have HE := Lib.hid he
          clear hf2 he hf hu hr hri hu2
          go_wp2_with (go_at_call 82; refine (closeP_any gb p N c row _ _ _ r _ HBr.out HRr.out Hri.out).mono ?_; rw [HE.out]; rintro e w' ⟨rfl, ⟨m2, rfl⟩⟩)
          go_roundw
          case rel => exact ⟨i, j + 1, ys, zs, rfl, by go_num, by omega, by omega, HO.out, hyl, hzl, hrv, HF2, grown_drewN HG.out m2⟩
          case measure => simp [intOf]; omega
      · have ej : j = n := by omega
        subst ej
        have hsl1 := HSL.out i hij
        have hst1 := HST.out i hij
        simp only [Option.map_some, Addr.add_lit, Nat.zero_add] at hsl1
        have hcl : ∀ ty, (Builtin.clear_ #[46] ty #[.slice (some ⟨g, i, none⟩) (j - i) (cap - i)]).run Try.prog wr = .ok (.tuple #[]) (wr.setCells g i (List.replicate (j - i) (.slice none 0 0))) :=
          fun ty => Lib.run_clear_slice wr _ _ ty _ Try.underlying46 zero_ints rfl rfl g i _ _ (by omega) (fun t ht => by
            obtain ⟨u, hu⟩ : ∃ u, ys[i + t]? = some u := ⟨_, List.getElem?_eq_getElem (by rw [hyl.out]; omega)⟩
            have := HO.out.cells (g := g) rfl (i + t) _ hu
            rw [Addr.add_lit] at this
            simp only [Nat.zero_add] at this
            rw [this]; rfl) (fun t ht => HO.out.frozenAt (i + t))
        obtain ⟨ys', h1, h2, h3⟩ := own_zeros (j - i) i wr ys HG.out HO.out
        have HY := Lib.hid h1
        have HG3 := Lib.hid h3
        have HE : Hid (zs.take i = xss.filter (fun l => !dropP row l)) := by
          show _ = _
          rw [← hf.out, drop_all zs j (by rw [hzl.out]; exact Nat.le_refl _)]
          simp
        have HRD : Hid (Intss (wr.setCells g i (List.replicate (j - i) (.slice none 0 0))) (some ⟨g, 0, none⟩) i (zs.take i)) := by
          refine ⟨by rw [List.length_take, hzl.out]; omega, by omega, fun k r hk => ?_⟩
          rw [List.getElem?_take] at hk
          split at hk
          · rename_i hki
            obtain ⟨u, hu⟩ : ∃ u, ys[k]? = some u := ⟨_, List.getElem?_eq_getElem (by rw [hyl.out]; omega)⟩
            obtain ⟨ai, ci, rfl, hrc, hri⟩ := hrv.out k u r hu hk
            have hu' : ys'[k]? = some (.slice ai r.length ci) := by
              have h4 : (ys'.take i)[k]? = (ys.take i)[k]? := by rw [h2]
              rw [List.getElem?_take, List.getElem?_take, if_pos hki, if_pos hki, hu] at h4
              exact h4
            have hc9 := HY.out.cells (g := g) rfl k _ hu'
            rw [Addr.add_lit] at hc9
            exact ⟨g, 0, ai, ci, rfl, hc9, hri _ HG3.out, hrc⟩
          · cases hk
        clear h1 h2 h3 hf HL hrv
        go_wp2_with fail
        go_ret
        rw [← HE.out]
        exact ⟨_, _, _, rfl, HRD.out, (Below.refl lo w).grown HG3.out hlo (fun b hb => by injection hb with hb; omega)⟩
end Go.Proofs.Ytblkgkgopneleaa

namespace Go.Proofs.Ytblkgkgopneleaa
open Go.RowKit
set_option linter.all false
theorem OIntss.one_ (w : World) (lo : Nat) (hlo : lo ≤ w.heap.size) : OIntss ((w.alloc (.cells #[] 3)).alloc (.cells #[.slice (some ⟨w.heap.size, 0, none⟩) 0 0] 42)) lo (.slice (some ⟨w.heap.size + 1, 0, none⟩) 1 1) 1 [[]] := by
  have hs : (w.alloc (.cells #[] 3)).heap.size = w.heap.size + 1 := by simp
  have ho := World.ownsRow_lit (base := lo) (e := 42) (size := 1) (w.alloc (.cells #[] 3)) #[.slice (some ⟨w.heap.size, 0, none⟩) 0 0] 1 (by simp; omega) (by unfold maxLen; omega) (by simp)
  rw [hs] at ho
  refine ⟨by omega, rfl, _, ho, fun i u r hu hx => ?_, fun i j u u' hij h1 h2 => ?_⟩
  · match i, hu, hx with
    | 0, hu, hx =>
      simp at hu hx
      subst hu
      subst hx
      exact ((OInts.empty w w.heap.size (Nat.le_refl _)).alloc _).mono hlo
  · have := (List.getElem?_eq_some_iff.1 h1).1
    have := (List.getElem?_eq_some_iff.1 h2).1
    simp at *
    omega
def extP (x : Nat) (hd : List Int) : List (List Int) := (List.range' 0 (x + 1)).map fun (y : Nat) => hd ++ [(y : Int)]
theorem fillP_ext (x : Nat) (r hd : List Int) : fillP ((x : Int) :: r) hd = (extP x hd).flatMap (fillP r) := by
  simp only [fillP, extP, List.flatMap_map, Int.toNat_natCast]
theorem extP_flat {x : Nat} {r : List Int} {cur R : List (List Int)} (h : cur.flatMap (fillP ((x : Int) :: r)) = R) : (cur.flatMap (extP x)).flatMap (fillP r) = R := by
  rw [List.flatMap_assoc, ← h]
  congr 1
  funext hd
  exact (fillP_ext x r hd).symm
theorem extP_len (x : Nat) (hd : List Int) : (extP x hd).length = x + 1 := by simp [extP]
theorem flat_len {cur : List (List Int)} {x a : Nat} (h : cur.length ≤ 4 ^ a) (hx : x ≤ 3) : (cur.flatMap (extP x)).length ≤ 4 ^ (a + 1) := by
  have h1 : (cur.flatMap (extP x)).length = cur.length * (x + 1) := by
    clear h
    induction cur with
    | nil => simp
    | cons c cur ih => rw [List.flatMap_cons, List.length_append, extP_len, ih, List.length_cons, Nat.add_mul]; omega
  rw [h1, Nat.pow_succ]
  exact Nat.mul_le_mul h (by omega)
theorem flat_mem {cur : List (List Int)} {x a : Nat} (h : ∀ p ∈ cur, p.length = a) : ∀ p ∈ cur.flatMap (extP x), p.length = a + 1 := by
  intro p hp
  obtain ⟨q, hq, hp⟩ := List.mem_flatMap.1 hp
  obtain ⟨y, _, rfl⟩ := List.mem_map.1 hp
  rw [List.length_append, h q hq]
  rfl
theorem curP_step {x k : Nat} {cur lg nxt : List (List Int)} {hd : List Int} (hg : cur[k]? = some hd) (h : lg ++ (cur.drop k).flatMap (extP x) = nxt) : lg ++ ((List.range' 0 (x + 1 - 0)).flatMap (fun (y : Nat) => [hd ++ [(y : Int)]]) ++ (cur.drop (k + 1)).flatMap (extP x)) = nxt := by
  rw [drop_of_get hg, List.flatMap_cons] at h
  rw [← h, Nat.sub_zero, extP, List.map_eq_flatMap]
theorem parP_step {x b : Nat} {lg nxt Z : List (List Int)} {hd : List Int} (hb : b < x + 1) (h : lg ++ ((List.range' b (x + 1 - b)).flatMap (fun (y : Nat) => [hd ++ [(y : Int)]]) ++ Z) = nxt) : (lg ++ [hd ++ [(b : Int)]]) ++ ((List.range' (b + 1) (x + 1 - (b + 1))).flatMap (fun (y : Nat) => [hd ++ [(y : Int)]]) ++ Z) = nxt := by
  rw [show x + 1 - b = (x + 1 - (b + 1)) + 1 by omega, List.range'_succ, List.flatMap_cons] at h
  simpa using h
theorem parP_end {x b : Nat} {lg nxt Z : List (List Int)} {hd : List Int} (hb : x + 1 ≤ b) (h : lg ++ ((List.range' b (x + 1 - b)).flatMap (fun (y : Nat) => [hd ++ [(y : Int)]]) ++ Z) = nxt) : lg ++ Z = nxt := by
  rw [show x + 1 - b = 0 by omega] at h
  simpa using h
set_option maxRecDepth 20000 in
set_option maxHeartbeats 6400000 in
theorem iPartsOf_any (p : Option Addr) (n c : Nat) (row : List Int) (w : World) (h : Ints w p n row) :
    Calls Try.prog 39 #[.slice p n c] w (readP w (partsV row)) := by
  have HL : Hid (row.length = n) := h.1
  have hm := h.2.1
  have hB1 : Below w.heap.size w (w.alloc (.cells #[.slice p n c] 42)) := (Below.refl _ _).alloc (Nat.le_refl _) _
  have HBox : Hid ((w.alloc (.cells #[.slice p n c] 42)).cell? ⟨w.heap.size, 0, none⟩ = some (.slice p n c)) := World.cell?_alloc_new _ _ _ _
  have H := Lib.hid (h.keep hB1)
  have HB1 := Lib.hid hB1
  have HP : Hid (partsOk row = (decide (n ≤ 4) && allIn 0 3 row)) := by show _ = _; unfold partsOk; rw [h.1]
  have hs1 : (w.alloc (.cells #[.slice p n c] 42)).heap.size = w.heap.size + 1 := by simp
  have HS1 := Lib.hid hs1
  clear h hB1 hs1
  by_cases h4 : 4 < n
  · have hv : Hid (partsV row = []) := by show _ = _; unfold partsV; rw [HP.out, decide_eq_false (by omega)]; simp
    have hd4 : decide ((4 : Int) < (n : Int)) = true := decide_eq_true (by omega)
    go_enter Try.func39, Try.ntmps39
    go_wp2_with fail
    go_ret
    rw [hv.out]
    exact ⟨_, _, _, rfl, ⟨rfl, by omega, fun i r hi => by simp at hi⟩, HB1.out⟩
  have hd4 : decide ((4 : Int) < (n : Int)) = false := decide_eq_false (by omega)
  have hn4 : n ≤ 4 := by omega
  have hq0 := HBox.out
  have HONE := Lib.hid (OIntss.one_ (w.alloc (.cells #[.slice p n c] 42)) (w.alloc (.cells #[.slice p n c] 42)).heap.size (Nat.le_refl _))
  have HB3 : Hid (Below (w.alloc (.cells #[.slice p n c] 42)).heap.size (w.alloc (.cells #[.slice p n c] 42)) (((w.alloc (.cells #[.slice p n c] 42)).alloc (.cells #[] 3)).alloc (.cells #[.slice (some ⟨(w.alloc (.cells #[.slice p n c] 42)).heap.size, 0, none⟩) 0 0] 42))) := ((Below.refl _ _).alloc (Nat.le_refl _) _).alloc (by simp) _
  have h1' := HONE.out
  have h3' := HB3.out
  rw [HS1.out] at h1' h3'
  have HONE' := Lib.hid h1'
  have HB3' := Lib.hid h3'
  clear h1' h3' HONE HB3
  go_enter Try.func39, Try.ntmps39
  go_wp2_with fail
  generalize hw1 : w.alloc (.cells #[.slice p n c] 42) = w1 at *
  have HW1 := Lib.hid hw1
  generalize hw3 : (w1.alloc (.cells #[] 3)).alloc (.cells #[.slice (some ⟨w.heap.size + 1, 0, none⟩) 0 0] 42) = w3 at HONE' HB3' ⊢
  have hs1 := HS1.out
  clear hw1 hw3 hq0
  rw [← hs1] at HONE' HB3'
  have HR0 : Hid ([[]].flatMap (fillP (row.drop 0)) = fillP row []) := by show _ = _; simp
  go_loopw [3, 17] (fun v x wr => ∃ (a : Nat) (cur : List (List Int)), a ≤ n ∧ x = .int .i64 a ∧ OIntss wr w1.heap.size v cur.length cur ∧ Hid (cur.flatMap (fillP (row.drop a)) = fillP row []) ∧ Hid (∀ q ∈ cur, q.length = a) ∧ Hid (cur.length ≤ 4 ^ a) ∧ Hid (allIn 0 3 (row.drop a) = allIn 0 3 row) ∧ Below w1.heap.size w1 wr) (fun _ x _ => n - (intOf x).toNat)
  case atStart => exact ⟨0, [[]], Nat.zero_le _, rfl, by rw [← hs1]; exact HONE'.out, HR0, (fun q hq => by simp at hq; subst hq; rfl), (by show _ ≤ _; simp), rfl, HB3'.out⟩
  case round =>
    obtain ⟨a, cur, ha, rfl, hown, heq, hmem, hcl, hall, hbl⟩ := hrel
    obtain ⟨wo, rfl⟩ : ∃ wo : World, wo = wr := ⟨_, rfl⟩
    obtain ⟨ao, cap, rfl, hci⟩ := hown.form
    have Hown := Lib.hid hown
    have Hbl := Lib.hid hbl
    have HCI := Lib.hid hci
    have HRo := Lib.hid (H.out.keep hbl)
    clear hown hbl hci HR0 HONE' HB3'
    by_cases hlt : a < n
    · obtain ⟨b1, o1, x, rfl, hcx, hgx⟩ := HRo.out.at_ hlt
      have HST := Lib.hid (allIn_step hgx.out hall.out)
      by_cases hx0 : x < 0
      · have hv : Hid (partsV row = []) := by show _ = _; unfold partsV; rw [HP.out, HST.out.2 (inR_no (.inl hx0))]; simp
        have hd0 : decide (x < 0) = true := decide_eq_true hx0
        clear hgx HST
        go_wp2_with fail
        go_ret
        rw [hv.out]
        exact ⟨_, _, _, rfl, ⟨rfl, by omega, fun i r hi => by simp at hi⟩, HB1.out.trans (Hbl.out.mono HB1.out.size)⟩
      have hd0 : decide (x < 0) = false := decide_eq_false hx0
      by_cases hx3 : 3 < x
      · have hv : Hid (partsV row = []) := by show _ = _; unfold partsV; rw [HP.out, HST.out.2 (inR_no (.inr hx3))]; simp
        have hd3 : decide (3 < x) = true := decide_eq_true hx3
        clear hgx HST
        go_wp2_with fail
        go_ret
        rw [hv.out]
        exact ⟨_, _, _, rfl, ⟨rfl, by omega, fun i r hi => by simp at hi⟩, HB1.out.trans (Hbl.out.mono HB1.out.size)⟩
      have hd3 : decide (3 < x) = false := decide_eq_false hx3
      obtain ⟨y, rfl⟩ := Int.eq_ofNat_of_zero_le (show 0 ≤ x by omega)
      have hy3 : y ≤ 3 := by omega
      have HAL : Hid (allIn 0 3 (row.drop (a + 1)) = allIn 0 3 row) := HST.out.1 (inR_mk ⟨by omega, by omega⟩)
      have heq2 := heq.out
      rw [drop_of_get hgx.out] at heq2
      have HNF := Lib.hid (extP_flat heq2)
      have HNM : Hid (∀ q ∈ cur.flatMap (extP y), q.length = a + 1) := flat_mem hmem.out
      have HNL : Hid ((cur.flatMap (extP y)).length ≤ 4 ^ (a + 1)) := flat_len hcl.out hy3
      have HNX : Hid ((cur.flatMap (extP y)).length ≤ 1024) := Nat.le_trans HNL.out (Nat.le_trans (Nat.pow_le_pow_right (by omega) (show a + 1 ≤ 5 by omega)) (by decide))
      have hcur : cur.length ≤ 1024 := Nat.le_trans hcl.out (Nat.le_trans (Nat.pow_le_pow_right (by omega) (show a ≤ 5 by omega)) (by decide))
      have HS0 : Hid ([] ++ (cur.drop 0).flatMap (extP y) = cur.flatMap (extP y)) := by show _ = _; simp
      generalize cur.flatMap (extP y) = nxt at HNF HNM HNL HNX HS0
      have HE0 := Lib.hid (OIntss.empty wo wo.heap.size (Nat.le_refl _))
      have HBE0 := Lib.hid ((Below.refl wo.heap.size wo).alloc (Nat.le_refl _) (.cells #[] 42))
      clear heq heq2 HST hgx hx0 hx3
      go_wp2_with fail
      go_loopw [6, 30] (fun v x wr => ∃ (k : Nat) (lg : List (List Int)), k ≤ cur.length ∧ x = .int .i64 k ∧ OIntss wr wo.heap.size v lg.length lg ∧ Hid (lg ++ (cur.drop k).flatMap (extP y) = nxt) ∧ Below wo.heap.size wo wr) (fun _ x _ => cur.length - (intOf x).toNat)
      case atStart => exact ⟨0, [], Nat.zero_le _, rfl, HE0.out, HS0, HBE0.out⟩
      case round =>
        obtain ⟨k, lg, hk, rfl, hown, heq, hbl⟩ := hrel
        clear HS0 HE0 HBE0
        by_cases hkl : k < cur.length
        · obtain ⟨b2, o2, a2, c2, hd, e1, q1, hrow, hget⟩ := HCI.out.at_ hkl
          subst e1
          have hpl := hmem.out hd (List.mem_of_getElem? hget.out)
          have hpl4 : hd.length ≤ 4 := by omega
          have HST := Lib.hid (curP_step hget.out heq.out)
          have q2 := (hbl.cell (World.block_lt_of_cell? _ _ q1)).trans q1
          have Hown2 := Lib.hid hown
          have Hbl2 := Lib.hid hbl
          have Hrow := Lib.hid hrow
          clear hown hbl heq hget q1 hrow hpl
          go_wp2_with fail
          clear q2
          go_loopw [6, 36] (fun v x wr => ∃ (b : Nat) (lg : List (List Int)), b ≤ y + 1 ∧ x = .int .i64 b ∧ OIntss wr wo.heap.size v lg.length lg ∧ Hid (lg ++ ((List.range' b (y + 1 - b)).flatMap (fun (z : Nat) => [hd ++ [(z : Int)]]) ++ (cur.drop (k + 1)).flatMap (extP y)) = nxt) ∧ Below wo.heap.size wo wr) (fun _ x _ => y + 1 - (intOf x).toNat)
          case atStart => exact ⟨0, lg, Nat.zero_le _, rfl, Hown2.out, HST, Hbl2.out⟩
          case round =>
            obtain ⟨b, lg, hb, rfl, hown, heq, hbl⟩ := hrel
            obtain ⟨wi, rfl⟩ : ∃ wi : World, wi = wr := ⟨_, rfl⟩
            clear HST Hown2 Hbl2
            have Hown3 := Lib.hid hown
            have Hbl3 := Lib.hid hbl
            obtain ⟨ao8, cap8, rfl, _⟩ := hown.form
            clear hown hbl
            by_cases hbN : b < y + 1
            · have hdb : decide ((b : Int) < (y : Int) + 1) = true := decide_eq_true (by omega)
              have HPi := Lib.hid (Hrow.out.keep Hbl3.out)
              have HQ := Lib.hid (parP_step hbN heq.out)
              have hl := pre_le HQ.out
              have hl2 : lg.length + 1 ≤ 1099511627776 := by have := HNX.out; simp at hl; omega
              clear heq hl
              go_wp2_with (first
                | (at_builtin; refine wpList_push_fresh w6 _ wi rfl (.tmp 39) (.tmp 45) rfl wo.heap.size _ lg.length lg rfl Hown3.out (by omega) Hbl3.out.size Hb6.out _ _ Ho6.out _ rfl rfl ?_; intro v7 w7 ho7 hb7 _; have Ho7 := Lib.hid ho7; have Hb7 := Lib.hid (Hbl3.out.trans hb7); clear ho7 hb7)
                | (at_builtin; refine wpList_push_one w5 _ rfl (.tmp 41) (.tmp 43) rfl wi.heap.size v5 hd.length hd rfl Ho5.out (by omega) Hb5.out.size _ rfl rfl ?_; intro v6 w6 ho6 hb6; obtain ⟨a6, c6, rfl, _⟩ := ho6.form; have Ho6 := Lib.hid ho6; have Hb6 := Lib.hid (Hb5.out.trans hb6); clear ho6 hb6)
                | (go_at_call 74; refine (clone_any _ _ _ hd _ HPi.out).mono ?_; rintro e w5 ⟨v5, rfl, ho5, hb5⟩; have Ho5 := Lib.hid ho5; have Hb5 := Lib.hid hb5; clear ho5 hb5))
              go_roundw
              case rel =>
                have h9 := Ho7.out
                rw [show lg.length + 1 = (lg ++ [hd ++ [(b : Int)]]).length by simp] at h9
                first | exact ⟨b + 1, _, hbN, by go_num, h9, HQ, Hb7.out⟩ | ((repeat apply Exists.intro); exact ⟨⟨b + 1, _, hbN, by go_num, h9, HQ, Hb7.out⟩, rfl⟩)
              case measure => simp [intOf]; omega
            · have hdb : decide ((b : Int) < (y : Int) + 1) = false := decide_eq_false (by omega)
              have HQ := Lib.hid (parP_end (by omega) heq.out)
              clear heq
              go_wp2_with fail
              go_roundw
              case rel => first | exact ⟨k + 1, lg, hkl, by go_num, Hown3.out, HQ, Hbl3.out⟩ | ((repeat apply Exists.intro); exact ⟨⟨k + 1, lg, hkl, by go_num, Hown3.out, HQ, Hbl3.out⟩, rfl⟩)
              case measure => simp [intOf]; omega
        · have hkl2 : decide ((k : Int) < (cur.length : Int)) = false := decide_eq_false (by omega)
          have hkl3 : decide (k < cur.length) = false := decide_eq_false (by omega)
          have HQ : Hid (lg = nxt) := by
            have h := heq.out
            rw [drop_all cur k (by omega)] at h
            show lg = nxt
            simpa using h
          rw [HQ.out] at hown
          have Hown2 := Lib.hid hown
          have Hbl2 := Lib.hid (Hbl.out.trans (hbl.mono Hbl.out.size))
          obtain ⟨ao8, cap8, rfl, _⟩ := hown.form
          have hsz := Hbl.out.size
          clear heq hown hbl
          go_wp2_with fail
          go_roundw
          case rel => first | exact ⟨a + 1, nxt, hlt, by go_num, Hown2.out.mono hsz, HNF, HNM, HNL, HAL, Hbl2.out⟩ | ((repeat apply Exists.intro); exact ⟨⟨a + 1, nxt, hlt, by go_num, Hown2.out.mono hsz, HNF, HNM, HNL, HAL, Hbl2.out⟩, rfl⟩)
          case measure => simp [intOf]; omega
    · have han : a = n := by omega
      have hall2 : allIn 0 3 row = true := by have := hall.out; rw [drop_all row a (by rw [HL.out]; omega)] at this; exact this.symm
      have hok : partsOk row = true := by rw [HP.out, hall2, decide_eq_true hn4]; rfl
      have hcR : cur = fillP row [] := by
        have h := heq.out
        rw [drop_all row a (by rw [HL.out]; omega)] at h
        simpa [fillP] using h
      have hv : Hid (cur.filter (fun l => !dropP row l) = partsV row) := by
        show _ = _
        unfold partsV
        rw [if_pos hok, hcR]
        exact List.filter_congr (fun l hl => (keep_sum hok hl).symm)
      have hda : decide ((a : Int) < (n : Int)) = false := decide_eq_false (by omega)
      have hda2 : decide (a < n) = false := decide_eq_false (by omega)
      have HBr : Hid (wo.cell? ⟨w.heap.size, 0, none⟩ = some (.slice p n c)) := (Hbl.out.cell (p := ⟨w.heap.size, 0, none⟩) (by show w.heap.size < w1.heap.size; omega)).trans HBox.out
      have HKR : Hid (∀ W, Below w1.heap.size wo W → Ints W p n row) := fun W hW => H.out.keep (Hbl.out.trans hW)
      have hsz := Hbl.out.size
      clear heq hall han hcR hall2
      go_wp2_with fail
      refine (delP_any w.heap.size p n c row _ cur.length w1.heap.size cur _ (by omega) HBr.out HKR.out Hown.out hsz).mono ?_
      rintro e w9 ⟨a9, m9, c9, rfl, hi9, hb9⟩
      rw [hv.out] at hi9
      have HI9 := Lib.hid hi9
      have HB9 := Lib.hid hb9
      clear hi9 hb9
      go_wp2_with fail
      go_ret
      exact ⟨_, _, _, rfl, HI9.out, HB1.out.trans ((Hbl.out.trans HB9.out).mono HB1.out.size)⟩
end Go.Proofs.Ytblkgkgopneleaa

namespace Go.Proofs.Ytblkgkgopneleaa
open Go.RowKit
set_option linter.all false
theorem NewOr.step {s s' : Nat} {a b c : Value} (h : NewOr s a b) (k : NewOr s' b c) (hs : s ≤ s') : NewOr s a c := by
  rcases k with k | ⟨d, k, hd⟩
  · rcases h with h | ⟨d, h, hd⟩
    · exact .inl (k.trans h)
    · exact .inr ⟨d, k.trans h, hd⟩
  · exact .inr ⟨d, k, Nat.le_trans hs hd⟩
theorem grownBy_two {a b c : World} {u v : Value} (h : a.grownBy b u.ownBlock) (n : NewOr a.heap.size u v) (k : b.grownBy c v.ownBlock) : a.grownBy c u.ownBlock := by
  refine ⟨k.os.trans h.os, k.tape.trans h.tape, k.output.trans h.output, Nat.le_trans h.size k.size, fun i hi hne => ?_⟩
  refine (k.block i (Nat.lt_of_lt_of_le hi h.size) ?_).trans (h.block i hi hne)
  rcases n with n | ⟨d, n, hd⟩
  · rw [n]; exact hne
  · rw [n]; intro e; injection e with e; omega
theorem OIntss.apartR {w W : World} {lo n m : Nat} {v u : Value} {xss : List (List Int)} {r : List Int} (h : OIntss w lo v n xss) (hu : OInts W w.heap.size u m r) : Apart u v := by
  intro b hb e
  have := (h.ownlt b e).2
  have := (hu.ownlt b hb).1
  omega
def fill17P (W : World) (lo : Nat) (ov : Value) (R : List (List Int)) (e : Ending) (w' : World) : Prop := ∃ v', e = .returned v' ∧ OIntss w' lo v' R.length R ∧ W.grownBy w' ov.ownBlock ∧ NewOr W.heap.size ov v'
set_option maxRecDepth 20000 in
set_option maxHeartbeats 3200000 in
theorem fill17_zero (p : Option Addr) (N c lo : Nat) (row : List Int) (W wr : World) (hv ov : Value) (hd : List Int) (out : List (List Int)) (hrl : row.length = N) (hlen : hd.length = N) (ho : OIntss wr lo ov out.length out) (hlo : lo ≤ wr.heap.size)
    (hW : Below wr.heap.size wr W) (hh : OInts W wr.heap.size hv hd.length hd) (hM : (out ++ fillP (row.drop hd.length) hd).length ≤ 1099511627776) :
    Calls Try.prog 84 #[.slice p N c, hv, ov] W (fill17P W lo ov (out ++ fillP (row.drop hd.length) hd)) := by
  have HO := Lib.hid ho
  have HW := Lib.hid hW
  have HH := Lib.hid hh
  obtain ⟨ah, ch, rfl, _⟩ := hh.form
  have e0 : row.drop hd.length = [] := List.drop_eq_nil_of_le (by omega)
  rw [e0] at hM ⊢
  have hm : out.length + 1 ≤ 1099511627776 := by simpa [fillP] using hM
  have HR : Hid (out ++ fillP [] hd = out ++ [hd]) := rfl
  subst hlen
  clear ho hW hh hM hrl e0
  go_enter Try.func84, Try.ntmps84
  go_wp2_with (first | (at_builtin; refine wpList_push_rowC _ _ wr rfl (.tmp 13) (.tmp 15) rfl lo _ out.length out rfl HO.out (by omega) hlo HW.out _ hd HH.out _ ?_ rfl ?_; (first | rfl | simp); intro v4 w4 ho4 hg4 hn4; have Ho4 := Lib.hid ho4; have Hg4 := Lib.hid hg4; have Hn4 := Lib.hid hn4; clear ho4 hg4 hn4))
  go_ret
  rw [HR.out]
  exact ⟨_, rfl, by simpa using Ho4.out, Hg4.out, Hn4.out⟩
set_option maxRecDepth 20000 in
set_option maxHeartbeats 6400000 in
theorem fill17_step (p : Option Addr) (N c lo : Nat) (row : List Int) (hrl : row.length = N) (hN : N ≤ 4) (x0 : Nat) (r : List Int)
    (W : World) (hp : Option Addr) (hn hc : Nat) (hd : List Int) (ov : Value) (out : List (List Int)) (hdr : row.drop hd.length = (x0 : Int) :: r) (hx3 : x0 ≤ 3)
    (IH : ∀ (W wr : World) (hv ov : Value) (hd' : List Int) (out : List (List Int)), row.drop hd'.length = r → hd'.length = hn + 1 → OIntss wr lo ov out.length out → lo ≤ wr.heap.size → (∀ W', Below lo wr W' → Ints W' p N row) → Below wr.heap.size wr W → OInts W wr.heap.size hv hd'.length hd' → (out ++ fillP r hd').length ≤ 1099511627776 →
      Calls Try.prog 84 #[.slice p N c, hv, ov] W (fill17P W lo ov (out ++ fillP r hd')))
    (ho : OIntss W lo ov out.length out) (hlo : lo ≤ W.heap.size)
    (hk : ∀ W', W.grownBy W' ov.ownBlock → Ints W' hp hn hd) (ha : ∀ W', Below lo W W' → Ints W' p N row) (hM : (out ++ fillP (row.drop hd.length) hd).length ≤ 1099511627776) :
    Calls Try.prog 84 #[.slice p N c, .slice hp hn hc, ov] W (fill17P W lo ov (out ++ fillP (row.drop hd.length) hd)) := by
  have HHL : Hid (hd.length = hn) := (hk W (World.grownBy.refl W _)).1
  have hgx : row[hn]? = some (x0 : Int) := by
    have h1 := congrArg (fun l => l[0]?) hdr
    simp only [List.getElem?_drop, Nat.add_zero, List.getElem?_cons_zero] at h1
    rw [HHL.out] at h1
    exact h1
  have hnN : hn < N := by have := (List.getElem?_eq_some_iff.1 hgx).1; omega
  have hd2 : row.drop (hn + 1) = r := by
    have h1 := congrArg List.tail hdr
    rw [List.tail_drop, HHL.out] at h1
    exact h1
  have HO := Lib.hid ho
  have HK := Lib.hid hk
  have HA := Lib.hid ha
  have HIH := Lib.hid IH
  have HGX := Lib.hid hgx
  have HD2 := Lib.hid hd2
  have hR : out ++ (List.range' 0 ((x0 + 1) - 0)).flatMap (fun (a : Nat) => fillP r (hd ++ [(a : Int)])) = out ++ fillP (row.drop hd.length) hd := by rw [hdr, fillP, Nat.sub_zero, Int.toNat_natCast]
  generalize out ++ fillP (row.drop hd.length) hd = R at hR hM ⊢
  have HR := Lib.hid hR
  have HM := Lib.hid hM
  have hne : ((hn : Int) == (N : Int)) = false := by simp; omega
  clear ho hk ha IH hR hM hdr hgx hd2
  go_enter Try.func84, Try.ntmps84
  go_wp2_with fail
  clear hne
  go_loopw [2, 7] (fun v x wx => ∃ (k : Nat) (acc : List (List Int)), k ≤ x0 + 1 ∧ x = .int .i64 k ∧ OIntss wx lo v acc.length acc ∧ Hid (acc ++ (List.range' k (x0 + 1 - k)).flatMap (fun (a : Nat) => fillP r (hd ++ [(a : Int)])) = R) ∧ W.grownBy wx ov.ownBlock ∧ NewOr W.heap.size ov v) (fun _ x _ => x0 + 1 - (intOf x).toNat)
  case atStart => exact ⟨0, out, Nat.zero_le _, rfl, HO.out, HR, World.grownBy.refl W _, NewOr.refl _ _⟩
  case round =>
    obtain ⟨k, acc, hk, rfl, hown, heq, hg, hno⟩ := hrel
    obtain ⟨wx, rfl⟩ : ∃ wx : World, wx = wr := ⟨_, rfl⟩
    have Hown := Lib.hid hown
    have Hg := Lib.hid hg
    have Hno := Lib.hid hno
    have Hsz : Hid (lo ≤ wx.heap.size) := Nat.le_trans hlo hg.size
    have HB : Hid (Below lo W wx) := (Below.refl lo W).grown hg hlo fun b hb => (HO.out.ownlt b hb).1
    have HKx := Lib.hid (HK.out wx hg)
    have HAx := Lib.hid (HA.out wx HB.out)
    obtain ⟨b1, o1, u1, rfl, q1, hgu⟩ := HAx.out.at_ hnN
    have e1 : u1 = (x0 : Int) := by have h1 := hgu.out; rw [HGX.out] at h1; injection h1 with h1; exact h1.symm
    subst e1
    clear hown hg hno HO HR hgu
    by_cases hlt : k < x0 + 1
    · have hle : decide ((k : Int) ≤ (x0 : Int)) = true := decide_eq_true (by omega)
      have hle2 : decide (k ≤ x0) = true := decide_eq_true (by omega)
      have HQ := Lib.hid (rng_step hlt heq.out)
      have HMx : Hid ((acc ++ fillP r (hd ++ [(k : Int)])).length ≤ 1099511627776) := Nat.le_trans (pre_le HQ.out) HM.out
      have HDL : Hid (row.drop (hd ++ [(k : Int)]).length = r) := by show _ = _; rw [List.length_append, HHL.out]; exact HD2.out
      have HHL2 : Hid ((hd ++ [(k : Int)]).length = hn + 1) := by show _ = _; rw [List.length_append, HHL.out]; rfl
      clear heq
      go_wp2_with (first
        | (go_at_call 84; refine (HIH.out _ wx _ _ (hd ++ [(k : Int)]) acc HDL.out HHL2.out Hown.out Hsz.out (fun W' hW' => HA.out W' (HB.out.trans hW')) Hb2.out (by rw [HHL2.out]; exact Ho2.out) HMx.out).mono ?_; rintro e w5 ⟨v5, rfl, ho5, hg5, hn5⟩; have Ho5 := Lib.hid ho5; have Hg5 : Hid (W.grownBy w5 ov.ownBlock) := grownBy_two (Hg.out.trans (grown_of_below Hb2.out)) Hno.out hg5; have Hn5 : Hid (NewOr W.heap.size ov v5) := Hno.out.step hn5 (Nat.le_trans Hg.out.size Hb2.out.size); clear ho5 hg5 hn5)
        | (at_builtin; refine wpList_push_one w1 _ rfl (.tmp 29) (.tmp 31) rfl wx.heap.size v1 hn hd rfl Ho1.out (by omega) Hb1.out.size _ rfl rfl ?_; intro v2 w2 ho2 hb2; have Ho2 := Lib.hid ho2; have Hb2 := Lib.hid (Hb1.out.trans hb2); clear ho2 hb2)
        | (at_builtin; refine wpList_app_ints _ rfl (.tmp 27) (.tmp 28) rfl wx.heap.size _ 0 [] rfl (OInts.empty _ _ (Nat.le_refl _)) hp hn hc hd rfl (HKx.out.keep ((Below.refl _ _).alloc (Nat.le_refl _) _)) (by omega) (by simp) ?_; intro v1 w1 ho1 hg1; rw [Nat.zero_add, List.nil_append] at ho1; have Ho1 := Lib.hid ho1; have Hb1 : Hid (Below wx.heap.size wx w1) := ((Below.refl _ _).alloc (Nat.le_refl _) _).grown hg1 (by simp) (fun b hb => ((OInts.empty _ _ (Nat.le_refl _)).ownlt b hb).1); clear ho1 hg1))
      go_roundw
      case rel => first | exact ⟨k + 1, _, hlt, by go_num, Ho5.out, HQ, Hg5.out, Hn5.out⟩ | ((repeat apply Exists.intro); exact ⟨⟨k + 1, _, hlt, by go_num, Ho5.out, HQ, Hg5.out, Hn5.out⟩, rfl⟩)
      case measure => simp [intOf]; omega
    · have hle : decide ((k : Int) ≤ (x0 : Int)) = false := decide_eq_false (by omega)
      have hle2 : decide (k ≤ x0) = false := decide_eq_false (by omega)
      have HQ := Lib.hid (rng_end (by omega) heq.out)
      clear heq
      go_wp2_with fail
      go_ret
      have h9 := Hown.out
      rw [HQ.out] at h9
      exact ⟨_, rfl, h9, Hg.out, Hno.out⟩
theorem fill17_any (p : Option Addr) (N c lo : Nat) (row : List Int) (hrl : row.length = N) (hN : N ≤ 4) (hx : allIn 0 3 row = true) :
    ∀ (r : List Int) (W wr : World) (hv ov : Value) (hd : List Int) (out : List (List Int)), row.drop hd.length = r → OIntss wr lo ov out.length out → lo ≤ wr.heap.size → (∀ W', Below lo wr W' → Ints W' p N row) → Below wr.heap.size wr W → OInts W wr.heap.size hv hd.length hd → hd.length ≤ N → (out ++ fillP r hd).length ≤ 1099511627776 →
      Calls Try.prog 84 #[.slice p N c, hv, ov] W (fill17P W lo ov (out ++ fillP r hd))
  | [], W, wr, hv, ov, hd, out, hdr, ho, hlo, ha, hW, hh, hl, hM => by
    have h1 : hd.length = N := by have := congrArg List.length hdr; simp at this; omega
    have := fill17_zero p N c lo row W wr hv ov hd out hrl h1 ho hlo hW hh (by rw [hdr]; exact hM)
    rw [hdr] at this
    exact this
  | x :: r, W, wr, hv, ov, hd, out, hdr, ho, hlo, ha, hW, hh, hl, hM => by
    have IH := fill17_any p N c lo row hrl hN hx r
    have hne := (ho.apartR hh).ne
    have hks : ∀ W', W.grownBy W' ov.ownBlock → OInts W' wr.heap.size hv hd.length hd := fun W' hg => hh.grown hg hne
    obtain ⟨ah, ch, rfl, _⟩ := hh.form
    have hk : ∀ W', W.grownBy W' ov.ownBlock → Ints W' ah hd.length hd := fun W' hg => by
      obtain ⟨a', c', e, h⟩ := (hks W' hg).form
      injection e with e
      subst e
      exact h
    have hxm : x ∈ row := List.mem_of_mem_drop (by rw [hdr]; exact List.mem_cons_self ..)
    have hxb := allIn_mem hx x hxm
    obtain ⟨x0, rfl⟩ := Int.eq_ofNat_of_zero_le hxb.1
    have hlt : hd.length < N := by have := congrArg List.length hdr; simp at this; omega
    have := fill17_step p N c lo row hrl hN x0 r W ah hd.length ch hd ov out hdr (by omega)
      (fun W wr hv ov hd' out h1 h2 h3 h4 h5 h6 h7 h8 => IH W wr hv ov hd' out h1 h3 h4 h5 h6 h7 (by omega) h8)
      (ho.keep hW) (Nat.le_trans hlo hW.size) hk (fun W' h2 => ha W' ((hW.mono hlo).trans h2)) (by rw [hdr]; exact hM)
    rw [hdr] at this
    exact this
end Go.Proofs.Ytblkgkgopneleaa

namespace Go.Proofs.Ytblkgkgopneleaa
open Go.RowKit
set_option linter.all false
theorem flt_step {α : Type} {p : α → Bool} {L acc R : List α} {i : Nat} {x : α} (hx : L[i]? = some x) (h : acc ++ (L.drop i).filter p = R) :
    (p x = true → (acc ++ [x]) ++ (L.drop (i + 1)).filter p = R) ∧ (p x = false → acc ++ (L.drop (i + 1)).filter p = R) := by
  rw [drop_of_get hx, List.filter_cons] at h
  constructor
  · intro e; simpa [e] using h
  · intro e; simpa [e] using h
theorem flt_end {α : Type} {p : α → Bool} {L acc R : List α} {i : Nat} (hi : L.length ≤ i) (h : acc ++ (L.drop i).filter p = R) : acc = R := by
  rw [drop_all L i hi] at h
  simpa using h
set_option maxRecDepth 20000 in
set_option maxHeartbeats 6400000 in
theorem sPartsOf_any (p : Option Addr) (n c : Nat) (row : List Int) (w : World) (h : Ints w p n row) (hn1 : 1 ≤ n) :
    Calls Try.prog 41 #[.slice p n c] w (readP w (partsV row)) := by
  have HL : Hid (row.length = n) := h.1
  have hm := h.2.1
  have H := Lib.hid h
  have HE0 := Lib.hid (OIntss.empty w w.heap.size (Nat.le_refl _))
  have HB0 := Lib.hid ((Below.refl w.heap.size w).alloc (Nat.le_refl _) (.cells #[] 42))
  have HP : Hid (partsOk row = (decide (n ≤ 4) && allIn 0 3 row)) := by show _ = _; unfold partsOk; rw [h.1]
  clear h
  go_enter Try.func41, Try.ntmps41
  go_wp2_with fail
  generalize hw1 : w.alloc (.cells #[] 42) = w1 at HE0 HB0 ⊢
  have H1 := Lib.hid (H.out.keep HB0.out)
  clear hw1
  go_loop [4] (fun x => ∃ k : Nat, k ≤ n ∧ x = .int .i64 k ∧ Hid (allIn 0 3 (row.drop k) = allIn 0 3 row)) (fun x => n - (intOf x).toNat)
  case atStart => exact ⟨0, Nat.zero_le _, rfl, rfl⟩
  case round =>
    obtain ⟨k, hk, rfl, hr⟩ := hrel
    by_cases hlt : k < n
    · obtain ⟨b, o, x, rfl, hcx, hgx⟩ := H1.out.at_ hlt
      have Hst := Lib.hid (allIn_step hgx.out hr.out)
      clear hgx hr
      cases hx : inR x 0 3
      · have hv : Hid (partsV row = []) := by show _ = _; unfold partsV; rw [HP.out, Hst.out.2 hx]; simp
        clear Hst
        go_wp2_with (go_at_call 52; refine (l1In_any _ _ _ _).mono ?_; rintro e w' ⟨rfl, rfl⟩)
        go_ret
        rw [hv.out]
        exact ⟨_, _, _, rfl, HE0.out.readI, HB0.out⟩
      · have hr1 : Hid _ := Hst.out.1 hx
        clear Hst
        go_wp2_with (go_at_call 52; refine (l1In_any _ _ _ _).mono ?_; rintro e w' ⟨rfl, rfl⟩)
        go_round
        case rel => exact ⟨k + 1, hlt, by go_num, hr1⟩
        case measure => simp [intOf]; omega
    · have hall : Hid (allIn 0 3 row = true) := by have := hr.out; rw [drop_all row k (by rw [HL.out]; omega)] at this; exact this.symm
      have hdk : decide ((k : Int) < (n : Int)) = false := decide_eq_false (by omega)
      have hdk2 : decide (k < n) = false := decide_eq_false (by omega)
      clear hr
      by_cases h4 : 4 < n
      · have hv : Hid (partsV row = []) := by show _ = _; unfold partsV; rw [HP.out, decide_eq_false (by omega)]; simp
        have hd4 : decide ((4 : Int) < (n : Int)) = true := decide_eq_true (by omega)
        go_wp2_with fail
        go_ret
        rw [hv.out]
        exact ⟨_, _, _, rfl, HE0.out.readI, HB0.out⟩
      · have hd4 : decide ((4 : Int) < (n : Int)) = false := decide_eq_false (by omega)
        have hok : partsOk row = true := by rw [HP.out, hall.out, decide_eq_true (by omega)]; rfl
        have HFL := Lib.hid (partsOk_len hok)
        have hv : Hid (partsV row = (fillP row []).filter (keepP row)) := by show _ = _; unfold partsV; rw [if_pos hok]
        obtain ⟨w1', hw1'⟩ : ∃ w1' : World, w1' = w1 := ⟨_, rfl⟩
        subst hw1'
        have hmk := make_ints n (by omega)
        obtain ⟨x0, hx0⟩ : ∃ x0, row[0]? = some x0 := ⟨_, List.getElem?_eq_getElem (by rw [HL.out]; omega)⟩
        have hx0b := allIn_get hall.out hx0
        obtain ⟨x1, rfl⟩ := Int.eq_ofNat_of_zero_le hx0b.1
        have HZ := Lib.hid (OInts.made w1' n (by omega))
        have hdr : row.drop ([] : List Int).length = (x1 : Int) :: row.drop 1 := by rw [List.length_nil]; exact drop_of_get hx0
        have hB2 : Below w1'.heap.size w1' (w1'.alloc (.cells (madeCells #[.int .i64 0] n) 3)) := (Below.refl _ _).alloc (Nat.le_refl _) _
        generalize hw2 : w1'.alloc (.cells (madeCells #[.int .i64 0] n) 3) = w2 at HZ hB2
        have hs2 : w2.heap.size = w1'.heap.size + 1 := by rw [← hw2]; simp
        have hs3 : (w2.alloc (.cells #[] 3)).heap.size = w2.heap.size + 1 := by simp
        have hF := fill17_step p n c (w2.alloc (.cells #[] 3)).heap.size row HL.out (by omega) x1 (row.drop 1)
          ((w2.alloc (.cells #[] 3)).alloc (.cells #[] 42)) (some ⟨w2.heap.size, 0, none⟩) 0 0 [] (.slice (some ⟨(w2.alloc (.cells #[] 3)).heap.size, 0, none⟩) 0 0) [] hdr (by omega)
          (fun W wr hv ov hd' out h1 h2 h3 h4 h5 h6 h7 h8 => fill17_any p n c _ row HL.out (by omega) hall.out (row.drop 1) W wr hv ov hd' out h1 h3 h4 h5 h6 h7 (by omega) h8)
          (OIntss.empty _ _ (Nat.le_refl _)) (by simp) (fun W' _ => ⟨rfl, by omega, fun i hi => by simp at hi⟩)
          (fun W' hW' => H1.out.keep (hB2.trans ((((Below.refl w2.heap.size w2).alloc (Nat.le_refl _) _).trans (((Below.refl (w2.alloc (.cells #[] 3)).heap.size _).alloc (Nat.le_refl _) _).mono (by simp))).trans (hW'.mono (by simp)) |>.mono (by omega))))
          (by rw [List.nil_append, List.length_nil, List.drop_zero]; have := HFL.out.2; omega)
        rw [List.nil_append, List.length_nil, List.drop_zero, hs3, hs2] at hF
        have HF := Lib.hid hF
        have HB2 := Lib.hid hB2
        have HW2 := Lib.hid hw2
        clear hF hdr hx0 hx0b hok hB2 hw2 hs3
        go_wp2_with fail
        rw [HW2.out]
        refine HF.out.mono ?_
        rintro e w5 ⟨v5, rfl, ho5, hg5, _⟩
        obtain ⟨a5, c5, rfl, hi5⟩ := ho5.form
        have HI5 := Lib.hid hi5
        have hb5 : Below w2.heap.size w2 w5 := ((((Below.refl w2.heap.size w2).alloc (Nat.le_refl _) _).trans (((Below.refl (w2.alloc (.cells #[] 3)).heap.size _).alloc (Nat.le_refl _) _).mono (by simp)))).trans (below_of_grown hg5 (by show w2.heap.size ≤ w1'.heap.size + 1 + 1; omega) (by simp; omega))
        have HZ5 : Hid (Ints w5 (some ⟨w1'.heap.size, 0, none⟩) n (zerosL n)) := (HZ.out.ints).keep hb5
        have HR5 := Lib.hid ((H1.out.keep HB2.out).keep hb5)
        have HB5 : Hid (Below w.heap.size w w5) := (HB0.out.trans (HB2.out.mono HB0.out.size)).trans (hb5.mono (by have := HB0.out.size; omega))
        have HM2 : Hid (∀ l ∈ fillP row [], keepP row l = (!(eqL l (zerosL n)) && !(eqL l row))) := fun l _ => by unfold keepP; rw [HL.out]
        have HLL : Hid ((fillP row []).length ≤ 256) := HFL.out.2
        have HR0 : Hid ([] ++ ((fillP row []).drop 0).filter (keepP row) = partsV row) := by show _ = _; rw [hv.out]; simp
        clear ho5 hi5 hg5 hb5 HF HFL hv
        generalize fillP row [] = L at HI5 HM2 HLL HR0
        have hL1 : L.length ≤ 256 := HLL.out
        go_wp2_with fail
        clear hmk
        go_loopw [3, 7] (fun v x wr => ∃ (k : Nat) (acc : List (List Int)), k ≤ L.length ∧ x = .int .i64 k ∧ Hid (acc ++ (L.drop k).filter (keepP row) = partsV row) ∧ Hid (acc.length ≤ k) ∧ Below w5.heap.size w5 wr ∧ ((acc = [] ∧ v = .slice (some ⟨w.heap.size, 0, none⟩) 0 0) ∨ ∃ vs, wr.ownsRow w5.heap.size 42 1 v acc.length vs ∧ RowsAt w5 vs acc)) (fun _ x _ => L.length - (intOf x).toNat)
        case atStart => exact ⟨0, [], Nat.zero_le _, rfl, HR0, Nat.le_refl _, Below.refl _ _, .inl ⟨rfl, rfl⟩⟩
        case round =>
          obtain ⟨k, acc, hk, rfl, heq, hal, hbl, hd⟩ := hrel
          clear HR0
          by_cases hlt : k < L.length
          · obtain ⟨b1, o1, a6, c6, l, e1, hcl, hrow, hget, hcap⟩ := HI5.out.cap_ hlt
            subst e1
            have HKP := Lib.hid (HM2.out l (List.mem_of_getElem? hget.out))
            have HST := Lib.hid (flt_step hget.out heq.out)
            have q1 := (hbl.cell (World.block_lt_of_cell? _ _ hcl)).trans hcl
            have HLr := Lib.hid (hrow.keep hbl)
            have HZr := Lib.hid (HZ5.out.keep hbl)
            have HRr := Lib.hid (HR5.out.keep hbl)
            have Hrow := Lib.hid hrow
            have Hbl := Lib.hid hbl
            have hacc : acc.length + 1 ≤ 1099511627776 := by have := hal.out; omega
            have hal2 : Hid (acc.length ≤ k + 1) := by have := hal.out; show _ ≤ _; omega
            clear heq hcl hrow hget hbl
            cases hz : eqL l (zerosL n)
            · have HZ2 := Lib.hid hz
              cases he : eqL l row
              · have HE2 := Lib.hid he
                have HN := HST.out.1 (by rw [HKP.out, hz, he]; rfl)
                have HNX := Lib.hid HN
                clear hz he HN HST HKP
                rcases hd with ⟨hacc0, rfl⟩ | ⟨vs, hown, hra⟩
                · have HA0 := Lib.hid hacc0
                  clear hacc0
                  go_wp2_with (first
                    | (at_builtin; have hmm := m2; clear hmm; refine wpList_push_val0 (wr.drewN (m1 + m2)) _ rfl (.tmp 55) (.tmp 60) rfl w5.heap.size _ rfl (by exact Hbl.out.size) rfl _ rfl rfl ?_; intro v7 w7 ho7 hb7; have Ho7 := Lib.hid ho7; have Hb7 := Lib.hid (Hbl.out.trans ((below_drewN (Below.refl w5.heap.size wr) (m1 + m2)).trans (hb7.mono (by exact Hbl.out.size)))); clear ho7 hb7)
                    | (go_at_call 85; have hmm := m1; clear hmm; refine (l4SameRow_any _ _ _ l _ _ _ row _ (HLr.out.drewN m1) (HRr.out.drewN m1)).mono ?_; rw [HE2.out]; rintro e w6 ⟨rfl, ⟨m2, rfl⟩⟩)
                    | (go_at_call 85; refine (l4SameRow_any _ _ _ l _ _ _ (zerosL n) _ HLr.out HZr.out).mono ?_; rw [HZ2.out]; rintro e w6 ⟨rfl, ⟨m1, rfl⟩⟩))
                  go_roundw
                  case rel =>
                    refine ⟨k + 1, acc ++ [l], hlt, by go_num, HNX, ?_, Hb7.out, .inr ⟨_, by rw [HA0.out]; exact Ho7.out, ?_⟩⟩
                    · show _ ≤ _; rw [HA0.out]; simp
                    · rw [HA0.out]; exact (RowsAt.nil w5).push Hrow.out hcap
                  case measure => simp [intOf]; omega
                · obtain ⟨ao8, cap8, rfl⟩ := own_slice hown
                  have Hown := Lib.hid hown
                  have Hra := Lib.hid hra
                  clear hown hra
                  go_wp2_with (first
                    | (at_builtin; have hmm := m2; clear hmm; refine wpList_push_val (wr.drewN (m1 + m2)) _ rfl (.tmp 55) (.tmp 60) rfl w5.heap.size _ acc.length vs rfl (by exact Hown.out) hacc (by exact Hbl.out.size) rfl _ rfl rfl ?_; intro v7 w7 ho7 hb7; have Ho7 := Lib.hid ho7; have Hb7 := Lib.hid (Hbl.out.trans ((below_drewN (Below.refl w5.heap.size wr) (m1 + m2)).trans hb7)); clear ho7 hb7)
                    | (go_at_call 85; have hmm := m1; clear hmm; refine (l4SameRow_any _ _ _ l _ _ _ row _ (HLr.out.drewN m1) (HRr.out.drewN m1)).mono ?_; rw [HE2.out]; rintro e w6 ⟨rfl, ⟨m2, rfl⟩⟩)
                    | (go_at_call 85; refine (l4SameRow_any _ _ _ l _ _ _ (zerosL n) _ HLr.out HZr.out).mono ?_; rw [HZ2.out]; rintro e w6 ⟨rfl, ⟨m1, rfl⟩⟩))
                  go_roundw
                  case rel =>
                    refine ⟨k + 1, acc ++ [l], hlt, by go_num, HNX, ?_, Hb7.out, .inr ⟨_, by rw [List.length_append]; exact Ho7.out, Hra.out.push Hrow.out hcap⟩⟩
                    have := hal.out
                    show _ ≤ _
                    rw [List.length_append]
                    simp
                    omega
                  case measure => simp [intOf]; omega
              · have HE2 := Lib.hid he
                have HNX := Lib.hid (HST.out.2 (by rw [HKP.out, hz, he]; rfl))
                clear hz he HST HKP
                go_wp2_with (first
                    | (go_at_call 85; have hmm := m1; clear hmm; refine (l4SameRow_any _ _ _ l _ _ _ row _ (HLr.out.drewN m1) (HRr.out.drewN m1)).mono ?_; rw [HE2.out]; rintro e w6 ⟨rfl, ⟨m2, rfl⟩⟩)
                    | (go_at_call 85; refine (l4SameRow_any _ _ _ l _ _ _ (zerosL n) _ HLr.out HZr.out).mono ?_; rw [HZ2.out]; rintro e w6 ⟨rfl, ⟨m1, rfl⟩⟩))
                go_roundw
                case rel => exact ⟨k + 1, acc, hlt, by go_num, HNX, hal2, below_drewN Hbl.out _, hd⟩
                case measure => simp [intOf]; omega
            · have HZ2 := Lib.hid hz
              have HNX := Lib.hid (HST.out.2 (by rw [HKP.out, hz]; rfl))
              clear hz HST HKP
              go_wp2_with (first
                    | (go_at_call 85; refine (l4SameRow_any _ _ _ l _ _ _ (zerosL n) _ HLr.out HZr.out).mono ?_; rw [HZ2.out]; rintro e w6 ⟨rfl, ⟨m1, rfl⟩⟩))
              go_roundw
              case rel => exact ⟨k + 1, acc, hlt, by go_num, HNX, hal2, below_drewN Hbl.out _, hd⟩
              case measure => simp [intOf]; omega
          · have HF := Lib.hid (flt_end (by omega) heq.out)
            have hl9 : acc.length ≤ 256 := by have := hal.out; omega
            rcases hd with ⟨hacc0, rfl⟩ | ⟨vs, hown, hra⟩
            · go_wp2_with fail
              go_ret
              rw [← HF.out, hacc0]
              exact ⟨_, _, _, rfl, ⟨rfl, by omega, fun i r hi => by simp at hi⟩, HB5.out.trans (hbl.mono HB5.out.size)⟩
            · obtain ⟨ao8, cap8, rfl⟩ := own_slice hown
              obtain ⟨ao9, cap9, e9, hin⟩ := own_rows hown (by omega) hra hbl
              injection e9 with e9
              subst e9
              have HIN := Lib.hid hin
              clear hown hra hin
              go_wp2_with fail
              go_ret
              rw [← HF.out]
              exact ⟨_, _, _, rfl, HIN.out, HB5.out.trans (hbl.mono HB5.out.size)⟩
end Go.Proofs.Ytblkgkgopneleaa

namespace Go.Proofs.Ytblkgkgopneleaa
open Go.RowKit
set_option linter.all false
def mulM (a b : List (List Int)) : Option (List (List Int)) := if isMat a && (isMat b && (decide (a.length = b.length) && isMat (mulT a b b.length))) then some (mulT a b b.length) else none
theorem mulM_none1 {a b : List (List Int)} (h : isMat a = false) : mulM a b = none := by simp [mulM, h]
theorem mulM_none2 {a b : List (List Int)} (h : isMat b = false) : mulM a b = none := by simp [mulM, h]
theorem mulM_none3 {a b : List (List Int)} (h : a.length ≠ b.length) : mulM a b = none := by simp [mulM, h]
theorem mulM_none4 {a b : List (List Int)} (h : isMat (mulT a b b.length) = false) : mulM a b = none := by simp [mulM, h]
theorem mulM_some {a b : List (List Int)} (h1 : isMat a = true) (h2 : isMat b = true) (h3 : a.length = b.length) (h4 : isMat (mulT a b b.length) = true) : mulM a b = some (mulT a b b.length) := by
  unfold mulM; rw [h1, h2, h4]; simp [h3]
theorem mulM_mat {a b c : List (List Int)} (h : mulM a b = some c) : isMat c = true ∧ c.length = b.length := by
  unfold mulM at h
  split at h
  · rename_i h1
    injection h with h
    subst h
    simp only [Bool.and_eq_true, decide_eq_true_eq] at h1
    exact ⟨h1.2.2.2, by rw [mulT_len]; exact h1.2.2.1⟩
  · cases h
end Go.Proofs.Ytblkgkgopneleaa

namespace Go.Proofs.Ytblkgkgopneleaa
open Go.RowKit
set_option linter.all false
def iterM (m : List (List Int)) : Nat → List (List Int) → Option (List (List Int))
  | 0, acc => some acc
  | k + 1, acc => match mulM acc m with
    | none => none
    | some p => iterM m k p
def powM (m : List (List Int)) (n : Int) : Option (List (List Int)) := if isMat m && inR n 0 30 then iterM m n.toNat (oneT m.length) else none
theorem iterM_none {m acc : List (List Int)} {k : Nat} (h : mulM acc m = none) : iterM m (k + 1) acc = none := by simp [iterM, h]
theorem iterM_some {m acc p : List (List Int)} {k : Nat} (h : mulM acc m = some p) : iterM m (k + 1) acc = iterM m k p := by simp [iterM, h]
theorem powM_none1 {m : List (List Int)} {n : Int} (h : isMat m = false) : powM m n = none := by simp [powM, h]
theorem powM_none2 {m : List (List Int)} {n : Int} (h : inR n 0 30 = false) : powM m n = none := by simp [powM, h]
theorem powM_iter {m : List (List Int)} {n : Int} (h1 : isMat m = true) (h2 : inR n 0 30 = true) : powM m n = iterM m n.toNat (oneT m.length) := by simp [powM, h1, h2]
theorem oneT_mat {n : Nat} (h1 : 1 ≤ n) (h9 : n ≤ 9) : isMat (oneT n) = true := by
  have h : inR (oneT n).length 1 9 = true := inR_mk (by rw [oneT_len]; omega)
  unfold isMat
  rw [h, Bool.and_true, oneT_len]
  simp only [tabIn, oneT, List.all_map, List.all_eq_true, List.mem_range]
  intro i _
  simp only [Function.comp, oneRow_len, decide_true, Bool.true_and, allIn, List.all_eq_true]
  intro x hx
  rcases List.mem_or_eq_of_mem_set hx with hx | hx
  · have := List.eq_of_mem_replicate hx
    subst this
    decide
  · subst hx
    decide
theorem iterM_mat {m : List (List Int)} : ∀ (k : Nat) (acc p : List (List Int)), isMat acc = true → acc.length = m.length → iterM m k acc = some p → isMat p = true ∧ p.length = m.length
  | 0, acc, p, h1, h2, h => by
    injection h with h
    subst h
    exact ⟨h1, h2⟩
  | k + 1, acc, p, _, _, h => by
    cases hq : mulM acc m with
    | none => rw [iterM_none hq] at h; cases h
    | some q =>
      rw [iterM_some hq] at h
      have := mulM_mat hq
      exact iterM_mat k q p this.1 this.2 h
theorem powM_mat {m p : List (List Int)} {n : Int} (h : powM m n = some p) : isMat m = true ∧ isMat p = true ∧ p.length = m.length := by
  cases h1 : isMat m with
  | false => rw [powM_none1 h1] at h; cases h
  | true =>
    cases h2 : inR n 0 30 with
    | false => rw [powM_none2 h2] at h; cases h
    | true =>
      rw [powM_iter h1 h2] at h
      have hl := isMat_len h1
      have := iterM_mat _ _ _ (oneT_mat hl.1 hl.2) (oneT_len _) h
      exact ⟨rfl, this⟩
end Go.Proofs.Ytblkgkgopneleaa

namespace Go.Proofs.Ytblkgkgopneleaa
open Go.RowKit
set_option linter.all false
def trc : Nat → Int → List (List Int) → Int
  | _, a, [] => a
  | k, a, r :: rs => trc (k + 1) (wrap64 (a + r.getD k 0)) rs
def closed (m : List (List Int)) (n : Int) : Int :=
  if inR n 1 30 then (match powM m n with
    | none => -1
    | some p => trc 0 0 p) else -1
theorem closed_n {m : List (List Int)} {n : Int} (h : inR n 1 30 = false) : closed m n = -1 := by simp [closed, h]
theorem closed_none {m : List (List Int)} {n : Int} (h : powM m n = none) : closed m n = -1 := by simp [closed, h]
theorem closed_some {m p : List (List Int)} {n : Int} (h1 : inR n 1 30 = true) (h : powM m n = some p) : closed m n = trc 0 0 p := by simp [closed, h, h1]
theorem trc_step {p : List (List Int)} {k : Nat} {a R x : Int} {r : List Int} (hk : p[k]? = some r) (hx : r[k]? = some x) (h : trc k a (p.drop k) = R) : trc (k + 1) (wrap64 (a + x)) (p.drop (k + 1)) = R := by
  rw [drop_of_get hk] at h
  simpa [trc, List.getD, hx] using h
end Go.Proofs.Ytblkgkgopneleaa

namespace Go.Proofs.Ytblkgkgopneleaa
open Go.RowKit
set_option linter.all false
def mb : Nat → Nat → Nat → Int → Int
  | 0, _, _, o => o
  | f + 1, n, p, o => if p ≤ n then (if n % p = 0 then (if n / p % p = 0 then 0 else mb f (n / p) (p + 1) (-o)) else mb f n (p + 1) o) else o
def moeb (n : Int) : Int := if inR n 1 1000 then mb 999 n.toNat 2 1 else 0
theorem mb_stop {f n p : Nat} {o : Int} (h : n < p) : mb f n p o = o := by
  cases f with
  | zero => rfl
  | succ f => simp [mb, show ¬ p ≤ n by omega]
theorem mb_step {n p : Nat} {o M : Int} (hn : n ≤ 1000) (hp : p ≤ n) (h : Hid (mb (1001 - p) n p o = M)) :
    (n % p ≠ 0 → Hid (mb (1001 - (p + 1)) n (p + 1) o = M)) ∧ (n % p = 0 → n / p % p = 0 → M = 0) ∧ (n % p = 0 → n / p % p ≠ 0 → Hid (mb (1001 - (p + 1)) (n / p) (p + 1) (-o) = M)) := by
  have e : 1001 - p = (1001 - (p + 1)) + 1 := by omega
  have h := h.out
  rw [e] at h
  simp only [mb, if_pos hp] at h
  refine ⟨fun h1 => ?_, fun h1 h2 => ?_, fun h1 h2 => ?_⟩
  · rw [if_neg h1] at h; exact h
  · rw [if_pos h1, if_pos h2] at h; exact h.symm
  · rw [if_pos h1, if_neg h2] at h; exact h
theorem modI (n p : Nat) : (n : Int) % (p : Int) = ((n % p : Nat) : Int) := by simp
theorem divmodI (n p : Nat) : (n : Int) / (p : Int) % (p : Int) = ((n / p % p : Nat) : Int) := by simp
theorem natz (k : Nat) : (((k : Nat) : Int) == 0) = decide (k = 0) := by
  by_cases h : k = 0
  · subst h; rfl
  · simp [h]
theorem modI_z {n p : Nat} (h : n % p = 0) : ((n : Int) % (p : Int) != 0) = false := by rw [modI, bne, natz, h]; rfl
theorem modI_nz {n p : Nat} (h : n % p ≠ 0) : ((n : Int) % (p : Int) != 0) = true := by rw [modI, bne, natz, decide_eq_false h]; rfl
theorem modE_z {n p : Nat} (h : n % p = 0) : ((n : Int) % (p : Int) == 0) = true := by rw [modI, natz, h]; rfl
theorem modE_nz {n p : Nat} (h : n % p ≠ 0) : ((n : Int) % (p : Int) == 0) = false := by rw [modI, natz, decide_eq_false h]
theorem divmodI_z {n p : Nat} (h : n / p % p = 0) : ((n : Int) / (p : Int) % (p : Int) == 0) = true := by rw [divmodI, natz, h]; rfl
theorem divmodI_nz {n p : Nat} (h : n / p % p ≠ 0) : ((n : Int) / (p : Int) % (p : Int) == 0) = false := by rw [divmodI, natz, decide_eq_false h]
theorem divI (n p : Nat) : (n : Int) / (p : Int) = ((n / p : Nat) : Int) := by simp
theorem divI_bounds (n p : Nat) : 0 ≤ (n : Int) / (p : Int) ∧ (n : Int) / (p : Int) ≤ n := by
  rw [divI]
  exact ⟨Int.natCast_nonneg _, Int.ofNat_le.2 (Nat.div_le_self n p)⟩
end Go.Proofs.Ytblkgkgopneleaa

namespace Go.Proofs.Ytblkgkgopneleaa
open Go.RowKit
set_option linter.all false
def lpLoop (m : List (List Int)) (n : Nat) : Nat → Nat → Int → Int
  | 0, _, s => s
  | f + 1, d, s => lpLoop m n f (d + 1) (if n % d = 0 then wrap64 (s + wrap64 (moeb ((n : Int) / (d : Int)) * closed m d)) else s)
def lp (m : List (List Int)) (n : Int) : Int := if 12 < n then -1 else if closed m n < 0 then -1 else lpLoop m n.toNat n.toNat 1 0
theorem lp_step {m : List (List Int)} {n d : Nat} {s R : Int} (hd : d ≤ n) (h : Hid (lpLoop m n (n + 1 - d) d s = R)) :
    (n % d = 0 → Hid (lpLoop m n (n + 1 - (d + 1)) (d + 1) (wrap64 (s + wrap64 (moeb ((n : Int) / (d : Int)) * closed m d))) = R)) ∧ (n % d ≠ 0 → Hid (lpLoop m n (n + 1 - (d + 1)) (d + 1) s = R)) := by
  have h := h.out
  rw [show n + 1 - d = (n + 1 - (d + 1)) + 1 by omega] at h
  simp only [lpLoop] at h
  constructor
  · intro e; rw [if_pos e] at h; exact h
  · intro e; rw [if_neg e] at h; exact h
theorem closed_range {m : List (List Int)} {n : Int} (h : ¬ closed m n < 0) : 1 ≤ n ∧ n ≤ 30 := by
  cases h1 : inR n 1 30
  · rw [closed_n h1] at h; omega
  · exact inR_true h1
end Go.Proofs.Ytblkgkgopneleaa

namespace Go.Proofs.Ytblkgkgopneleaa
open Go.RowKit
set_option linter.all false
def orbL (m : List (List Int)) : Nat → Nat → List Int → List Int
  | 0, _, acc => acc
  | c + 1, k, acc => if lp m k < 0 then [] else orbL m c (k + 1) (acc ++ [lp m k])
def orbV (m : List (List Int)) (n : Int) : List Int := if inR n 1 10 then orbL m n.toNat 1 [] else []
theorem orbL_len (m : List (List Int)) : ∀ (c k : Nat) (acc : List Int), orbL m c k acc = [] ∨ (orbL m c k acc).length = acc.length + c
  | 0, _, acc => .inr rfl
  | c + 1, k, acc => by
    unfold orbL
    split
    · exact .inl rfl
    · rcases orbL_len m c (k + 1) (acc ++ [lp m k]) with h | h
      · exact .inl h
      · right; rw [h]; simp; omega
theorem orbV_len (m : List (List Int)) (n : Int) : orbV m n = [] ∨ (orbV m n).length = n.toNat := by
  unfold orbV
  split
  · have := orbL_len m n.toNat 1 []
    simpa using this
  · exact .inl rfl
theorem orb_step {m : List (List Int)} {n k : Nat} {ys R : List Int} (hk : k ≤ n) (h : Hid (orbL m (n + 1 - k) k ys = R)) : (lp m k < 0 → R = []) ∧ (¬ lp m k < 0 → Hid (orbL m (n + 1 - (k + 1)) (k + 1) (ys ++ [lp m k]) = R)) := by
  have h := h.out
  rw [show n + 1 - k = (n + 1 - (k + 1)) + 1 by omega] at h
  simp only [orbL] at h
  constructor
  · intro e; rw [if_pos e] at h; exact h.symm
  · intro e; rw [if_neg e] at h; exact h
def fitL : List Int → List Int → Bool
  | x :: xs, y :: ys => if y < x then false else fitL xs ys
  | _, _ => true
def fits (a b : List (List Int)) (n : Int) : Bool := fitL (orbV a n) (orbV b n) && (decide (0 < (orbV a n).length) && decide (0 < (orbV b n).length))
theorem fitL_step {xs ys : List Int} {k : Nat} {x y : Int} {R : Bool} (hx : xs[k]? = some x) (hy : ys[k]? = some y) (h : fitL (xs.drop k) (ys.drop k) = R) : (y < x → R = false) ∧ (¬ y < x → fitL (xs.drop (k + 1)) (ys.drop (k + 1)) = R) := by
  rw [drop_of_get hx, drop_of_get hy] at h
  simp only [fitL] at h
  constructor
  · intro e; rw [if_pos e] at h; exact h.symm
  · intro e; rw [if_neg e] at h; exact h
theorem fitL_end {xs ys : List Int} {k : Nat} {R : Bool} (hk : xs.length ≤ k ∨ ys.length ≤ k) (h : fitL (xs.drop k) (ys.drop k) = R) : R = true := by
  rcases hk with hk | hk
  · rw [drop_all xs k hk] at h; simpa [fitL] using h.symm
  · rw [drop_all ys k hk] at h
    cases hx : xs.drop k <;> rw [hx] at h <;> simpa [fitL] using h.symm
def fgI : Nat → List Int → List Int → Int
  | k, x :: xs, y :: ys => if y < x then (k : Int) else fgI (k + 1) xs ys
  | _, _, _ => -1
theorem fgI_neg : ∀ (xs ys : List Int) (k : Nat), decide (fgI k xs ys < 0) = fitL xs ys
  | [], ys, k => by cases ys <;> rfl
  | x :: xs, [], k => rfl
  | x :: xs, y :: ys, k => by
    unfold fgI fitL
    split
    · have : ¬ ((k : Int) < 0) := by omega
      simp [this]
    · exact fgI_neg xs ys (k + 1)
theorem fgI_step {xs ys : List Int} {k : Nat} {x y R : Int} (hx : xs[k]? = some x) (hy : ys[k]? = some y) (h : fgI k (xs.drop k) (ys.drop k) = R) : (y < x → R = (k : Int)) ∧ (¬ y < x → fgI (k + 1) (xs.drop (k + 1)) (ys.drop (k + 1)) = R) := by
  rw [drop_of_get hx, drop_of_get hy] at h
  simp only [fgI] at h
  constructor
  · intro e; rw [if_pos e] at h; exact h.symm
  · intro e; rw [if_neg e] at h; exact h
theorem fgI_end {xs ys : List Int} {k : Nat} {R : Int} (hk : xs.length ≤ k) (h : fgI k (xs.drop k) (ys.drop k) = R) : R = -1 := by
  rw [drop_all xs k hk] at h
  simpa [fgI] using h.symm
end Go.Proofs.Ytblkgkgopneleaa

namespace Go.Proofs.Ytblkgkgopneleaa
open Go.RowKit
set_option linter.all false
set_option maxHeartbeats 1600000 in
theorem sTrace_any (ao : Option Addr) (n cap : Nat) (p : List (List Int)) (w : World) (h : Intss w ao n p) (hp : isMat p = true) :
    Calls Try.prog 87 #[.slice ao n cap] w fun e w' => e = .returned (.int .i64 (trc 0 0 p)) ∧ w = w' := by
  have hm := h.2.1
  have HL : Hid (p.length = n) := h.1
  have H := Lib.hid h
  have HP := Lib.hid hp
  clear h
  go_enter Try.func87, Try.ntmps87
  go_wp2_with (go_at_call 68; refine (sIsMatrix_any _ _ _ p _ H.out).mono ?_; rintro e w' ⟨rfl, rfl⟩)
  clear hp
  go_loop [3, 4] (fun s x => ∃ (k : Nat) (t : Int), k ≤ n ∧ x = .int .i64 k ∧ s = .int .i64 t ∧ Hid (trc k t (p.drop k) = trc 0 0 p)) (fun _ x => n - (intOf x).toNat)
  case atStart => exact ⟨0, 0, Nat.zero_le _, rfl, rfl, rfl⟩
  case round =>
    obtain ⟨k, t, hk, rfl, rfl, hr⟩ := hrel
    by_cases hlt : k < n
    · obtain ⟨b, o, ai, ci, r, rfl, hcell, hrow, hget⟩ := H.out.at_ hlt
      have hrl : k < r.length := by have := (isMat_row HP.out hget.out).1; have := HL.out; omega
      obtain ⟨b', o', x, rfl, hcx, hgx⟩ := hrow.at_ hrl
      have HS := Lib.hid (trc_step hget.out hgx.out hr.out)
      clear hrow hget hgx hr
      go_wp2_with fail
      go_round
      case rel => exact ⟨k + 1, _, hlt, by go_num, rfl, HS.out⟩
      case measure => simp [intOf]; omega
    · have e : k = n := by omega
      have HE : Hid (t = trc 0 0 p) := by have := hr.out; rw [drop_all p k (by rw [HL.out]; omega)] at this; exact this
      clear hr
      go_wp2_with fail
      go_ret
      exact ⟨ret_int HE.out, rfl⟩
end Go.Proofs.Ytblkgkgopneleaa

namespace Go.Proofs.Ytblkgkgopneleaa
open Go.RowKit
set_option linter.all false
set_option maxHeartbeats 1600000 in
theorem sL4One_any (n : Nat) (w : World) (hn : n ≤ 1048576) :
    Calls Try.prog 106 #[.int .i64 n] w fun e w' => ∃ v, e = .returned v ∧ OIntss w' w.heap.size v n (oneT n) ∧ Below w.heap.size w w' := by
  go_enter Try.func106, Try.ntmps106
  go_wp2_with fail
  refine (sL4Zero_any n n _ hn hn).mono ?_
  rintro e w1 ⟨v, rfl, hown, hb⟩
  go_wp2_with fail
  go_loopw [4] (fun i wr => ∃ k : Nat, k ≤ n ∧ i = .int .i64 k ∧ OIntss wr w.heap.size v n ((oneT n).take k ++ List.replicate (n - k) (List.replicate n 0)) ∧ Below w.heap.size w wr) (fun i _ => n - (intOf i).toNat)
  case atStart => exact ⟨0, Nat.zero_le _, rfl, by rw [fill_start]; exact hown, hb⟩
  case round =>
    obtain ⟨k, hk, rfl, hown, hb⟩ := hrel
    by_cases hlt : k < n
    · rw [fill_open hlt] at hown
      obtain ⟨g, cap, rfl⟩ := hown.head (by omega)
      have hAl : ((oneT n).take k).length = k := take_len (by rw [oneT_len]; omega)
      obtain ⟨gk, ck, hc, ho, hne, hlo⟩ := hown.rowAt (at_mid hAl) (by simp; omega)
      have hset := hown.setIn (at_mid hAl) hc ho k 1
      rw [set_mid hAl] at hset
      have hset' := (congrArg (OIntss _ w.heap.size _ n) (fill_shut (oneT_get hlt))) ▸ hset
      have hc0 := ho.cell k (by simp; omega)
      have hf0 := ho.frozen k
      have hb' := hb.setCell (p := ⟨gk, k, none⟩) hlo (.int .i64 1)
      simp only [List.length_replicate] at hc hc0
      clear hown ho hset hb hAl
      go_wp2_with fail
      go_roundw
      case rel => exact ⟨k + 1, hlt, by go_num, hset', hb'⟩
      case measure => simp [intOf]; omega
    · go_wp2_with fail
      go_ret
      have : k = n := by omega
      subst this
      rw [fill_end (oneT_len k)] at hown
      exact ⟨_, rfl, hown, hb⟩
end Go.Proofs.Ytblkgkgopneleaa

namespace Go.Proofs.Ytblkgkgopneleaa
open Go.RowKit
set_option linter.all false
def addL (a b : List Int) : List Int := List.zipWith (fun x y => x + y) a b
theorem addL_len {a b : List Int} (h : a.length = b.length) : (addL a b).length = a.length := by simp [addL, h]
theorem addL_get {a b : List Int} {k : Nat} {x y : Int} (hx : a[k]? = some x) (hy : b[k]? = some y) : (addL a b)[k]? = some (x + y) := by simp [addL, List.getElem?_zipWith, hx, hy]
def sumT (X : List (List Int)) (i j : Nat) : List (List Int) := X.set i (addL (X.getD i []) (X.getD j []))
end Go.Proofs.Ytblkgkgopneleaa

namespace Go.Proofs.Ytblkgkgopneleaa
open Go.RowKit
set_option linter.all false
set_option maxHeartbeats 3200000 in
theorem sMinor_any (p : Option Addr) (n c : Nat) (t : List (List Int)) (i j m : Nat) (w : World) (h : Intss w p n t) (hr : RowsLen t m) (hj : j < m) (hm : m ≤ 1048576) (hn : n ≤ 1048576) :
    Calls Try.prog 89 #[.slice p n c, .int .i64 i, .int .i64 j] w fun e w' => ∃ v, e = .returned v ∧ OIntss w' w.heap.size v (minorT t i j).length (minorT t i j) ∧ Below w.heap.size w w' := by
  have H := Lib.hid h
  have HL : Hid (t.length = n) := h.1
  have HR := Lib.hid hr
  clear h hr
  go_enter Try.func89, Try.ntmps89
  go_wp2_with fail
  go_loopw [7, 8] (fun v x wr => ∃ k : Nat, k ≤ n ∧ x = .int .i64 k ∧ OIntss wr w.heap.size v (minorTo t i j k).length (minorTo t i j k) ∧ Below w.heap.size w wr) (fun _ x _ => n - (intOf x).toNat)
  case atStart => exact ⟨0, Nat.zero_le _, rfl, by rw [minorTo_zero]; exact OIntss.empty w _ (Nat.le_refl _), (Below.refl _ _).alloc (Nat.le_refl _) _⟩
  case round =>
    obtain ⟨k, hk, rfl, hown, hbl⟩ := hrel
    obtain ⟨wo, rfl⟩ : ∃ wo : World, wo = wr := ⟨_, rfl⟩
    by_cases hlt : k < n
    · obtain ⟨b1, o1, a1, c1, r, rfl, hca, hrow, hget, hcap⟩ := H.out.cap_ hlt
      have h1 := (hbl.cell (World.block_lt_of_cell? w _ hca)).trans hca
      have hrl : r.length = m := HR.out _ _ hget.out
      by_cases hki : k = i
      · subst hki
        have e : minorTo t k j (k + 1) = minorTo t k j k := minorTo_skip (by have := HL.out; omega)
        rw [← e] at hown
        have Hown := Lib.hid hown
        have Hbl := Lib.hid hbl
        have hne : ((k : Int) == (k : Int)) = true := by simp
        clear hown hbl hca hrow hrl e
        go_wp2_with fail
        go_roundw
        case rel => exact ⟨k + 1, hlt, by go_num, Hown.out, Hbl.out⟩
        case measure => simp [intOf]; omega
      · have hne : ((k : Int) == (i : Int)) = false := by simp; omega
        have e : minorTo t i j (k + 1) = minorTo t i j k ++ [cut j r] := minorTo_step hget.out hki
        have Hown := Lib.hid hown
        have Hbl := Lib.hid hbl
        have hjr2 : j ≤ r.length := by omega
        have hjr3 : j + 1 ≤ r.length := by omega
        have hjc : j ≤ c1 := by omega
        have Hrow := Lib.hid hrow
        have E := Lib.hid e
        have HRL := Lib.hid hrl
        clear hown hbl hca hki hrow e hrl
        obtain ⟨A2, hA2⟩ : ∃ A2, (if c1 = j + 1 then a1 else a1.map (·.add (j + 1))) = A2 := ⟨_, rfl⟩
        have Hd : Hid (Ints wo A2 (r.length - (j + 1)) (r.drop (j + 1))) := by rw [← hA2]; exact (Hrow.out.keep (Hbl.out.mono (Nat.le_refl _))).drop hjr3 hcap
        have Ht : Hid (Ints wo a1 j (r.take j)) := (Hrow.out.keep (Hbl.out.mono (Nat.le_refl _))).take hjr2
        have hs1 := slice_to a1 r.length c1 j hjc
        have hs2 := slice_from a1 r.length c1 j hjr3
        rw [hA2] at hs2
        have HA2 := Lib.hid hA2
        have hw0 : Below wo.heap.size wo (wo.alloc (.cells #[] 3)) := (Below.refl _ _).alloc (Nat.le_refl _) _
        have Hw0 := Lib.hid hw0
        have ho0 : Hid (OInts (wo.alloc (.cells #[] 3)) wo.heap.size (.slice (some ⟨wo.heap.size, 0, none⟩) 0 0) 0 []) := OInts.empty wo wo.heap.size (Nat.le_refl _)
        have hjm : j ≤ 1048576 := by omega
        have hrm : r.length ≤ 1048576 := by have := HRL.out; omega
        have hjr4 : j + 1 ≤ r.length := hjr3
        have hml := minorTo_len (t := t) (i := i) (j := j) (k := k)
        have H1 := Lib.hid h1
        have h10 := (hw0.cell (World.block_lt_of_cell? wo _ h1)).trans h1
        clear h1 hcap hA2 hjc hjr2 hjr3 hw0
        go_wp2_with (first
          | (at_builtin; refine wpList_app_ints _ rfl (.tmp 20) (.tmp 26) rfl wo.heap.size _ 0 [] rfl ho0.out a1 j _ (r.take j) rfl (Ht.out.keep Hw0.out) (by omega) (by exact Hw0.out.size) ?_; intro v1 w1 ho1 hg1; rw [Nat.zero_add, List.nil_append] at ho1; obtain ⟨ao1, cap1, rfl, _⟩ := ho1.form; have Ho1 := Lib.hid ho1; have Hb1 : Hid (Below wo.heap.size wo w1) := Hw0.out.grown hg1 Hw0.out.size (fun k hk => (ho0.out.ownlt k hk).1); have h1' := (Hb1.out.cell (World.block_lt_of_cell? wo _ H1.out)).trans H1.out; clear ho1 hg1)
          | (at_builtin; refine wpList_app_ints _ rfl (.tmp 29) (.tmp 36) rfl wo.heap.size _ _ _ rfl Ho1.out A2 _ _ (r.drop (j + 1)) rfl (Hd.out.keep Hb1.out) (by omega) (by exact Hb1.out.size) ?_; intro v2 w2 ho2 hg2; obtain ⟨ao2, cap2, rfl, _⟩ := ho2.form; have Ho2 := Lib.hid ho2; have Hb2 : Hid (Below wo.heap.size wo w2) := Hb1.out.grown hg2 Hb1.out.size (fun k hk => (Ho1.out.ownlt k hk).1); clear ho2 hg2)
          | (at_builtin; refine wpList_push_fresh _ _ wo rfl (.tmp 28) (.tmp 38) rfl w.heap.size _ _ _ rfl Hown.out (by omega) Hbl.out.size Hb2.out _ _ Ho2.out _ (by rfl) rfl ?_; intro v3 w3 ho3 hb3 _; have Ho3 := Lib.hid ho3; have Hb3 := Lib.hid hb3; clear ho3 hb3))
        go_roundw
        case rel =>
          refine ⟨k + 1, hlt, by go_num, ?_, Hbl.out.trans Hb3.out⟩
          have h9 := Ho3.out
          rw [E.out, List.length_append]
          exact h9
        case measure => simp [intOf]; omega
    · go_wp2_with fail
      go_ret
      rw [minorTo_end (by have := HL.out; omega)] at hown
      exact ⟨_, rfl, hown, hbl⟩
end Go.Proofs.Ytblkgkgopneleaa

namespace Go.Proofs.Ytblkgkgopneleaa
open Go.RowKit
set_option linter.all false
set_option maxHeartbeats 1600000 in
theorem sColumns_yes (p : Option Addr) (n c : Nat) (X : List (List Int)) (i j : Nat) (w : World) (h : Intss w p n X) (hr : RowsLen X n) (hi : i < n) (hj : j < n) (hcol : ∀ (k : Nat) (r : List Int), X[k]? = some r → r.getD i 0 = r.getD j 0) :
    Calls Try.prog 88 #[.slice p n c, .int .i64 i, .int .i64 j] w fun e w' => e = .returned (.bool true) ∧ Drew w w' := by
  have hm := h.2.1
  have H := Lib.hid h
  have HR := Lib.hid hr
  have HC := Lib.hid hcol
  clear h hr hcol
  go_enter Try.func88, Try.ntmps88
  go_wp2_with fail
  go_loopw [7] (fun x wr => ∃ k : Nat, k ≤ n ∧ x = .int .i64 k ∧ Drew w wr) (fun x _ => n - (intOf x).toNat)
  case atStart => exact ⟨0, Nat.zero_le _, rfl, Drew.refl _⟩
  case round =>
    obtain ⟨k, hk, rfl, ⟨dn, rfl⟩⟩ := hrel
    by_cases hlt : k < n
    · obtain ⟨b, o, ai, ci, r, rfl, hcell, hrow, hget⟩ := H.out.at_ hlt
      have hrl := HR.out _ _ hget.out
      obtain ⟨b2, o2, x, e2, hcx, hgx⟩ := hrow.at_ (k := i) (by omega)
      obtain ⟨b3, o3, y, e3, hcy, hgy⟩ := hrow.at_ (k := j) (by omega)
      subst e2
      injection e3 with e3
      injection e3 with e4 e5
      subst e4
      subst e5
      have hxy : x = y := by
        have h1 := HC.out _ _ hget.out
        rw [getD_of hgx.out, getD_of hgy.out] at h1
        exact h1
      have hir : i < r.length := by omega
      have hjr : j < r.length := by omega
      have hne : (x != y) = false := by simp [hxy]
      clear hget hrow hgx hgy hxy hrl
      go_wp2_with fail
      go_quiet (fail)
      go_wp2_with fail
      go_roundw
      case rel => exact ⟨k + 1, hlt, by go_num, (by first | exact Drew.refl _ | exact Drew.mk _ _ | exact (Drew.mk _ _).drewN _)⟩
      case measure => simp [intOf]; omega
    · go_wp2_with fail
      go_ret
      exact ⟨rfl, (by first | exact Drew.refl _ | exact Drew.mk _ _ | exact (Drew.mk _ _).drewN _)⟩
set_option maxRecDepth 20000 in
set_option maxHeartbeats 3200000 in
theorem sJoinOut_in (p : Option Addr) (n c : Nat) (X : List (List Int)) (i j : Nat) (w : World) (h : Intss w p n X) (hm : isMat X = true) (hij : i < j) (hj : j < n) (hcol : ∀ (k : Nat) (r : List Int), X[k]? = some r → r.getD i 0 = r.getD j 0)
    (hres : isMat (minorT (sumT X i j) j j) = true) :
    Calls Try.prog 43 #[.slice p n c, .int .i64 i, .int .i64 j] w fun e w' => ∃ v, e = .returned (.tuple #[v, .bool true]) ∧ OIntss w' w.heap.size v (minorT (sumT X i j) j j).length (minorT (sumT X i j) j j) ∧ Below w.heap.size w w' := by
  have HL : Hid (X.length = n) := h.1
  have H := Lib.hid h
  have HM := Lib.hid hm
  have HR : Hid (RowsLen X n) := isMat_rowsLen hm h.1
  have HC := Lib.hid hcol
  have HRES := Lib.hid hres
  have hn9 : n ≤ 9 := by have := (isMat_len hm).2; have := HL.out; omega
  have HRB : Hid (∀ r ∈ X, r.length ≤ 1048576) := fun r hr => by obtain ⟨k, hk⟩ := List.getElem?_of_mem hr; rw [HR.out k r hk]; omega
  have hin : i < n := by omega
  have hd0 : decide ((i : Int) < 0) = false := decide_eq_false (by omega)
  have hd1 : decide ((j : Int) ≤ (i : Int)) = false := decide_eq_false (by omega)
  have hd2 : decide ((n : Int) ≤ (j : Int)) = false := decide_eq_false (by omega)
  have hd3 : decide (j ≤ i) = false := decide_eq_false (by omega)
  have hd4 : decide (n ≤ j) = false := decide_eq_false (by omega)
  clear h hm hcol hres
  go_enter Try.func43, Try.ntmps43
  go_wp2_with fail
  refine (sIsMatrix_any _ _ _ X _ H.out).mono ?_
  rw [HM.out]
  rintro e w' ⟨rfl, rfl⟩
  go_wp2_with fail
  refine (sColumns_yes _ _ _ X i j _ H.out HR.out (by omega) hj HC.out).mono ?_
  rintro e w1 ⟨rfl, hdw⟩
  have Hb1 := Lib.hid (hdw.below w.heap.size)
  have H1 := Lib.hid (H.out.keep (hdw.below _))
  clear hdw
  go_wp2_with fail
  refine (sCopy_any _ _ _ X _ H1.out (by omega) HRB.out).mono ?_
  rintro e w2 ⟨v2, rfl, ho2, hb2⟩
  obtain ⟨g, cap, rfl⟩ := ho2.head (by omega)
  have Ho2 := Lib.hid ho2
  have Hb2 := Lib.hid hb2
  have hs1 := Hb1.out.size
  clear ho2 hb2
  obtain ⟨bi, oi, ai, ci, ra, rfl, hcai, hrowa, hga⟩ := H1.out.at_ (k := i) (by omega)
  obtain ⟨bj, oj, aj, cj, rb, ej, hcbj, hrowb, hgb⟩ := H1.out.at_ (k := j) hj
  injection ej with ej
  injection ej with ej1 ej2
  subst ej1
  subst ej2
  have hla : ra.length = n := HR.out _ _ hga.out
  have hlb : rb.length = n := HR.out _ _ hgb.out
  have HGA := Lib.hid hga.out
  have HLA := Lib.hid hla
  have HLB := Lib.hid hlb
  have HRB2 := Lib.hid hrowb
  have HBA := Lib.hid (isMat_row HM.out hga.out).2
  have HBB := Lib.hid (isMat_row HM.out hgb.out).2
  have HX0 : Hid (X.set i ((addL ra rb).take 0 ++ ra.drop 0) = X) := by
    show _ = _
    rw [List.take_zero, List.drop_zero, List.nil_append]
    apply List.ext_getElem?
    intro q
    rw [List.getElem?_set]
    by_cases e : i = q
    · subst e; rw [if_pos rfl, if_pos (by rw [HL.out]; omega), hga.out]
    · rw [if_neg e]
  have HSUM : Hid (X.set i (addL ra rb) = sumT X i j) := by show _ = _; unfold sumT; rw [getD_of hga.out, getD_of hgb.out]
  have HLAB : Hid ((addL ra rb).length = n) := by show _ = _; rw [addL_len (by rw [hla, hlb]), hla]
  clear hcai hrowa hga hgb hla hlb hrowb
  go_wp2_with fail
  go_loopw [9] (fun x wr => ∃ k : Nat, k ≤ n ∧ x = .int .i64 k ∧ OIntss wr w1.heap.size (.slice (some ⟨g, 0, none⟩) n cap) n (X.set i ((addL ra rb).take k ++ ra.drop k)) ∧ Below w1.heap.size w1 wr) (fun x _ => n - (intOf x).toNat)
  case atStart => exact ⟨0, Nat.zero_le _, rfl, by rw [HX0.out]; exact Ho2.out, Hb2.out⟩
  case round =>
    obtain ⟨k, hk, rfl, hown, hbl⟩ := hrel
    clear Ho2 Hb2 HX0
    by_cases hlt : k < n
    · obtain ⟨x, hx⟩ : ∃ x, ra[k]? = some x := ⟨_, List.getElem?_eq_getElem (by rw [HLA.out]; exact hlt)⟩
      obtain ⟨b4, o4, y, rfl, hcy, hgy⟩ := HRB2.out.at_ (k := k) (by rw [HLB.out]; exact hlt)
      have hxb := allIn_get HBA.out hx
      have hyb := allIn_get HBB.out hgy.out
      have hmixg : ((addL ra rb).take k ++ ra.drop k)[k]? = some x := mix_get (by rw [HLAB.out]; omega) hx
      have hmixs := mix_set (M := addL ra rb) (N := ra) hx (addL_get hx hgy.out)
      have hmixl : ((addL ra rb).take k ++ ra.drop k).length = n := by rw [List.length_append, List.length_take, List.length_drop, HLAB.out, HLA.out]; omega
      have hii : (X.set i ((addL ra rb).take k ++ ra.drop k))[i]? = some ((addL ra rb).take k ++ ra.drop k) := by rw [List.getElem?_set, if_pos rfl, if_pos (by rw [HL.out]; omega)]
      generalize (addL ra rb).take k ++ ra.drop k = mx at hown hmixg hmixs hmixl hii
      obtain ⟨gk, ck, h5, ho, hne, hlo⟩ := hown.rowAt hii (by omega)
      have hset := hown.setIn hii h5 ho k (x + y)
      rw [List.set_set, hmixs] at hset
      rw [hmixl] at h5 ho
      have h6 := ho.cell k hlt
      rw [getD_of hmixg] at h6
      have h7 := ho.frozen k
      have q1 := (hbl.cell (World.block_lt_of_cell? _ _ hcbj)).trans hcbj
      have q2 := (hbl.cell (World.block_lt_of_cell? _ _ hcy)).trans hcy
      have hkb : k < rb.length := by rw [HLB.out]; exact hlt
      have hw1 : IntKind.i64.wrap (x + y) = x + y := by rw [wrap_i64_eq]; unfold wrap64; omega
      have hw2 : wrap64 (x + y) = x + y := by unfold wrap64; omega
      have Hset := Lib.hid hset
      have Hb' := Lib.hid (hbl.setCell (p := ⟨gk, k, none⟩) hlo (.int .i64 (x + y)))
      clear hset ho hown hbl hcy hgy hmixg hmixs hmixl hii hx hxb hyb
      go_wp2_with fail
      go_still_tail 21, (by kernel_rfl)
      change wpList _ _ _ _ _ wr.drew
      go_wp2_with fail
      go_roundw
      all_goals first
        | exact ⟨k + 1, hlt, by go_num, by first | exact Hset.out | exact Hset.out.drewN 1, by first | exact Hb'.out | exact Hb'.out.drew⟩
        | (simp [intOf]; omega)
    · have hkn : k = n := by omega
      have hend : (addL ra rb).take k ++ ra.drop k = addL ra rb := by rw [hkn]; exact mix_end HLAB.out HLA.out
      rw [hend, HSUM.out] at hown
      have HOS := Lib.hid hown
      have HRS : Hid (RowsLen (sumT X i j) n) := by
        intro q r hq
        have hq2 : (X.set i (addL ra rb))[q]? = some r := by rw [HSUM.out]; exact hq
        rw [List.getElem?_set] at hq2
        by_cases e : i = q
        · rw [if_pos e] at hq2
          split at hq2
          · injection hq2 with hq2
            rw [← hq2, HLAB.out]
          · cases hq2
        · rw [if_neg e] at hq2
          exact HR.out q r hq2
      have Hbl := Lib.hid hbl
      have hdk : decide ((k : Int) < (n : Int)) = false := decide_eq_false (by omega)
      have hdk2 : decide (k < n) = false := decide_eq_false (by omega)
      clear hown hbl hcbj
      go_wp2_with fail
      refine (sMinor_any _ _ _ (sumT X i j) j j n _ HOS.out.readI HRS.out hj (by omega) (by omega)).mono ?_
      rintro e w4 ⟨v4, rfl, ho4, hb4⟩
      obtain ⟨a4, c4, rfl, hi4⟩ := ho4.form
      have Ho4 := Lib.hid ho4
      have HI4 := Lib.hid hi4
      have Hb4 := Lib.hid (step2 Hbl.out hb4)
      have hs3 := Hbl.out.size
      clear ho4 hb4 hi4
      go_wp2_with fail
      refine (sIsMatrix_any _ _ _ (minorT (sumT X i j) j j) _ HI4.out).mono ?_
      rw [HRES.out]
      rintro e w' ⟨rfl, rfl⟩
      go_wp2_with fail
      go_ret2
      exact ⟨_, rfl, Ho4.out.mono (by omega), Hb1.out.trans (Hb4.out.mono hs1)⟩
end Go.Proofs.Ytblkgkgopneleaa

namespace Go.Proofs.Ytblkgkgopneleaa
open Go.RowKit
set_option linter.all false
/-- The paths of a length from a vertex to itself. -/
def rooted (m : List (List Int)) (i n : Int) : Int :=
  if isMat m && (inR i 0 (m.length - 1) && inR n 1 30) then (match powM m n with
    | none => -1
    | some p => (p.getD i.toNat []).getD i.toNat 0) else -1
theorem rooted_mat {m : List (List Int)} {i n : Int} (h : isMat m = false) : rooted m i n = -1 := by simp [rooted, h]
theorem rooted_i {m : List (List Int)} {i n : Int} (h : inR i 0 (m.length - 1) = false) : rooted m i n = -1 := by simp [rooted, h]
theorem rooted_n {m : List (List Int)} {i n : Int} (h : inR n 1 30 = false) : rooted m i n = -1 := by simp [rooted, h]
theorem rooted_none {m : List (List Int)} {i n : Int} (h : powM m n = none) : rooted m i n = -1 := by simp [rooted, h]
theorem rooted_some {m p r : List (List Int)} {i : Nat} {n x : Int} {q : List Int} (h1 : isMat m = true) (h2 : inR (i : Int) 0 (m.length - 1) = true) (h3 : inR n 1 30 = true) (h : powM m n = some p) (hq : p[i]? = some q) (hx : q[i]? = some x) : rooted m i n = x := by
  simp [rooted, h1, h2, h3, h, List.getD, hq, hx]
end Go.Proofs.Ytblkgkgopneleaa

namespace Go.Proofs.Ytblkgkgopneleaa
open Go.RowKit
set_option linter.all false
def Sm : Nat → (Nat → Int) → Int
  | 0, _ => 0
  | n + 1, f => Sm n f + f n
theorem Sm_congr : ∀ (n : Nat) (f g : Nat → Int), (∀ j, j < n → f j = g j) → Sm n f = Sm n g
  | 0, _, _, _ => rfl
  | n + 1, f, g, h => by
    unfold Sm
    rw [Sm_congr n f g (fun j hj => h j (by omega)), h n (by omega)]
theorem Sm_add : ∀ (n : Nat) (f g : Nat → Int), Sm n (fun j => f j + g j) = Sm n f + Sm n g
  | 0, _, _ => rfl
  | n + 1, f, g => by
    unfold Sm
    rw [Sm_add n f g]
    dsimp only
    omega
theorem Sm_mul : ∀ (n : Nat) (c : Int) (f : Nat → Int), Sm n (fun j => c * f j) = c * Sm n f
  | 0, c, _ => by simp [Sm]
  | n + 1, c, f => by
    unfold Sm
    rw [Sm_mul n c f, Int.mul_add]
theorem Sm_zero : ∀ (n : Nat), Sm n (fun _ => 0) = 0
  | 0 => rfl
  | n + 1 => by unfold Sm; rw [Sm_zero n]; rfl
theorem Sm_comm : ∀ (n m : Nat) (f : Nat → Nat → Int), Sm n (fun j => Sm m (fun t => f j t)) = Sm m (fun t => Sm n (fun j => f j t))
  | 0, m, f => by simp only [Sm]; rw [Sm_zero]
  | n + 1, m, f => by
    show Sm n (fun j => Sm m (fun t => f j t)) + Sm m (fun t => f n t) = Sm m (fun t => Sm n (fun j => f j t) + f n t)
    rw [Sm_add, Sm_comm n m f]
theorem Sm_first : ∀ (n : Nat) (f : Nat → Int), Sm (n + 1) f = f 0 + Sm n (fun j => f (j + 1))
  | 0, f => by simp [Sm]
  | n + 1, f => by
    show Sm (n + 1) f + f (n + 1) = f 0 + (Sm n (fun j => f (j + 1)) + f (n + 1))
    rw [Sm_first n f]
    omega
theorem Sm_one : ∀ (n i : Nat) (g : Nat → Int), i < n → Sm n (fun j => (if j = i then 1 else 0) * g j) = g i
  | 0, i, g, h => by omega
  | n + 1, i, g, h => by
    unfold Sm
    by_cases e : n = i
    · subst e
      have : Sm n (fun j => (if j = n then 1 else 0) * g j) = Sm n (fun _ => 0) := Sm_congr n _ _ (fun j hj => by rw [if_neg (by omega)]; simp)
      rw [this, Sm_zero]
      dsimp only
      rw [if_pos rfl]
      omega
    · rw [Sm_one n i g (by omega)]
      dsimp only
      rw [if_neg e]
      omega
section
variable (N i : Nat) (A : Nat → Nat → Int)
/-- The row of i in the power k. -/
def TT : Nat → Nat → Int
  | 0, j => if j = i then 1 else 0
  | k + 1, l => Sm N (fun j => TT k j * A j l)
/-- Paths of k + 1 arcs from i that have not yet come back ahead of their end. -/
def RR : Nat → Nat → Int
  | 0, j => A i j
  | k + 1, l => Sm N (fun j => (if j = i then 0 else RR k j) * A j l)
def FF (k : Nat) : Int := RR N i A k i
theorem TT_one (hi : i < N) (l : Nat) : TT N i A 1 l = A i l := Sm_one N i (fun j => A j l) hi
theorem RR_split (hi : i < N) (k l : Nat) : Sm N (fun j => RR N i A k j * A j l) = RR N i A (k + 1) l + FF N i A k * A i l := by
  have h1 : Sm N (fun j => RR N i A k j * A j l) = Sm N (fun j => (if j = i then 0 else RR N i A k j) * A j l + (if j = i then 1 else 0) * (RR N i A k i * A j l)) := by
    refine Sm_congr N _ _ (fun j _ => ?_)
    by_cases e : j = i
    · subst e; simp
    · simp [e]
  rw [h1, Sm_add, Sm_one N i (fun j => RR N i A k i * A j l) hi]
  rfl
/-- All rooted paths are sums over the place of their first return. -/
theorem renew (hi : i < N) : ∀ (k l : Nat), TT N i A (k + 1) l = RR N i A k l + Sm k (fun t => FF N i A t * TT N i A (k - t) l)
  | 0, l => by
    rw [TT_one N i A hi l]
    simp [Sm, RR]
  | k + 1, l => by
    have ih := renew hi k
    show Sm N (fun j => TT N i A (k + 1) j * A j l) = _
    have h1 : Sm N (fun j => TT N i A (k + 1) j * A j l) = Sm N (fun j => RR N i A k j * A j l + Sm k (fun t => FF N i A t * (TT N i A (k - t) j * A j l))) := by
      refine Sm_congr N _ _ (fun j _ => ?_)
      rw [ih j, Int.add_mul]
      congr 1
      rw [Int.mul_comm, ← Sm_mul]
      refine Sm_congr k _ _ (fun t _ => ?_)
      rw [Int.mul_left_comm, Int.mul_comm (A j l)]
    rw [h1, Sm_add, RR_split N i A hi k l, Sm_comm]
    have h2 : Sm k (fun t => Sm N (fun j => FF N i A t * (TT N i A (k - t) j * A j l))) = Sm k (fun t => FF N i A t * TT N i A (k + 1 - t) l) := by
      refine Sm_congr k _ _ (fun t ht => ?_)
      rw [Sm_mul, show k + 1 - t = (k - t) + 1 by omega]
      rfl
    rw [h2]
    show _ = RR N i A (k + 1) l + (Sm k (fun t => FF N i A t * TT N i A (k + 1 - t) l) + FF N i A k * TT N i A (k + 1 - k) l)
    rw [show k + 1 - k = 1 by omega, TT_one N i A hi l]
    omega
end
/-- Two numbers that a machine word does not tell apart. -/
def Cg (x y : Int) : Prop := ∃ k : Int, x = y + k * 18446744073709551616
theorem Cg.refl (x : Int) : Cg x x := ⟨0, by omega⟩
theorem Cg.of_eq {x y : Int} (h : x = y) : Cg x y := h ▸ Cg.refl x
theorem Cg.symm {x y : Int} (h : Cg x y) : Cg y x := by obtain ⟨k, h⟩ := h; exact ⟨-k, by omega⟩
theorem Cg.trans {x y z : Int} (h : Cg x y) (g : Cg y z) : Cg x z := by
  obtain ⟨k, h⟩ := h
  obtain ⟨l, g⟩ := g
  exact ⟨k + l, by omega⟩
theorem Cg.add {x y a b : Int} (h : Cg x y) (g : Cg a b) : Cg (x + a) (y + b) := by
  obtain ⟨k, h⟩ := h
  obtain ⟨l, g⟩ := g
  exact ⟨k + l, by omega⟩
theorem Cg.sub {x y a b : Int} (h : Cg x y) (g : Cg a b) : Cg (x - a) (y - b) := by
  obtain ⟨k, h⟩ := h
  obtain ⟨l, g⟩ := g
  exact ⟨k - l, by omega⟩
theorem Cg.mul {x y a b : Int} (h : Cg x y) (g : Cg a b) : Cg (x * a) (y * b) := by
  obtain ⟨k, rfl⟩ := h
  obtain ⟨l, rfl⟩ := g
  refine ⟨k * b + y * l + k * l * 18446744073709551616, ?_⟩
  generalize 18446744073709551616 = M
  simp only [Int.mul_add, Int.add_mul, Int.mul_assoc, Int.mul_comm, Int.mul_left_comm]
  omega
theorem Cg.wrap (x : Int) : Cg (wrap64 x) x := by
  unfold wrap64
  refine ⟨-((x + 9223372036854775808) / 18446744073709551616), ?_⟩
  omega
theorem Cg.eq {x y : Int} (h : Cg x y) : wrap64 x = wrap64 y := by
  obtain ⟨k, rfl⟩ := h
  unfold wrap64
  omega
theorem Cg.same {x y : Int} (h : Cg x y) (hx : wrap64 x = x) (hy : wrap64 y = y) : x = y := by rw [← hx, ← hy]; exact h.eq
theorem Sm_Cg : ∀ (n : Nat) (f g : Nat → Int), (∀ j, j < n → Cg (f j) (g j)) → Cg (Sm n f) (Sm n g)
  | 0, _, _, _ => Cg.refl _
  | n + 1, f, g, h => (Sm_Cg n f g (fun j hj => h j (by omega))).add (h n (by omega))
theorem wdot_Cg : ∀ (r v : List Int) (a : Int), r.length = v.length → Cg (wdot a r v) (a + Sm r.length (fun j => r.getD j 0 * v.getD j 0))
  | [], [], a, _ => by simp [wdot, Sm]; exact Cg.refl _
  | x :: r, y :: v, a, h => by
    have ih := wdot_Cg r v (wrap64 (a + wrap64 (x * y))) (by simpa using h)
    show Cg (wdot (wrap64 (a + wrap64 (x * y))) r v) _
    refine ih.trans ?_
    rw [List.length_cons, Sm_first]
    have h1 : Cg (wrap64 (a + wrap64 (x * y))) (a + x * y) := (Cg.wrap _).trans ((Cg.refl a).add (Cg.wrap _))
    have h2 := h1.add (Cg.refl (Sm r.length (fun j => r.getD j 0 * v.getD j 0)))
    refine h2.trans (Cg.of_eq ?_)
    simp only [List.getD_cons_zero, List.getD_cons_succ]
    omega
end Go.Proofs.Ytblkgkgopneleaa

namespace Go.Proofs.Ytblkgkgopneleaa
open Go.RowKit
set_option linter.all false
def entA (m : List (List Int)) (j l : Nat) : Int := (m.getD j []).getD l 0
def frRow (m : List (List Int)) (i : Nat) : Nat → List Int
  | 0 => m.getD i []
  | k + 1 => mulRow m m.length ((frRow m i k).set i 0)
theorem wdot_canon : ∀ (r v : List Int) (a : Int), wrap64 a = a → wrap64 (wdot a r v) = wdot a r v
  | [], _, a, h => by simpa [wdot] using h
  | x :: r, [], a, h => by simpa [wdot] using h
  | x :: r, y :: v, a, _ => wdot_canon r v _ (Cg.wrap _).eq
theorem getD_get {α : Type} {xs : List α} {k : Nat} {x d : α} (h : xs[k]? = some x) : xs.getD k d = x := by simp [List.getD, h]
theorem get_lt {α : Type} (xs : List α) (k : Nat) (d : α) (h : k < xs.length) : xs[k]? = some (xs.getD k d) := by simp [List.getD, h]
theorem row_mul {m : List (List Int)} {r : List Int} {l : Nat} (hr : r.length = m.length) (hl : l < m.length) :
    Cg ((mulRow m m.length r).getD l 0) (Sm m.length (fun j => r.getD j 0 * entA m j l)) ∧ wrap64 ((mulRow m m.length r).getD l 0) = (mulRow m m.length r).getD l 0 := by
  rw [getD_get (mulRow_get hl)]
  refine ⟨?_, wdot_canon _ _ _ (wrap_id (by omega))⟩
  have h := wdot_Cg r (col m l) 0 (by simp [col, hr])
  rw [hr] at h
  refine h.trans (Cg.of_eq ?_)
  rw [Int.zero_add]
  refine Sm_congr _ _ _ (fun j hj => ?_)
  congr 1
  show (col m l).getD j 0 = (m.getD j []).getD l 0
  simp [col, List.getD, hj]
theorem entA_canon {m : List (List Int)} (hm : isMat m = true) {j l : Nat} (hj : j < m.length) (hl : l < m.length) : wrap64 (entA m j l) = entA m j l := by
  have h1 := get_lt m j [] hj
  have h2 := isMat_row hm h1
  have h3 := allIn_get h2.2 (get_lt (m.getD j []) l 0 (by rw [h2.1]; exact hl))
  exact wrap_id ⟨by unfold entA; omega, by unfold entA; omega⟩
theorem frRow_len {m : List (List Int)} (hm : isMat m = true) {i : Nat} (hi : i < m.length) : ∀ k, (frRow m i k).length = m.length
  | 0 => (isMat_row hm (get_lt m i [] hi)).1
  | k + 1 => mulRow_len _ _ _
theorem frRow_Cg {m : List (List Int)} (hm : isMat m = true) {i : Nat} (hi : i < m.length) : ∀ (k l : Nat), l < m.length →
    Cg ((frRow m i k).getD l 0) (RR m.length i (entA m) k l) ∧ wrap64 ((frRow m i k).getD l 0) = (frRow m i k).getD l 0
  | 0, l, hl => ⟨Cg.refl _, entA_canon hm hi hl⟩
  | k + 1, l, hl => by
    have h := row_mul (m := m) (r := (frRow m i k).set i 0) (l := l) (by rw [List.length_set, frRow_len hm hi]) hl
    refine ⟨h.1.trans ?_, h.2⟩
    refine Sm_Cg _ _ _ (fun j hj => ?_)
    refine Cg.mul ?_ (Cg.refl _)
    have hjl : j < (frRow m i k).length := by rw [frRow_len hm hi]; exact hj
    by_cases e : j = i
    · subst e
      simp [List.getD, List.getElem?_set, hjl]
      exact Cg.refl _
    · have h2 : ((frRow m i k).set i 0).getD j 0 = (frRow m i k).getD j 0 := by
        simp only [List.getD, List.getElem?_set]
        rw [if_neg (fun e2 => e e2.symm)]
      rw [h2]
      simp only [if_neg e]
      exact (frRow_Cg hm hi k j hj).1
theorem mulM_is {a b c : List (List Int)} (h : mulM a b = some c) : c = mulT a b b.length ∧ isMat a = true ∧ a.length = b.length := by
  unfold mulM at h
  split at h
  · rename_i h1
    injection h with h
    simp only [Bool.and_eq_true, decide_eq_true_eq] at h1
    exact ⟨h.symm, h1.1, h1.2.2.1⟩
  · cases h
theorem iterM_row {m : List (List Int)} {i : Nat} (hi : i < m.length) : ∀ (k t : Nat) (acc p : List (List Int)), acc.length = m.length → (acc.getD i []).length = m.length →
    (∀ l, l < m.length → Cg ((acc.getD i []).getD l 0) (TT m.length i (entA m) t l)) → iterM m k acc = some p → ∀ l, l < m.length → Cg ((p.getD i []).getD l 0) (TT m.length i (entA m) (t + k) l)
  | 0, t, acc, p, _, _, h, e => by
    injection e with e
    subst e
    exact h
  | k + 1, t, acc, p, h1, h2, h, e => by
    cases hq : mulM acc m with
    | none => rw [iterM_none hq] at e; cases e
    | some q =>
      rw [iterM_some hq] at e
      have hq2 := mulM_is hq
      have hrow : q.getD i [] = mulRow m m.length (acc.getD i []) := by
        rw [hq2.1]
        exact getD_get (mulT_get (get_lt acc i [] (by omega)))
      have := iterM_row hi k (t + 1) q p (by rw [hq2.1, mulT_len]; exact h1) (by rw [hrow, mulRow_len]) (by
        intro l hl
        rw [hrow]
        refine (row_mul h2 hl).1.trans ?_
        exact Sm_Cg _ _ _ (fun j hj => (h j hj).mul (Cg.refl _))) e
      intro l hl
      have h5 := this l hl
      rw [show t + 1 + k = t + (k + 1) by omega] at h5
      exact h5
theorem iterM_pre {m : List (List Int)} : ∀ (a b : Nat) (acc p : List (List Int)), iterM m (a + b) acc = some p → ∃ q, iterM m a acc = some q
  | 0, b, acc, p, _ => ⟨acc, rfl⟩
  | a + 1, b, acc, p, h => by
    rw [show a + 1 + b = (a + b) + 1 by omega] at h
    cases hq : mulM acc m with
    | none => rw [iterM_none hq] at h; cases h
    | some q =>
      rw [iterM_some hq] at h ⊢
      exact iterM_pre a b q p h
theorem rooted_facts {m : List (List Int)} {i n : Int} (h : ¬ rooted m i n < 0) : isMat m = true ∧ 0 ≤ i ∧ i.toNat < m.length ∧ 1 ≤ n ∧ n ≤ 30 ∧
    ∀ k : Nat, 1 ≤ k → (k : Int) ≤ n → Cg (rooted m i k) (TT m.length i.toNat (entA m) k i.toNat) ∧ wrap64 (rooted m i k) = rooted m i k := by
  cases h1 : isMat m
  · rw [rooted_mat h1] at h; omega
  cases h2 : inR i 0 (m.length - 1)
  · rw [rooted_i h2] at h; omega
  cases h3 : inR n 1 30
  · rw [rooted_n h3] at h; omega
  have b2 := inR_true h2
  have b3 := inR_true h3
  obtain ⟨i0, rfl⟩ := Int.eq_ofNat_of_zero_le b2.1
  have hi : i0 < m.length := by omega
  refine ⟨rfl, b2.1, hi, b3.1, b3.2, ?_⟩
  intro k hk1 hk2
  have h4 : inR n 0 30 = true := inR_mk ⟨by omega, by omega⟩
  have h5 : inR (k : Int) 0 30 = true := inR_mk ⟨by omega, by omega⟩
  cases hp : powM m n with
  | none => rw [rooted_none hp] at h; omega
  | some p =>
    rw [powM_iter h1 h4] at hp
    have e : n.toNat = k + (n.toNat - k) := by omega
    rw [e] at hp
    obtain ⟨q, hq⟩ := iterM_pre k (n.toNat - k) _ _ hp
    have hpk : powM m (k : Int) = some q := by rw [powM_iter h1 h5]; exact hq
    have hqm := powM_mat hpk
    have hr : rooted m (i0 : Int) (k : Int) = (q.getD i0 []).getD i0 0 := by
      have h6 : inR (k : Int) 1 30 = true := inR_mk ⟨by omega, by omega⟩
      simp [rooted, h1, h2, h6, hpk]
    have hrow := isMat_row hqm.2.1 (get_lt q i0 [] (by rw [hqm.2.2]; exact hi))
    rw [hr]
    constructor
    · have h7 := iterM_row hi k 0 (oneT m.length) q (oneT_len _) (by rw [getD_get (oneT_get hi)]; exact oneRow_len _ _) (by
        intro l hl
        rw [getD_get (oneT_get hi)]
        refine Cg.of_eq ?_
        show (oneRow m.length i0).getD l 0 = if l = i0 then 1 else 0
        unfold oneRow
        simp only [List.getD, List.getElem?_set, List.length_replicate]
        by_cases e : i0 = l
        · subst e; simp [hi]
        · rw [if_neg e, if_neg (fun e2 => e e2.symm)]
          simp [List.getElem?_replicate, hl]) hq i0 hi
      rw [Nat.zero_add] at h7
      exact h7
    · have h8 := allIn_get hrow.2 (get_lt (q.getD i0 []) i0 0 (by rw [hrow.1, hqm.2.2]; exact hi))
      exact wrap_id ⟨by omega, by omega⟩
/-- The sums that are taken off, one after the other. -/
def conv (fs rs : List Int) (k : Nat) : Nat → Nat → Int → Int
  | 0, _, f => f
  | c + 1, l, f => conv fs rs k c (l + 1) (wrap64 (f - wrap64 (fs.getD l 0 * rs.getD (k - l) 0)))
theorem conv_Cg (fs rs : List Int) (k : Nat) : ∀ (c l : Nat) (f : Int), wrap64 f = f → Cg (conv fs rs k c l f) (f - Sm c (fun t => fs.getD (l + t) 0 * rs.getD (k - (l + t)) 0)) ∧ wrap64 (conv fs rs k c l f) = conv fs rs k c l f
  | 0, l, f, hf => ⟨Cg.of_eq (by simp [conv, Sm]), hf⟩
  | c + 1, l, f, hf => by
    have ih := conv_Cg fs rs k c (l + 1) (wrap64 (f - wrap64 (fs.getD l 0 * rs.getD (k - l) 0))) (Cg.wrap _).eq
    refine ⟨ih.1.trans ?_, ih.2⟩
    rw [Sm_first]
    have h1 : Cg (wrap64 (f - wrap64 (fs.getD l 0 * rs.getD (k - l) 0))) (f - fs.getD l 0 * rs.getD (k - l) 0) := (Cg.wrap _).trans ((Cg.refl f).sub (Cg.wrap _))
    refine (h1.sub (Cg.refl _)).trans (Cg.of_eq ?_)
    have h2 : Sm c (fun t => fs.getD (l + 1 + t) 0 * rs.getD (k - (l + 1 + t)) 0) = Sm c (fun j => fs.getD (l + (j + 1)) 0 * rs.getD (k - (l + (j + 1))) 0) :=
      Sm_congr c _ _ (fun t _ => by rw [show l + 1 + t = l + (t + 1) by omega])
    rw [h2]
    simp only [Nat.add_zero]
    omega
def rsL (m : List (List Int)) (i : Int) (k : Nat) : List Int := 1 :: (List.range k).map (fun (t : Nat) => rooted m i ((t : Int) + 1))
def fsL (m : List (List Int)) (i : Int) : Nat → List Int
  | 0 => [0]
  | k + 1 => fsL m i k ++ [conv (fsL m i k) (rsL m i (k + 1)) (k + 1) k 1 ((rsL m i (k + 1)).getD (k + 1) 0)]
theorem rsL_len (m : List (List Int)) (i : Int) (k : Nat) : (rsL m i k).length = k + 1 := by simp [rsL]
theorem fsL_len (m : List (List Int)) (i : Int) : ∀ k, (fsL m i k).length = k + 1
  | 0 => rfl
  | k + 1 => by simp [fsL, fsL_len m i k]
theorem rsL_get {m : List (List Int)} {i : Int} {k t : Nat} (h1 : 1 ≤ t) (h2 : t ≤ k) : (rsL m i k).getD t 0 = rooted m i t := by
  obtain ⟨s, rfl⟩ : ∃ s, t = s + 1 := ⟨t - 1, by omega⟩
  have hs : s < k := by omega
  simp [rsL, List.getD, hs]
theorem rsL_push (m : List (List Int)) (i : Int) (k : Nat) : rsL m i k ++ [rooted m i ((k : Int) + 1)] = rsL m i (k + 1) := by
  simp [rsL, List.range_succ]
theorem fsL_Cg {m : List (List Int)} {i n : Int} (h : ¬ rooted m i n < 0) : ∀ (k : Nat), (k : Int) ≤ n → ∀ t, 1 ≤ t → t ≤ k →
    Cg ((fsL m i k).getD t 0) (FF m.length i.toNat (entA m) (t - 1)) ∧ wrap64 ((fsL m i k).getD t 0) = (fsL m i k).getD t 0
  | 0, _, t, h1, h2 => by omega
  | k + 1, hk, t, h1, h2 => by
    have ih := fsL_Cg h k (by omega)
    have hf := rooted_facts h
    by_cases ht : t ≤ k
    · have e : (fsL m i (k + 1)).getD t 0 = (fsL m i k).getD t 0 := by
        show (fsL m i k ++ [_]).getD t 0 = _
        simp only [List.getD]
        rw [List.getElem?_append_left (by rw [fsL_len]; omega)]
      rw [e]
      exact ih t h1 ht
    · have e : t = k + 1 := by omega
      subst e
      have e : (fsL m i (k + 1)).getD (k + 1) 0 = conv (fsL m i k) (rsL m i (k + 1)) (k + 1) k 1 ((rsL m i (k + 1)).getD (k + 1) 0) := by
        show (fsL m i k ++ [_]).getD (k + 1) 0 = _
        simp only [List.getD]
        rw [List.getElem?_append_right (by rw [fsL_len]; omega), fsL_len]
        simp
      rw [e, rsL_get (by omega) (Nat.le_refl _)]
      have hk1 := hf.2.2.2.2.2 (k + 1) (by omega) hk
      have hc := conv_Cg (fsL m i k) (rsL m i (k + 1)) (k + 1) k 1 (rooted m i ((k + 1 : Nat) : Int)) hk1.2
      refine ⟨hc.1.trans ?_, hc.2⟩
      have hren := renew m.length i.toNat (entA m) hf.2.2.1 k i.toNat
      have h3 : Cg (Sm k (fun t => (fsL m i k).getD (1 + t) 0 * (rsL m i (k + 1)).getD (k + 1 - (1 + t)) 0)) (Sm k (fun t => FF m.length i.toNat (entA m) t * TT m.length i.toNat (entA m) (k - t) i.toNat)) := by
        refine Sm_Cg _ _ _ (fun s hs => ?_)
        have a1 := (ih (1 + s) (by omega) (by omega)).1
        rw [show 1 + s - 1 = s by omega] at a1
        have a2 := (hf.2.2.2.2.2 (k - s) (by omega) (by omega)).1
        rw [← rsL_get (k := k + 1) (by omega) (by omega)] at a2
        rw [show k + 1 - (1 + s) = k - s by omega]
        exact a1.mul a2
      refine (hk1.1.sub h3).trans (Cg.of_eq ?_)
      rw [hren, show k + 1 - 1 = k by omega]
      unfold FF
      omega
def firstR (m : List (List Int)) (i n : Int) : Int := if 10 < n then -1 else if rooted m i n < 0 then -1 else (frRow m i.toNat (n.toNat - 1)).getD i.toNat 0
/-- Both roads come to one number. -/
theorem first_both {m : List (List Int)} {i n : Int} (h : ¬ rooted m i n < 0) : (fsL m i n.toNat).getD n.toNat 0 = (frRow m i.toNat (n.toNat - 1)).getD i.toNat 0 := by
  have hf := rooted_facts h
  have h1 := fsL_Cg h n.toNat (by omega) n.toNat (by omega) (Nat.le_refl _)
  have h2 := frRow_Cg hf.1 hf.2.2.1 (n.toNat - 1) i.toNat hf.2.2.1
  exact (h1.1.trans h2.1.symm).same h1.2 h2.2
end Go.Proofs.Ytblkgkgopneleaa

namespace Go.Proofs.Ytblkgkgopneleaa
open Go.RowKit
set_option linter.all false
theorem Sm_mulr (n : Nat) (c : Int) (f : Nat → Int) : Sm n (fun j => f j * c) = Sm n f * c := by
  rw [Int.mul_comm, ← Sm_mul]
  exact Sm_congr n _ _ (fun j _ => Int.mul_comm _ _)
theorem Sm_assoc (n m : Nat) (a : Nat → Int) (b : Nat → Nat → Int) (c : Nat → Int) : Sm m (fun l => Sm n (fun j => a j * b j l) * c l) = Sm n (fun j => a j * Sm m (fun l => b j l * c l)) := by
  have h1 : Sm m (fun l => Sm n (fun j => a j * b j l) * c l) = Sm m (fun l => Sm n (fun j => a j * (b j l * c l))) := by
    refine Sm_congr m _ _ (fun l _ => ?_)
    rw [← Sm_mulr]
    exact Sm_congr n _ _ (fun j _ => Int.mul_assoc _ _ _)
  rw [h1, ← Sm_comm]
  exact Sm_congr n _ _ (fun j _ => Sm_mul _ _ _)
/-- The sum of the diagonal of the power k. -/
def tr (n : Nat) (A : Nat → Nat → Int) (k : Nat) : Int := Sm n (fun i => TT n i A k i)
theorem TT_congr {n : Nat} {A B : Nat → Nat → Int} (h : ∀ i j, i < n → j < n → A i j = B i j) (i : Nat) : ∀ k l, l < n → TT n i A k l = TT n i B k l
  | 0, _, _ => rfl
  | k + 1, l, hl => Sm_congr n _ _ (fun j hj => by rw [TT_congr h i k j hj, h j l hj hl])
theorem tr_congr {n : Nat} {A B : Nat → Nat → Int} (h : ∀ i j, i < n → j < n → A i j = B i j) (k : Nat) : tr n A k = tr n B k :=
  Sm_congr n _ _ (fun i hi => TT_congr h i k i hi)
section
variable {n m : Nat} {R S A X : Nat → Nat → Int} (hA : ∀ i j, i < n → j < n → A i j = Sm m (fun q => R i q * S q j)) (hX : ∀ p q, p < m → q < m → X p q = Sm n (fun i => S p i * R i q))
include hA hX
theorem TT_two {k : Nat} (hk : k < n) : ∀ (t q : Nat), q < m → Sm n (fun l => TT n k A t l * R l q) = Sm m (fun p => R k p * TT m p X t q)
  | 0, q, hq => by
    have h1 : Sm n (fun l => TT n k A 0 l * R l q) = R k q := Sm_one n k (fun l => R l q) hk
    have h2 : Sm m (fun p => R k p * TT m p X 0 q) = Sm m (fun p => (if p = q then 1 else 0) * R k p) := by
      refine Sm_congr m _ _ (fun p _ => ?_)
      show R k p * (if q = p then 1 else 0) = _
      by_cases e : p = q
      · subst e; simp
      · rw [if_neg e, if_neg (fun e2 => e e2.symm)]; simp
    rw [h1, h2, Sm_one m q (fun p => R k p) hq]
  | t + 1, q, hq => by
    have ih := TT_two hk t
    show Sm n (fun l => Sm n (fun j => TT n k A t j * A j l) * R l q) = _
    rw [Sm_assoc]
    have h1 : Sm n (fun j => TT n k A t j * Sm n (fun l => A j l * R l q)) = Sm n (fun j => TT n k A t j * Sm m (fun p => R j p * X p q)) := by
      refine Sm_congr n _ _ (fun j hj => ?_)
      congr 1
      have h2 : Sm n (fun l => A j l * R l q) = Sm n (fun l => Sm m (fun p => R j p * S p l) * R l q) := Sm_congr n _ _ (fun l hl => by rw [hA j l hj hl])
      rw [h2, Sm_assoc]
      exact Sm_congr m _ _ (fun p hp => by rw [hX p q hp hq])
    rw [h1, ← Sm_assoc]
    have h3 : Sm m (fun l => Sm n (fun j => TT n k A t j * R j l) * X l q) = Sm m (fun l => Sm m (fun p => R k p * TT m p X t l) * X l q) := Sm_congr m _ _ (fun l hl => by rw [ih l hl])
    rw [h3, Sm_assoc]
    rfl
/-- Both products have the same closed paths. -/
theorem tr_two (t : Nat) : tr n A (t + 1) = tr m X (t + 1) := by
  unfold tr
  have h1 : Sm n (fun k => TT n k A (t + 1) k) = Sm n (fun k => Sm m (fun p => R k p * Sm m (fun l => TT m p X t l * S l k))) := by
    refine Sm_congr n _ _ (fun k hk => ?_)
    show Sm n (fun j => TT n k A t j * A j k) = _
    have h2 : Sm n (fun j => TT n k A t j * A j k) = Sm n (fun j => TT n k A t j * Sm m (fun q => R j q * S q k)) := Sm_congr n _ _ (fun j hj => by rw [hA j k hj hk])
    rw [h2, ← Sm_assoc]
    have h3 : Sm m (fun l => Sm n (fun j => TT n k A t j * R j l) * S l k) = Sm m (fun l => Sm m (fun p => R k p * TT m p X t l) * S l k) := Sm_congr m _ _ (fun l hl => by rw [TT_two hA hX hk t l hl])
    rw [h3, Sm_assoc]
  rw [h1, Sm_comm]
  refine Sm_congr m _ _ (fun p hp => ?_)
  show Sm n (fun k => R k p * Sm m (fun l => TT m p X t l * S l k)) = Sm m (fun l => TT m p X t l * X l p)
  have h4 : Sm n (fun k => R k p * Sm m (fun l => TT m p X t l * S l k)) = Sm n (fun k => Sm m (fun l => TT m p X t l * S l k) * R k p) := Sm_congr n _ _ (fun k _ => Int.mul_comm _ _)
  rw [h4, Sm_assoc]
  exact Sm_congr m _ _ (fun l hl => by rw [hX l p hl hp])
end
theorem TT_left (n : Nat) (A : Nat → Nat → Int) {i : Nat} (hi : i < n) : ∀ (k l : Nat), l < n → TT n i A (k + 1) l = Sm n (fun j => A i j * TT n j A k l)
  | 0, l, hl => by
    rw [TT_one n i A hi l]
    have h2 : Sm n (fun j => A i j * TT n j A 0 l) = Sm n (fun j => (if j = l then 1 else 0) * A i j) := by
      refine Sm_congr n _ _ (fun p _ => ?_)
      show A i p * (if l = p then 1 else 0) = _
      by_cases e : p = l
      · subst e; simp
      · rw [if_neg e, if_neg (fun e2 => e e2.symm)]; simp
    rw [h2, Sm_one n l (fun p => A i p) hl]
  | k + 1, l, hl => by
    have ih := TT_left n A hi k
    show Sm n (fun q => TT n i A (k + 1) q * A q l) = _
    have h1 : Sm n (fun q => TT n i A (k + 1) q * A q l) = Sm n (fun q => Sm n (fun j => A i j * TT n j A k q) * A q l) := Sm_congr n _ _ (fun q hq => by rw [ih q hq])
    rw [h1, Sm_assoc]
    rfl
theorem TT_turn (n : Nat) (A : Nat → Nat → Int) : ∀ (k i l : Nat), i < n → l < n → TT n i (fun a b => A b a) k l = TT n l A k i
  | 0, i, l, _, _ => by
    show (if l = i then 1 else 0) = (if i = l then (1 : Int) else 0)
    by_cases e : l = i
    · subst e; rfl
    · rw [if_neg e, if_neg (fun e2 => e e2.symm)]
  | k + 1, i, l, hi, hl => by
    rw [TT_left n A hl k i hi]
    show Sm n (fun j => TT n i (fun a b => A b a) k j * A l j) = _
    exact Sm_congr n _ _ (fun j hj => by rw [TT_turn n A k i j hi hj, Int.mul_comm])
theorem tr_turn (n : Nat) (A : Nat → Nat → Int) (k : Nat) : tr n (fun a b => A b a) k = tr n A k :=
  Sm_congr n _ _ (fun i hi => TT_turn n A k i i hi hi)
theorem trc_Cg : ∀ (p : List (List Int)) (k : Nat) (a : Int), Cg (trc k a p) (a + Sm p.length (fun i => (p.getD i []).getD (k + i) 0)) ∧ (wrap64 a = a → wrap64 (trc k a p) = trc k a p)
  | [], k, a => ⟨Cg.of_eq (by simp [trc, Sm]), id⟩
  | r :: p, k, a => by
    have ih := trc_Cg p (k + 1) (wrap64 (a + r.getD k 0))
    refine ⟨?_, fun _ => ih.2 (Cg.wrap _).eq⟩
    refine ih.1.trans ?_
    rw [List.length_cons, Sm_first]
    refine ((Cg.wrap _).add (Cg.refl _)).trans (Cg.of_eq ?_)
    have h2 : Sm p.length (fun i => (p.getD i []).getD (k + 1 + i) 0) = Sm p.length (fun j => ((r :: p).getD (j + 1) []).getD (k + (j + 1)) 0) :=
      Sm_congr _ _ _ (fun j _ => by rw [List.getD_cons_succ, show k + 1 + j = k + (j + 1) by omega])
    rw [h2, List.getD_cons_zero, Nat.add_zero]
    omega
theorem Sm_bound (c : Int) : ∀ (n : Nat) (f : Nat → Int), (∀ j, j < n → 0 ≤ f j ∧ f j ≤ c) → 0 ≤ Sm n f ∧ Sm n f ≤ n * c
  | 0, _, _ => by simp [Sm]
  | n + 1, f, h => by
    have ih := Sm_bound c n f (fun j hj => h j (by omega))
    have h1 := h n (by omega)
    show 0 ≤ Sm n f + f n ∧ Sm n f + f n ≤ ((n + 1 : Nat) : Int) * c
    have e : ((n + 1 : Nat) : Int) * c = n * c + c := by rw [Int.natCast_add, Int.add_mul]; simp
    omega
/-- Where a number of closed paths is known, it is the sum of the diagonal. -/
theorem closed_Cg {m : List (List Int)} {k : Int} (h : 0 ≤ closed m k) : isMat m = true ∧ 1 ≤ k ∧ k ≤ 30 ∧ Cg (closed m k) (tr m.length (entA m) k.toNat) ∧ closed m k ≤ 9000000 := by
  unfold closed at h ⊢
  cases h1 : inR k 1 30
  · rw [h1] at h; simp at h
  rw [h1] at h
  simp only [if_true] at h ⊢
  have b1 := inR_true h1
  cases hp : powM m k with
  | none => rw [hp] at h; simp at h
  | some p =>
    rw [hp] at h
    simp only at h ⊢
    have hm := powM_mat hp
    have hl := isMat_len hm.2.1
    have hc := trc_Cg p 0 0
    have hent : ∀ j, j < p.length → 0 ≤ (p.getD j []).getD (0 + j) 0 ∧ (p.getD j []).getD (0 + j) 0 ≤ 1000000 := by
      intro j hj
      rw [Nat.zero_add]
      have h2 := isMat_row hm.2.1 (get_lt p j [] hj)
      exact allIn_get h2.2 (get_lt _ j 0 (by rw [h2.1]; exact hj))
    have hsb := Sm_bound 1000000 p.length _ hent
    have hcan := hc.2 (wrap_id (by omega))
    have heq : trc 0 0 p = Sm p.length (fun i => (p.getD i []).getD (0 + i) 0) := by
      refine Cg.same (hc.1.trans (Cg.of_eq (Int.zero_add _))) hcan (wrap_id ?_)
      have : (p.length : Int) ≤ 9 := by omega
      omega
    refine ⟨hm.1, b1.1, b1.2, ?_, by rw [heq]; have : (p.length : Int) ≤ 9 := by omega
                                     omega⟩
    rw [heq, hm.2.2]
    unfold tr
    refine Sm_Cg _ _ _ (fun i hi => ?_)
    have h4 : inR k 0 30 = true := inR_mk ⟨by omega, by omega⟩
    rw [powM_iter hm.1 h4] at hp
    have h7 := iterM_row hi k.toNat 0 (oneT m.length) p (oneT_len _) (by rw [getD_get (oneT_get hi)]; exact oneRow_len _ _) (by
      intro l hl
      rw [getD_get (oneT_get hi)]
      refine Cg.of_eq ?_
      show (oneRow m.length i).getD l 0 = if l = i then 1 else 0
      unfold oneRow
      simp only [List.getD, List.getElem?_set, List.length_replicate]
      by_cases e : i = l
      · subst e; simp [hi]
      · rw [if_neg e, if_neg (fun e2 => e e2.symm)]
        simp [List.getElem?_replicate, hl]) hp i hi
    rw [Nat.zero_add] at h7 ⊢
    exact h7
/-- Two graphs of which the sums of the diagonals are one have the same closed paths, where these are known. -/
theorem closed_same {m x : List (List Int)} {k : Int} (hm : 0 ≤ closed m k) (hx : 0 ≤ closed x k) (h : ∀ t : Nat, tr x.length (entA x) (t + 1) = tr m.length (entA m) (t + 1)) : closed x k = closed m k := by
  have h1 := closed_Cg hm
  have h2 := closed_Cg hx
  have e : k.toNat = (k.toNat - 1) + 1 := by omega
  have h3 := h (k.toNat - 1)
  rw [← e] at h3
  have h4 := h2.2.2.2.1
  rw [h3] at h4
  exact (h4.trans h1.2.2.2.1.symm).same (wrap_id (by omega)) (wrap_id (by omega))
end Go.Proofs.Ytblkgkgopneleaa

namespace Go.Proofs.Ytblkgkgopneleaa
open Go.RowKit
set_option linter.all false
theorem getD_lt {α : Type} {xs : List α} {k : Nat} {d : α} (h : k < xs.length) : xs[k]? = some (xs.getD k d) := by simp [List.getD, h]
theorem getD_is {α : Type} {xs : List α} {k : Nat} {x d : α} (h : xs[k]? = some x) : xs.getD k d = x := by simp [List.getD, h]
theorem spRow_lt {i l : Nat} {r : List Int} (h : l < r.length) : (spRow i r).getD l 0 = r.getD l 0 := by
  simp only [spRow, List.getD, List.getElem?_append_left h]
theorem spRow_last {i : Nat} {r : List Int} : (spRow i r).getD r.length 0 = r.getD i 0 := by
  simp [spRow, List.getD]
section
variable {m : List (List Int)} {i : Int} {p : List Int} (h : SplFacts m i p)
include h
theorem spl_row {k : Nat} (hk : k < m.length) : (m.getD k []).length = m.length := (isMat_row h.mat (getD_lt (d := ([] : List Int)) hk)).1
/-- The rows of the split table, without their last numbers. -/
theorem spl_rows {q : Nat} (hq : q ≤ m.length) : ∃ r, (spT m i.toNat p)[q]? = some (spRow i.toNat r) ∧ r.length = m.length ∧
    (q = m.length → r = lessL (m.getD i.toNat []) p) ∧ (q ≠ m.length → q = i.toNat → r = p) ∧ (q ≠ m.length → q ≠ i.toNat → r = m.getD q []) := by
  by_cases e : q = m.length
  · subst e
    refine ⟨lessL (m.getD i.toNat []) p, ?_, ?_, fun _ => rfl, fun e => absurd rfl e, fun e => absurd rfl e⟩
    · rw [spT, List.getElem?_append_right (by rw [spTop_len]; exact Nat.le_refl _), spTop_len, Nat.sub_self]; rfl
    · rw [lessL_len (by rw [spl_row h h.il, h.pl]), spl_row h h.il]
  · have hl : q < m.length := by omega
    by_cases e2 : q = i.toNat
    · refine ⟨p, ?_, h.pl, fun e3 => absurd e3 e, fun _ _ => rfl, fun _ e3 => absurd e2 e3⟩
      rw [spT, List.getElem?_append_left (by rw [spTop_len]; exact hl), e2, spTop_at h.il]
    · refine ⟨m.getD q [], ?_, spl_row h hl, fun e3 => absurd e3 e, fun _ e3 => absurd e3 e2, fun _ _ => rfl⟩
      rw [spT, List.getElem?_append_left (by rw [spTop_len]; exact hl), spTop_get (getD_lt hl) e2]
theorem spl_ent {q l : Nat} (hq : q ≤ m.length) (hl : l < m.length) : entA (spT m i.toNat p) q l = if q = m.length then entA m i.toNat l - p.getD l 0 else if q = i.toNat then p.getD l 0 else entA m q l := by
  obtain ⟨r, h1, h2, h3, h4, h5⟩ := spl_rows h hq
  unfold entA
  rw [getD_is h1, spRow_lt (by omega)]
  by_cases e : q = m.length
  · rw [if_pos e, h3 e]
    have hx := getD_lt (d := (0 : Int)) (show l < (m.getD i.toNat []).length by rw [spl_row h h.il]; exact hl)
    have hy := getD_lt (d := (0 : Int)) (show l < p.length by rw [h.pl]; exact hl)
    exact getD_is (lessL_get hx hy)
  · rw [if_neg e]
    by_cases e2 : q = i.toNat
    · rw [if_pos e2, h4 e e2]
    · rw [if_neg e2, h5 e e2]
theorem spl_last {q : Nat} (hq : q ≤ m.length) : entA (spT m i.toNat p) q m.length = entA (spT m i.toNat p) q i.toNat := by
  obtain ⟨r, h1, h2, _⟩ := spl_rows h hq
  unfold entA
  have e1 : (spRow i.toNat r).getD m.length 0 = r.getD i.toNat 0 := by rw [← h2]; exact spRow_last
  have e2 : (spRow i.toNat r).getD i.toNat 0 = r.getD i.toNat 0 := spRow_lt (by rw [h2]; exact h.il)
  rw [getD_is h1, e1, e2]
def prF (n i k q : Nat) : Int := if q = k then 1 else if q = n ∧ k = i then 1 else 0
theorem spl_prodA {k j : Nat} (hk : k < m.length) (hj : j < m.length) : entA m k j = Sm (m.length + 1) (fun q => prF m.length i.toNat k q * entA (spT m i.toNat p) q j) := by
  have h1 : Sm m.length (fun q => prF m.length i.toNat k q * entA (spT m i.toNat p) q j) = entA (spT m i.toNat p) k j := by
    rw [← Sm_one m.length k (fun q => entA (spT m i.toNat p) q j) hk]
    refine Sm_congr _ _ _ (fun q hq => ?_)
    congr 1
    unfold prF
    by_cases e : q = k
    · rw [if_pos e, if_pos e]
    · rw [if_neg e, if_neg e, if_neg (by omega)]
  show _ = Sm m.length _ + prF m.length i.toNat k m.length * _
  rw [h1, spl_ent h (by omega) hj, spl_ent h (Nat.le_refl _) hj, if_pos rfl, if_neg (by omega)]
  unfold prF
  rw [if_neg (show ¬ m.length = k by omega)]
  by_cases e : k = i.toNat
  · rw [if_pos e, if_pos ⟨rfl, e⟩, e]
    omega
  · rw [if_neg e, if_neg (fun e2 => e e2.2)]
    omega
theorem spl_prodX {q l : Nat} (hq : q < m.length + 1) (hl : l < m.length + 1) : entA (spT m i.toNat p) q l = Sm m.length (fun k => entA (spT m i.toNat p) q k * prF m.length i.toNat k l) := by
  by_cases e : l = m.length
  · subst e
    rw [spl_last h (by omega), ← Sm_one m.length i.toNat (fun k => entA (spT m i.toNat p) q k) h.il]
    refine Sm_congr _ _ _ (fun k hk => ?_)
    rw [Int.mul_comm]
    congr 1
    unfold prF
    rw [if_neg (show ¬ m.length = k by omega)]
    by_cases e2 : k = i.toNat
    · rw [if_pos e2, if_pos ⟨rfl, e2⟩]
    · rw [if_neg e2, if_neg (fun e3 => e2 e3.2)]
  · have hll : l < m.length := by omega
    rw [← Sm_one m.length l (fun k => entA (spT m i.toNat p) q k) hll]
    refine Sm_congr _ _ _ (fun k hk => ?_)
    rw [Int.mul_comm]
    congr 1
    unfold prF
    by_cases e2 : k = l
    · rw [if_pos e2, if_pos e2.symm]
    · rw [if_neg e2, if_neg (fun e3 => e2 e3.symm), if_neg (fun e3 => e e3.1)]
theorem spl_tr (t : Nat) : tr (spT m i.toNat p).length (entA (spT m i.toNat p)) (t + 1) = tr m.length (entA m) (t + 1) := by
  rw [spT_len]
  exact (tr_two (R := prF m.length i.toNat) (S := entA (spT m i.toNat p)) (fun k j hk hj => spl_prodA h hk hj) (fun q l hq hl => spl_prodX h hq hl) t).symm
theorem spl_closed {k : Int} (h1 : 0 ≤ closed m k) (h2 : 0 ≤ closed (spT m i.toNat p) k) : closed (spT m i.toNat p) k = closed m k := closed_same h1 h2 (spl_tr h)
end
theorem turn_ent {m : List (List Int)} {a b : Nat} (ha : a < m.length) (hb : b < m.length) : entA (turnT m) a b = entA m b a := by
  unfold entA
  rw [getD_is (turnT_get ha)]
  simp [List.getD, hb]
theorem turn_tr (m : List (List Int)) (t : Nat) : tr (turnT m).length (entA (turnT m)) t = tr m.length (entA m) t := by
  rw [turnT_len, ← tr_turn m.length (entA m) t]
  exact tr_congr (fun a b ha hb => turn_ent ha hb) t
theorem turnM_mat {m : List (List Int)} (h : isMat (turnM m) = true) : isMat m = true ∧ turnM m = turnT m := by
  unfold turnM at h ⊢
  split at h
  · rename_i hm
    exact ⟨hm, by rw [if_pos hm]⟩
  · exact absurd h (by decide)
theorem splIn_closed {m : List (List Int)} {i : Int} {p : List Int} (h : splOk (turnM m) i p = true) {k : Int} (h1 : 0 ≤ closed m k) (h2 : 0 ≤ closed (splInV m i p) k) : closed (splInV m i p) k = closed m k := by
  have hf := splOk_facts h
  have ht := turnM_mat hf.mat
  have hv : splInV m i p = turnT (spT (turnM m) i.toNat p) := by simp [splInV, h]
  rw [hv] at h2 ⊢
  refine closed_same h1 h2 (fun t => ?_)
  rw [turn_tr, spl_tr hf, ht.2, turn_tr]
/- The two products. -/
theorem row_mulG {b : List (List Int)} {r : List Int} {c l : Nat} (hr : r.length = b.length) (hl : l < c) :
    Cg ((mulRow b c r).getD l 0) (Sm b.length (fun j => r.getD j 0 * entA b j l)) ∧ wrap64 ((mulRow b c r).getD l 0) = (mulRow b c r).getD l 0 := by
  rw [getD_is (mulRow_get hl)]
  refine ⟨?_, wdot_canon _ _ _ (wrap_id (by omega))⟩
  have h := wdot_Cg r (col b l) 0 (by simp [col, hr])
  rw [hr] at h
  refine h.trans (Cg.of_eq ?_)
  rw [Int.zero_add]
  refine Sm_congr _ _ _ (fun j hj => ?_)
  congr 1
  show (col b l).getD j 0 = (b.getD j []).getD l 0
  simp [col, List.getD, hj]
theorem tab_ext {X Y : List (List Int)} {n c : Nat} (hx : X.length = n) (hy : Y.length = n) (rx : RowsLen X c) (ry : RowsLen Y c) (h : ∀ a b, a < n → b < c → entA X a b = entA Y a b) : X = Y := by
  refine tp_ext hx hy fun a r s hr hs => ?_
  have ha : a < n := by have := (List.getElem?_eq_some_iff.1 hr).1; omega
  refine row_ext (rx a r hr) (ry a s hs) fun b hb => ?_
  have h1 := h a b ha hb
  unfold entA at h1
  rw [getD_is hr, getD_is hs] at h1
  rw [getD_lt (d := (0 : Int)) (show b < r.length by rw [rx a r hr]; exact hb), getD_lt (d := (0 : Int)) (show b < s.length by rw [ry a s hs]; exact hb), h1]
theorem mul_is {a b X : List (List Int)} {c : Nat} (hra : RowsLen a b.length) (hX : X.length = a.length) (rX : RowsLen X c) (hb : ∀ i j, i < a.length → j < c → wrap64 (entA X i j) = entA X i j ∧ entA X i j = Sm b.length (fun q => entA a i q * entA b q j)) : mulT a b c = X := by
  refine tab_ext (n := a.length) (c := c) (mulT_len _ _ _) hX (mulT_rowsLen _ _ _) rX fun i j hi hj => ?_
  have h1 := row_mulG (b := b) (hra i _ (getD_lt (d := ([] : List Int)) hi)) hj
  have h2 := hb i j hi hj
  have e : entA (mulT a b c) i j = (mulRow b c (a.getD i [])).getD j 0 := by
    unfold entA
    rw [getD_is (mulT_get (getD_lt hi))]
  rw [e]
  refine Cg.same (h1.1.trans (Cg.of_eq ?_)) h1.2 h2.1
  rw [h2.2]
  rfl
section
variable {m : List (List Int)} {i : Int} {p : List Int} (h : SplFacts m i p)
include h
theorem spl_bound {q l : Nat} (hq : q ≤ m.length) (hl : l ≤ m.length) : 0 ≤ entA (spT m i.toNat p) q l ∧ entA (spT m i.toNat p) q l ≤ 1000000 := by
  have key : ∀ l, l < m.length → 0 ≤ entA (spT m i.toNat p) q l ∧ entA (spT m i.toNat p) q l ≤ 1000000 := by
    intro l hl
    have he : ∀ k, k < m.length → 0 ≤ entA m k l ∧ entA m k l ≤ 1000000 := fun k hk => by
      have h1 := isMat_row h.mat (getD_lt (d := ([] : List Int)) hk)
      exact allIn_get h1.2 (getD_lt (by rw [h1.1]; exact hl))
    have h3 := leL_get h.le (getD_lt (d := (0 : Int)) (show l < p.length by rw [h.pl]; exact hl)) (getD_lt (d := (0 : Int)) (show l < (m.getD i.toNat []).length by rw [spl_row h h.il]; exact hl))
    have h4 := he i.toNat h.il
    have e5 : (m.getD i.toNat []).getD l 0 = entA m i.toNat l := rfl
    rw [e5] at h3
    rw [spl_ent h hq hl]
    split
    · omega
    · split
      · omega
      · exact he q (by omega)
  by_cases e : l = m.length
  · subst e
    rw [spl_last h hq]
    exact key _ h.il
  · exact key l (by omega)
theorem spl_mat : isMat (spT m i.toNat p) = true := by
  have hl := isMat_len h.mat
  have hr := rows_split h
  unfold isMat
  rw [Bool.and_eq_true]
  refine ⟨?_, inR_mk (by rw [spT_len]; have := h.n9; omega)⟩
  simp only [tabIn, List.all_eq_true]
  intro r hr2
  obtain ⟨k, hk⟩ := List.getElem?_of_mem hr2
  have hkl : k < m.length + 1 := by have := (List.getElem?_eq_some_iff.1 hk).1; rw [spT_len] at this; exact this
  have h1 := hr k r hk
  rw [Bool.and_eq_true, spT_len]
  refine ⟨by simp [h1], ?_⟩
  simp only [allIn, List.all_eq_true]
  intro x hx
  obtain ⟨l, hl⟩ := List.getElem?_of_mem hx
  have hll : l < m.length + 1 := by have := (List.getElem?_eq_some_iff.1 hl).1; omega
  have hb := spl_bound h (q := k) (l := l) (by omega) (by omega)
  have e : entA (spT m i.toNat p) k l = x := by unfold entA; rw [getD_is hk, getD_is hl]
  rw [e] at hb
  exact inR_mk hb
theorem pr_entR {k q : Nat} (hk : k < m.length) (hq : q < m.length + 1) : entA (prR m.length i.toNat) k q = prF m.length i.toNat k q := by
  unfold entA
  rw [getD_is (prR_get hk)]
  unfold prRow prF
  by_cases e : k = i.toNat
  · rw [if_pos e]
    simp only [oneRow, List.getD, List.getElem?_set, List.length_set, List.length_replicate, List.getElem?_replicate]
    by_cases e2 : q = k
    · subst e2
      rw [if_pos rfl, if_neg (by omega), if_pos rfl, if_pos hq]
      rfl
    · rw [if_neg e2]
      by_cases e3 : q = m.length
      · subst e3
        rw [if_pos rfl, if_pos hq, if_pos ⟨rfl, e⟩]
        rfl
      · rw [if_neg (fun e4 => e3 e4.symm), if_neg (fun e4 => e2 e4.symm), if_pos hq, if_neg (fun e4 => e3 e4.1)]
        rfl
  · rw [if_neg e]
    simp only [oneRow, List.getD, List.getElem?_set, List.length_replicate, List.getElem?_replicate]
    by_cases e2 : q = k
    · subst e2
      rw [if_pos rfl, if_pos rfl, if_pos hq]
      rfl
    · rw [if_neg (fun e4 => e2 e4.symm), if_neg e2, if_pos hq, if_neg (fun e4 => e e4.2)]
      rfl
theorem pr_entS {q l : Nat} (hq : q < m.length + 1) (hl : l < m.length) : entA (prS m i.toNat p) q l = entA (spT m i.toNat p) q l := by
  have hq2 : q < (spT m i.toNat p).length := by rw [spT_len]; exact hq
  unfold entA prS
  have e : (List.map (List.take m.length) (spT m i.toNat p))[q]? = some (((spT m i.toNat p).getD q []).take m.length) := by
    rw [List.getElem?_map, getD_lt (d := ([] : List Int)) hq2]
    rfl
  rw [getD_is e]
  simp only [List.getD, List.getElem?_take]
  rw [if_pos hl]
theorem spl_RS : mulT (prR m.length i.toNat) (prS m i.toNat p) m.length = m := by
  refine mul_is (by rw [prS_len]; exact prR_rows _ _) (by rw [prR_len]) (isMat_rowsLen h.mat rfl) fun a b ha hb => ?_
  rw [prR_len] at ha
  have h1 := isMat_row h.mat (getD_lt (d := ([] : List Int)) ha)
  have h2 : 0 ≤ entA m a b ∧ entA m a b ≤ 1000000 := allIn_get h1.2 (getD_lt (by rw [h1.1]; exact hb))
  refine ⟨wrap_id (by omega), ?_⟩
  rw [prS_len, spl_prodA h ha hb]
  exact Sm_congr _ _ _ (fun q hq => by rw [pr_entR h ha hq, pr_entS h hq hb])
theorem spl_SR : mulT (prS m i.toNat p) (prR m.length i.toNat) (m.length + 1) = spT m i.toNat p := by
  refine mul_is (by rw [prR_len]; exact prS_rows h) (by rw [prS_len, spT_len]) (rows_split h) fun a b ha hb => ?_
  rw [prS_len] at ha
  have h2 := spl_bound h (q := a) (l := b) (by omega) (by omega)
  refine ⟨wrap_id (by omega), ?_⟩
  rw [prR_len, spl_prodX h ha hb]
  exact Sm_congr _ _ _ (fun q hq => by rw [pr_entR h hq hb, pr_entS h ha hq])
theorem spl_cols : ∀ (k : Nat) (r : List Int), (spT m i.toNat p)[k]? = some r → r.getD i.toNat 0 = r.getD m.length 0 := by
  intro k r hk
  have hkl : k < m.length + 1 := by have := (List.getElem?_eq_some_iff.1 hk).1; rw [spT_len] at this; exact this
  have h1 := spl_last h (q := k) (by omega)
  unfold entA at h1
  rw [getD_is hk] at h1
  exact h1.symm
theorem spl_join : minorT (sumT (spT m i.toNat p) i.toNat m.length) m.length m.length = m := by
  have hi := h.il
  obtain ⟨ri, hi1, hi2, _, hi4, _⟩ := spl_rows h (q := i.toNat) (by omega)
  obtain ⟨rn, hn1, hn2, hn3, _, _⟩ := spl_rows h (q := m.length) (Nat.le_refl _)
  have hip := hi4 (by omega) rfl
  have hnl := hn3 rfl
  subst hip
  subst hnl
  have hXl := spT_len m i.toNat ri
  refine tp_ext (n := m.length) (by rw [minorT_len (by rw [sumT, List.length_set, hXl]; omega), sumT, List.length_set, hXl]; omega) rfl fun a r s hr hs => ?_
  have ha : a < m.length := (List.getElem?_eq_some_iff.1 hs).1
  have hms : m.getD a [] = s := getD_is hs
  simp only [minorT, List.getElem?_map, List.getElem?_eraseIdx, Option.map_eq_some_iff] at hr
  obtain ⟨t, ht, rfl⟩ := hr
  rw [if_pos ha, sumT, List.getElem?_set, getD_is hi1, getD_is hn1] at ht
  by_cases e : i.toNat = a
  · rw [if_pos e, if_pos (by rw [hXl]; omega)] at ht
    injection ht with ht
    subst ht
    have hsl : s.length = m.length := by rw [← hms]; exact spl_row h ha
    have hadl : (addL (spRow i.toNat ri) (spRow i.toNat (lessL (m.getD i.toNat []) ri))).length = m.length + 1 := by
      rw [addL_len (by rw [spRow_len, spRow_len, hi2, hn2]), spRow_len, hi2]
    refine row_ext (n := m.length) (by rw [cut_len (by omega), hadl]; omega) hsl fun b hb => ?_
    unfold cut
    rw [List.getElem?_append_left (by rw [List.length_take, hadl]; omega), List.getElem?_take, if_pos hb]
    have e1 : (spRow i.toNat ri)[b]? = some (ri.getD b 0) := by
      rw [getD_lt (d := (0 : Int)) (show b < (spRow i.toNat ri).length by rw [spRow_len]; omega), spRow_lt (by omega)]
    have e2 : (spRow i.toNat (lessL (m.getD i.toNat []) ri))[b]? = some ((lessL (m.getD i.toNat []) ri).getD b 0) := by
      rw [getD_lt (d := (0 : Int)) (show b < (spRow i.toNat (lessL (m.getD i.toNat []) ri)).length by rw [spRow_len]; omega), spRow_lt (by omega)]
    have e3 : (lessL (m.getD i.toNat []) ri).getD b 0 = (m.getD i.toNat []).getD b 0 - ri.getD b 0 :=
      getD_is (lessL_get (getD_lt (by rw [spl_row h hi]; exact hb)) (getD_lt (by omega)))
    rw [addL_get e1 e2, e3, e, hms, getD_lt (d := (0 : Int)) (show b < s.length by omega)]
    congr 1
    omega
  · rw [if_neg e] at ht
    obtain ⟨ra, ha1, ha2, _, _, ha5⟩ := spl_rows h (q := a) (by omega)
    rw [ha1] at ht
    injection ht with ht
    subst ht
    have hra := ha5 (by omega) (fun e2 => e e2.symm)
    rw [hms] at hra
    subst hra
    unfold cut spRow
    rw [List.take_append_of_le_length (by omega), List.take_of_length_le (by omega), List.drop_of_length_le (by simp; omega), List.append_nil]
end
end Go.Proofs.Ytblkgkgopneleaa
