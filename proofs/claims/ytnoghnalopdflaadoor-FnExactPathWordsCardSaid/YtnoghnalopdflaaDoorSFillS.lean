/- SFillS: a part of the proofs of this seat. -/
import Derived.BigQuiet
import Derived.Test.YtnoghnalopdflaaDoorProg
import Derived.Test.YtnoghnalopdflaaDoorSFill
namespace Go.Proofs.YtnoghnalopdflaaDoor
open Go.RowKit
set_option linter.all false
set_option maxRecDepth 20000 in
set_option maxHeartbeats 6400000 in
theorem sFill_step0 (p : Option Addr) (N c t r lo : Nat) (A : List (List Int)) (hA2 : ∀ (k : Nat) (a : List Int), A[k]? = some a → ∃ x y : Int, a = [x, y]) (ht : t ≤ 6) (hN : N ≤ 60) (hAN : A.length = N)
    (IH : ∀ (W wr : World) (hv ov : Value) (hd : List Int) (out : List (List Int)), hd.length + r = t → Idx N hd → OIntss wr lo ov out.length out → lo ≤ wr.heap.size → (∀ W', Below lo wr W' → Intss W' p N A) → Below wr.heap.size wr W → OInts W wr.heap.size hv hd.length hd → (out ++ fillL A r hd).length ≤ 1099511627776 →
      Calls Tryd.prog 105 #[.slice p N c, .int .i64 t, hv, ov] W (fillPost W lo ov (out ++ fillL A r hd)))
    (W : World) (hp : Option Addr) (hn hc : Nat) (hd : List Int) (ov : Value) (out : List (List Int)) (hlen : hd.length + (r + 1) = t) (hi : Idx N hd) (ho : OIntss W lo ov out.length out) (hlo : lo ≤ W.heap.size)
    (hk : ∀ W', W.grownBy W' ov.ownBlock → Ints W' hp hn hd) (ha : ∀ W', Below lo W W' → Intss W' p N A) (hz0 : hn = 0) (hM : (out ++ fillL A (r + 1) hd).length ≤ 1099511627776) :
    Calls Tryd.prog 105 #[.slice p N c, .int .i64 t, .slice hp hn hc, ov] W (fillPost W lo ov (out ++ fillL A (r + 1) hd)) := by
  subst hz0
  have HHL : Hid (hd.length = 0) := (hk W (World.grownBy.refl W _)).1
  have hnt : 0 + (r + 1) = t := by rw [← HHL.out]; exact hlen
  have HA2 := Lib.hid hA2
  have HAN := Lib.hid hAN
  have HI := Lib.hid hi
  have HO := Lib.hid ho
  have HK := Lib.hid hk
  have HA := Lib.hid ha
  have HIH := Lib.hid IH
  have hR : out ++ (List.range' 0 (A.length - 0)).flatMap (fun a => if okN A hd a then fillL A r (hd ++ [(a : Int)]) else []) = out ++ fillL A (r + 1) hd := by rw [fillL, Nat.sub_zero]
  generalize out ++ fillL A (r + 1) hd = R at hR hM ⊢
  have HR := Lib.hid hR
  have HM := Lib.hid hM
  have hne : ((0 : Int) == (t : Int)) = false := by simp; omega
  clear hA2 hAN hi ho hk ha IH hR hM hlen
  go_enter Tryd.func105, Tryd.ntmps105
  go_wp2_with fail
  clear hne
  go_loopw [3, 9] (fun v x wx => ∃ (k : Nat) (acc : List (List Int)), k ≤ N ∧ x = .int .i64 k ∧ OIntss wx lo v acc.length acc ∧ Hid (acc ++ (List.range' k (A.length - k)).flatMap (fun a => if okN A hd a then fillL A r (hd ++ [(a : Int)]) else []) = R) ∧ W.grownBy wx ov.ownBlock ∧ NewOr W.heap.size ov v) (fun _ x _ => N - (intOf x).toNat)
  case atStart => exact ⟨0, out, Nat.zero_le _, rfl, HO.out, HR, World.grownBy.refl W _, NewOr.refl _ _⟩
  case round =>
    obtain ⟨k, acc, hk, rfl, hown, heq, hg, hno⟩ := hrel
    obtain ⟨wx, rfl⟩ : ∃ wx : World, wx = wr := ⟨_, rfl⟩
    have Hown := Lib.hid hown
    have Hg := Lib.hid hg
    have Hno := Lib.hid hno
    have Hsz : Hid (lo ≤ wx.heap.size) := Nat.le_trans hlo hg.size
    have HB : Hid (Below lo W wx) := (Below.refl lo W).grown hg hlo fun b hb => (HO.out.ownlt b hb).1
    have HKx := Lib.hid (HK.out wx hg)
    have HAx := Lib.hid (HA.out wx HB.out)
    clear hown hg hno HO HR
    by_cases hlt : k < N
    · have HkA : Hid (k < A.length) := by show k < A.length; rw [HAN.out]; exact hlt
      have HIk := Lib.hid (HI.out.snoc hlt)
      obtain ⟨b1, o1, a1, c1, ak, e1, q1, hrow1, hget1⟩ := HAx.out.at_ hlt
      subst e1
      obtain ⟨x', y', rfl⟩ := HA2.out _ _ hget1.out
      obtain ⟨b2, o2, u2, rfl, q2, hgx⟩ := hrow1.at_ (k := 0) (by simp)
      simp at hgx
      obtain rfl := hgx.out
      have HG1 := Lib.hid hget1.out
      clear hget1 hgx hrow1
      simp only [List.length_cons, List.length_nil] at q1
      rw [Nat.add_zero] at q2
      have HOK : Hid (okN A hd k = true) := ok_zero HHL.out
      have HQ := Lib.hid (fill_yes HkA.out HOK.out heq.out)
      have hMx : (acc ++ fillL A r (hd ++ [(k : Int)])).length ≤ 1099511627776 := Nat.le_trans (toCome_le HQ.out) HM.out
      have HMx := Lib.hid hMx
      clear heq hMx
      go_wp2_with fail
      go_quiet (fail)
      skip
      go_wp2_with (first
        | (go_at_call 105; refine (HIH.out _ wx _ _ (hd ++ [(k : Int)]) acc (by simp; have := HHL.out; omega) HIk.out Hown.out Hsz.out (fun W' hW' => HA.out W' (HB.out.trans hW')) Hb2.out (by simpa [HHL.out] using Ho2.out) HMx.out).mono ?_; rintro e w5 ⟨v5, rfl, ho5, hg5, hn5⟩; have Ho5 := Lib.hid ho5; have Hg5 : Hid (W.grownBy w5 ov.ownBlock) := grown_two (Hg.out.trans (grown_below Hb2.out _)) Hno.out hg5; have Hn5 : Hid (NewOr W.heap.size ov v5) := Hno.out.trans hn5 (Nat.le_trans Hg.out.size Hb2.out.size); clear ho5 hg5 hn5)
        | (at_builtin; refine wpList_push_one w1 _ rfl (.tmp 51) (.tmp 53) rfl wx.heap.size v1 0 hd rfl Ho1.out (by omega) Hb1.out.size _ rfl rfl ?_; intro v2 w2 ho2 hb2; have Ho2 := Lib.hid ho2; have Hb2 := Lib.hid (Hb1.out.trans hb2); clear ho2 hb2)
        | (at_builtin; refine wpList_app_ints _ rfl (.tmp 49) (.tmp 50) rfl wx.heap.size _ 0 [] rfl (OInts.empty _ _ (Nat.le_refl _)) hp 0 hc hd rfl (HKx.out.keep ((below_drewN (Below.refl _ _) _).alloc (Nat.le_refl _) _)) (by omega) (by simp) ?_; intro v1 w1 ho1 hg1; rw [Nat.zero_add, List.nil_append] at ho1; have Ho1 := Lib.hid ho1; have Hb1 : Hid (Below wx.heap.size wx w1) := ((below_drewN (Below.refl _ _) _).alloc (Nat.le_refl _) _).grown hg1 (by simp) (fun b hb => ((OInts.empty _ _ (Nat.le_refl _)).ownlt b hb).1); clear ho1 hg1))
      go_roundw
      case rel => first | exact ⟨k + 1, _, hlt, by go_num, Ho5.out, HQ, Hg5.out, Hn5.out⟩ | ((repeat apply Exists.intro); exact ⟨⟨k + 1, _, hlt, by go_num, Ho5.out, HQ, Hg5.out, Hn5.out⟩, rfl⟩)
      case measure => simp [intOf]; omega
    · have HQ := Lib.hid (range_end (by have := HAN.out; omega) heq.out)
      clear heq
      go_wp2_with fail
      go_ret
      have h9 := Hown.out
      rw [HQ.out] at h9
      exact ⟨_, rfl, h9, Hg.out, Hno.out⟩
set_option maxRecDepth 20000 in
set_option maxHeartbeats 6400000 in
theorem sFill_stepS (p : Option Addr) (N c t r lo : Nat) (A : List (List Int)) (hA2 : ∀ (k : Nat) (a : List Int), A[k]? = some a → ∃ x y : Int, a = [x, y]) (ht : t ≤ 6) (hN : N ≤ 60) (hAN : A.length = N)
    (IH : ∀ (W wr : World) (hv ov : Value) (hd : List Int) (out : List (List Int)), hd.length + r = t → Idx N hd → OIntss wr lo ov out.length out → lo ≤ wr.heap.size → (∀ W', Below lo wr W' → Intss W' p N A) → Below wr.heap.size wr W → OInts W wr.heap.size hv hd.length hd → (out ++ fillL A r hd).length ≤ 1099511627776 →
      Calls Tryd.prog 105 #[.slice p N c, .int .i64 t, hv, ov] W (fillPost W lo ov (out ++ fillL A r hd)))
    (W : World) (hp : Option Addr) (hn hc : Nat) (hd : List Int) (ov : Value) (out : List (List Int)) (hlen : hd.length + (r + 1) = t) (hi : Idx N hd) (ho : OIntss W lo ov out.length out) (hlo : lo ≤ W.heap.size)
    (hk : ∀ W', W.grownBy W' ov.ownBlock → Ints W' hp hn hd) (ha : ∀ W', Below lo W W' → Intss W' p N A) (hnp : 0 < hn) (hM : (out ++ fillL A (r + 1) hd).length ≤ 1099511627776) :
    Calls Tryd.prog 105 #[.slice p N c, .int .i64 t, .slice hp hn hc, ov] W (fillPost W lo ov (out ++ fillL A (r + 1) hd)) := by
  have HHL : Hid (hd.length = hn) := (hk W (World.grownBy.refl W _)).1
  have hnt : hn + (r + 1) = t := by rw [← HHL.out]; exact hlen
  have HA2 := Lib.hid hA2
  have HAN := Lib.hid hAN
  have HI := Lib.hid hi
  have HO := Lib.hid ho
  have HK := Lib.hid hk
  have HA := Lib.hid ha
  have HIH := Lib.hid IH
  have hR : out ++ (List.range' 0 (A.length - 0)).flatMap (fun a => if okN A hd a then fillL A r (hd ++ [(a : Int)]) else []) = out ++ fillL A (r + 1) hd := by rw [fillL, Nat.sub_zero]
  generalize out ++ fillL A (r + 1) hd = R at hR hM ⊢
  have HR := Lib.hid hR
  have HM := Lib.hid hM
  have hne : ((hn : Int) == (t : Int)) = false := by simp; omega
  clear hA2 hAN hi ho hk ha IH hR hM hlen
  go_enter Tryd.func105, Tryd.ntmps105
  go_wp2_with fail
  clear hne
  go_loopw [3, 9] (fun v x wx => ∃ (k : Nat) (acc : List (List Int)), k ≤ N ∧ x = .int .i64 k ∧ OIntss wx lo v acc.length acc ∧ Hid (acc ++ (List.range' k (A.length - k)).flatMap (fun a => if okN A hd a then fillL A r (hd ++ [(a : Int)]) else []) = R) ∧ W.grownBy wx ov.ownBlock ∧ NewOr W.heap.size ov v) (fun _ x _ => N - (intOf x).toNat)
  case atStart => exact ⟨0, out, Nat.zero_le _, rfl, HO.out, HR, World.grownBy.refl W _, NewOr.refl _ _⟩
  case round =>
    obtain ⟨k, acc, hk, rfl, hown, heq, hg, hno⟩ := hrel
    obtain ⟨wx, rfl⟩ : ∃ wx : World, wx = wr := ⟨_, rfl⟩
    have Hown := Lib.hid hown
    have Hg := Lib.hid hg
    have Hno := Lib.hid hno
    have Hsz : Hid (lo ≤ wx.heap.size) := Nat.le_trans hlo hg.size
    have HB : Hid (Below lo W wx) := (Below.refl lo W).grown hg hlo fun b hb => (HO.out.ownlt b hb).1
    have HKx := Lib.hid (HK.out wx hg)
    have HAx := Lib.hid (HA.out wx HB.out)
    clear hown hg hno HO HR
    by_cases hlt : k < N
    · have HkA : Hid (k < A.length) := by show k < A.length; rw [HAN.out]; exact hlt
      have HIk := Lib.hid (HI.out.snoc hlt)
      obtain ⟨b1, o1, a1, c1, ak, e1, q1, hrow1, hget1⟩ := HAx.out.at_ hlt
      subst e1
      obtain ⟨x', y', rfl⟩ := HA2.out _ _ hget1.out
      obtain ⟨b2, o2, u2, rfl, q2, hgx⟩ := hrow1.at_ (k := 0) (by simp)
      simp at hgx
      obtain rfl := hgx.out
      have HG1 := Lib.hid hget1.out
      clear hget1 hgx hrow1
      simp only [List.length_cons, List.length_nil] at q1
      rw [Nat.add_zero] at q2
      obtain ⟨q, hq⟩ : ∃ q, hn = q + 1 := ⟨hn - 1, by omega⟩
      have hz : ((hn : Int) == 0) = false := by simp; omega
      have hw : IntKind.i64.wrap ((hn : Int) - 1) = (q : Int) := by rw [IntKind.wrap_i64]; omega
      have hqn : q < hn := by omega
      have HHQ : Hid (hd.length = q + 1) := by show _ = _; rw [HHL.out, hq]
      clear hq
      obtain ⟨b3, o3, xb, rfl, q3, hgb⟩ := HKx.out.at_ (k := q) hqn
      have hbr := HI.out _ (List.mem_of_getElem? hgb.out)
      obtain ⟨bb, rfl⟩ : ∃ bb : Nat, xb = bb := ⟨xb.toNat, by omega⟩
      have hbN : bb < N := by omega
      obtain ⟨b4, o4, a4, c4, ab, e4, q4, hrow4, hget4⟩ := HAx.out.at_ hbN
      injection e4 with e4
      injection e4 with e5 e6
      subst e5
      subst e6
      obtain ⟨x4, y4, rfl⟩ := HA2.out _ _ hget4.out
      obtain ⟨b5, o5, u5, rfl, q5, hgy⟩ := hrow4.at_ (k := 1) (by simp)
      simp at hgy
      obtain rfl := hgy.out
      have HG4 := Lib.hid hget4.out
      have HGB := Lib.hid hgb.out
      clear hget4 hgy hrow4 hgb hbr
      simp only [List.length_cons, List.length_nil] at q4
      have HOF := Lib.hid (ok_of HHQ.out HGB.out HG4.out HG1.out)
      by_cases hxy : y4 = x'
      · have hd5 : (y4 == x') = true := by simp [hxy]
        have HOK : Hid (okN A hd k = true) := by show _ = _; rw [HOF.out]; simp [hxy]
        clear hxy
        have HQ := Lib.hid (fill_yes HkA.out HOK.out heq.out)
        have hMx : (acc ++ fillL A r (hd ++ [(k : Int)])).length ≤ 1099511627776 := Nat.le_trans (toCome_le HQ.out) HM.out
        have HMx := Lib.hid hMx
        clear heq hMx
        go_wp2_with fail
        go_quiet (fail)
        clear hz hd5 hw hqn
        go_wp2_with (first
          | (go_at_call 105; refine (HIH.out _ wx _ _ (hd ++ [(k : Int)]) acc (by simp; have := HHL.out; omega) HIk.out Hown.out Hsz.out (fun W' hW' => HA.out W' (HB.out.trans hW')) Hb2.out (by simpa [HHL.out] using Ho2.out) HMx.out).mono ?_; rintro e w5 ⟨v5, rfl, ho5, hg5, hn5⟩; have Ho5 := Lib.hid ho5; have Hg5 : Hid (W.grownBy w5 ov.ownBlock) := grown_two (Hg.out.trans (grown_below Hb2.out _)) Hno.out hg5; have Hn5 : Hid (NewOr W.heap.size ov v5) := Hno.out.trans hn5 (Nat.le_trans Hg.out.size Hb2.out.size); clear ho5 hg5 hn5)
          | (at_builtin; refine wpList_push_one w1 _ rfl (.tmp 51) (.tmp 53) rfl wx.heap.size v1 hn hd rfl Ho1.out (by omega) Hb1.out.size _ rfl rfl ?_; intro v2 w2 ho2 hb2; have Ho2 := Lib.hid ho2; have Hb2 := Lib.hid (Hb1.out.trans hb2); clear ho2 hb2)
          | (at_builtin; refine wpList_app_ints _ rfl (.tmp 49) (.tmp 50) rfl wx.heap.size _ 0 [] rfl (OInts.empty _ _ (Nat.le_refl _)) (some ⟨b3, o3, none⟩) hn hc hd rfl (HKx.out.keep ((below_drewN (Below.refl _ _) _).alloc (Nat.le_refl _) _)) (by omega) (by simp) ?_; intro v1 w1 ho1 hg1; rw [Nat.zero_add, List.nil_append] at ho1; have Ho1 := Lib.hid ho1; have Hb1 : Hid (Below wx.heap.size wx w1) := ((below_drewN (Below.refl _ _) _).alloc (Nat.le_refl _) _).grown hg1 (by simp) (fun b hb => ((OInts.empty _ _ (Nat.le_refl _)).ownlt b hb).1); clear ho1 hg1))
        go_roundw
        case rel => first | exact ⟨k + 1, _, hlt, by go_num, Ho5.out, HQ, Hg5.out, Hn5.out⟩ | ((repeat apply Exists.intro); exact ⟨⟨k + 1, _, hlt, by go_num, Ho5.out, HQ, Hg5.out, Hn5.out⟩, rfl⟩)
        case measure => simp [intOf]; omega
      · have hd5 : (y4 == x') = false := by simp [hxy]
        have HOK : Hid (okN A hd k = false) := by show _ = _; rw [HOF.out]; simp [hxy]
        clear hxy
        have HQ := Lib.hid (fill_no HkA.out HOK.out heq.out)
        clear heq
        go_wp2_with fail
        go_quiet (fail)
        clear hz hd5 hw hqn
        go_wp2_with fail
        go_roundw
        case rel => first | exact ⟨k + 1, acc, hlt, by go_num, Hown.out.drewN _, HQ, Hg.out.trans (grown_drewN2 _ _ _), Hno.out⟩ | ((repeat apply Exists.intro); exact ⟨⟨k + 1, acc, hlt, by go_num, Hown.out.drewN _, HQ, Hg.out.trans (grown_drewN2 _ _ _), Hno.out⟩, rfl⟩)
        case measure => simp [intOf]; omega
    · have HQ := Lib.hid (range_end (by have := HAN.out; omega) heq.out)
      clear heq
      go_wp2_with fail
      go_ret
      have h9 := Hown.out
      rw [HQ.out] at h9
      exact ⟨_, rfl, h9, Hg.out, Hno.out⟩
end Go.Proofs.YtnoghnalopdflaaDoor
