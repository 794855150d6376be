/- IFirst: a part of the proofs of this seat. -/
import Derived.Test.YtlhognagaknhcaaProg
import Derived.Test.YtlhognagaknhcaaFRlist
import Derived.Test.YtlhognagaknhcaaICountRooted
import Derived.Test.YtlhognagaknhcaaBase
namespace Go.Proofs.Ytlhognagaknhcaa
open Go.RowKit
set_option linter.all false
theorem Apart.symm {u v : Value} (h : Apart u v) : Apart v u := fun b hb e => h b e hb
theorem conv_step {fs rs : List Int} {k l : Nat} {f R : Int} (hl : l < k) (h : conv fs rs k (k - l) l f = R) : conv fs rs k (k - (l + 1)) (l + 1) (wrap64 (f - wrap64 (fs.getD l 0 * rs.getD (k - l) 0))) = R := by
  rw [show k - l = (k - (l + 1)) + 1 by omega] at h
  simp only [conv] at h
  exact h
theorem OInts.lit1 (W : World) (lo : Nat) (x : Int) (h : lo ≤ W.heap.size) : OInts (W.alloc (.cells #[.int .i64 x] 3)) lo (.slice (some ⟨W.heap.size, 0, none⟩) 1 1) 1 [x] := by
  refine ⟨by omega, ?_⟩
  have h := World.ownsRow_lit (base := lo) (e := 3) (size := 1) W #[.int .i64 x] 1 h (by unfold maxLen; omega) rfl
  simpa using h
set_option maxRecDepth 20000 in
set_option maxHeartbeats 3200000 in
theorem iFirst_any (pm : Option Addr) (nm cm : Nat) (m : List (List Int)) (i n : Int) (w : World) (h : Intss w pm nm m) :
    Calls Try.prog 43 #[.slice pm nm cm, .int .i64 i, .int .i64 n] w fun e w' => e = .returned (.int .i64 (firstR m i n)) ∧ Below w.heap.size w w' := by
  have HL : Hid (m.length = nm) := h.1
  have H := Lib.hid h
  clear h
  by_cases h10 : 10 < n
  · have hg : Hid (firstR m i n = -1) := by show _ = _; simp [firstR, h10]
    go_enter Try.func43, Try.ntmps43
    go_wp2_with fail
    go_ret
    exact ⟨ret_int hg.out.symm, Below.refl _ _⟩
  have hd10 : decide (10 < n) = false := by simpa using h10
  by_cases hc : rooted m i n < 0
  · have hg : Hid (firstR m i n = -1) := by show _ = _; simp [firstR, h10, hc]
    have hdc : decide (rooted m i n < 0) = true := by simpa using hc
    clear hc
    go_enter Try.func43, Try.ntmps43
    go_wp2_with (go_at_call 94; refine (iCountRooted_any _ _ _ m _ _ _ H.out).mono ?_; rintro e w1 ⟨rfl, hb1⟩; have Hb1 := Lib.hid hb1; clear hb1)
    go_ret
    exact ⟨ret_int hg.out.symm, Hb1.out⟩
  have hf := rooted_facts hc
  have hdc : decide (rooted m i n < 0) = false := by simpa using hc
  have hg : Hid (firstR m i n = (fsL m i n.toNat).getD n.toNat 0) := by show _ = _; rw [first_both hc]; simp [firstR, h10, hc]
  obtain ⟨_, _, _, hn1, _, _⟩ := hf
  obtain ⟨n0, rfl⟩ := Int.eq_ofNat_of_zero_le (show 0 ≤ n by omega)
  have hn10 : n0 ≤ 10 := by omega
  have hn1' : 1 ≤ n0 := by omega
  clear hc h10 hn1
  go_enter Try.func43, Try.ntmps43
  go_wp2_with (go_at_call 94; refine (iCountRooted_any _ _ _ m _ _ _ H.out).mono ?_; rintro e w1 ⟨rfl, hb1⟩; have Hb1 := Lib.hid hb1; clear hb1)
  clear hdc hd10
  go_loopw [7, 8, 9] (fun vr vf x wr => ∃ k : Nat, k ≤ n0 ∧ x = .int .i64 ((k : Int) + 1) ∧ OInts wr w.heap.size vr (k + 1) (rsL m i k) ∧ OInts wr w.heap.size vf (k + 1) (fsL m i k) ∧ Apart vr vf ∧ Below w.heap.size w wr) (fun _ _ x _ => n0 + 1 - (intOf x).toNat)
  case atStart =>
    refine ⟨0, Nat.zero_le _, rfl, ?_, ?_, ?_, (Hb1.out.alloc Hb1.out.size _).alloc (Nat.le_trans Hb1.out.size (by simp)) _⟩
    · exact (OInts.lit1 w1 w.heap.size 1 Hb1.out.size).alloc _
    · have h9 := OInts.lit1 (w1.alloc (.cells #[.int .i64 1] 3)) w.heap.size 0 (Nat.le_trans Hb1.out.size (by simp))
      show OInts _ _ _ 1 [0]
      simpa using h9
    · intro b hb e
      simp [Value.ownBlock] at hb e
      omega
  case round =>
    obtain ⟨k, hk, rfl, hor, hof, hap, hbl⟩ := hrel
    obtain ⟨wo, rfl⟩ : ∃ wo : World, wo = wr := ⟨_, rfl⟩
    obtain ⟨g7, c7, rfl⟩ := hor.head (by omega)
    obtain ⟨g8, c8, rfl⟩ := hof.head (by omega)
    have Hor := Lib.hid hor
    have Hof := Lib.hid hof
    have Hap := Lib.hid hap
    have Hbl := Lib.hid hbl
    have HM := Lib.hid (H.out.keep hbl)
    clear hor hof hap hbl
    by_cases hlt : k < n0
    · go_wp2_with (first
        | (go_at_call 94; refine (iCountRooted_any _ _ _ m _ _ _ HM.out).mono ?_; rintro e w2 ⟨rfl, hb2⟩; have Hb2 := Lib.hid hb2; clear hb2)
        | (at_builtin; refine wpList_push_at _ _ rfl _ _ rfl w.heap.size _ _ _ rfl (Hor.out.keep Hb2.out) (by omega) (Nat.le_trans Hbl.out.size Hb2.out.size) _ rfl rfl ?_; intro v3 w3 ho3 hg3 hn3; obtain ⟨g3, c3, rfl⟩ := ho3.head (by omega); rw [rsL_push] at ho3; have Ho3 := Lib.hid ho3; have Hof3 := Lib.hid ((Hof.out.keep Hb2.out).far hg3 Hap.out.symm); have Hap3 := Lib.hid ((hn3.apart Hap.out.symm (fun b hb => ((Hof.out.keep Hb2.out).ltAll b hb).2)).symm); have Hb3 := Lib.hid ((step2 Hbl.out Hb2.out).grown hg3 (Nat.le_trans Hbl.out.size Hb2.out.size) (fun b hb => (Hor.out.ownlt b hb).1)); have hcl := ho3.cell (k + 1) (by omega); clear ho3 hg3 hn3))
      have Hcl := Lib.hid hcl
      clear hcl
      go_loopw [10, 11] (fun vf vl wx => ∃ (l : Nat) (f : Int), 1 ≤ l ∧ l ≤ k + 1 ∧ vl = .int .i64 l ∧ vf = .int .i64 f ∧ Hid (conv (fsL m i k) (rsL m i (k + 1)) (k + 1) (k + 1 - l) l f = conv (fsL m i k) (rsL m i (k + 1)) (k + 1) k 1 ((rsL m i (k + 1)).getD (k + 1) 0)) ∧ Drew w3 wx) (fun _ vl _ => k + 1 - (intOf vl).toNat)
      case atStart => exact ⟨1, _, by omega, by omega, rfl, rfl, rfl, Drew.refl _⟩
      case round =>
        obtain ⟨l, f, hl1, hl2, rfl, rfl, hcv, q, rfl⟩ := hrel
        by_cases hlk : l < k + 1
        · have hcf := Hof3.out.cell l (by omega)
          have hcr := Ho3.out.cell (k + 1 - l) (by omega)
          have HCV := Lib.hid (conv_step hlk hcv.out)
          generalize (fsL m i k).getD l 0 = X at *
          generalize (rsL m i (k + 1)).getD (k + 1 - l) 0 = Y at *
          have e2 : (0 : Int) ≤ (k : Int) + 1 - (l : Int) := by omega
          have e4 : (k : Int) + 1 - (l : Int) < (k : Int) + 1 + 1 := by omega
          have e5 : (k : Int) + 1 - (l : Int) ≤ 1000 := by omega
          have e3 : ((k : Int) + 1 - (l : Int)).toNat = k + 1 - l := by omega
          have e1 : IntKind.i64.wrap ((k : Int) + 1 - (l : Int)) = (k : Int) + 1 - (l : Int) := IntWalk.i64_in _ (by omega)
          clear hcv
          go_wp2_with fail
          go_quiet (fail)
          clear e1 e3
          go_wp2_with fail
          go_roundw
          case rel => exact ⟨l + 1, _, by omega, by omega, by go_num, rfl, HCV.out, (by first | exact Drew.refl _ | exact Drew.mk _ _ | exact (Drew.mk _ _).drewN _)⟩
          case measure => simp [intOf]; omega
        · have el : l = k + 1 := by omega
          have HFV : Hid (f = conv (fsL m i k) (rsL m i (k + 1)) (k + 1) k 1 ((rsL m i (k + 1)).getD (k + 1) 0)) := by
            have := hcv.out
            rw [show k + 1 - l = 0 by omega] at this
            exact this
          have HO8 := Lib.hid (Hof3.out.drewN q)
          have HO7 := Lib.hid (Ho3.out.drewN q)
          have HB8 := Lib.hid (below_drewN Hb3.out q)
          clear hcv
          subst el
          go_wp2_with (first
            | (at_builtin; refine wpList_push_at (w3.drewN q) _ rfl _ _ rfl w.heap.size _ _ _ rfl HO8.out (by omega) HB8.out.size _ rfl rfl ?_; intro v5 w5 ho5 hg5 hn5; have Ho5 := Lib.hid ho5; have Hg5 := Lib.hid hg5; have Hn5 := Lib.hid hn5; clear ho5 hg5 hn5))
          go_roundw
          case rel =>
            refine ⟨k + 1, by omega, by go_num, HO7.out.far Hg5.out Hap3.out, ?_, ?_, HB8.out.grown Hg5.out HB8.out.size (fun b hb => (HO8.out.ownlt b hb).1)⟩
            · have h9 := Ho5.out
              rw [HFV.out] at h9
              exact h9
            · exact Hn5.out.apart Hap3.out (fun b hb => (HO7.out.ltAll b hb).2)
          case measure => simp [intOf]; omega
    · have e : k = n0 := by omega
      have hcl := Hof.out.cell n0 (by omega)
      have HR : Hid ((fsL m i n0)[n0]?.getD 0 = firstR m i (n0 : Int)) := by show _ = _; rw [hg.out]; simp [List.getD]
      clear hg
      go_wp2_with fail
      go_ret
      exact ⟨ret_int HR.out, Hbl.out⟩
end Go.Proofs.Ytlhognagaknhcaa
