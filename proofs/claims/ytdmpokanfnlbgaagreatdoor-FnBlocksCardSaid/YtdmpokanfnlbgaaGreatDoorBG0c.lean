/- Parts of the proof of a law, joined: IIdx ILetters IAreL OrbSh. -/
import Derived.BigQuiet
import Derived.Test.YtdmpokanfnlbgaaGreatDoorProg
import Derived.Test.YtdmpokanfnlbgaaGreatDoorBG0b
import Derived.Test.YtdmpokanfnlbgaaGreatDoorBG0a
namespace Go.Proofs.YtdmpokanfnlbgaaGreatDoor
open Go.RowKit
set_option linter.all false
theorem beq_flip (a b : List UInt8) : (a == b) = (b == a) := by
  cases h : (a == b)
  · cases h2 : (b == a)
    · rfl
    · rw [eq_of_beq h2] at h; simp at h
  · rw [eq_of_beq h]; simp
set_option maxHeartbeats 800000 in
theorem iIdx_any (ao : Option Addr) (n cap : Nat) (P : List ByteArray) (x : ByteArray) (w : World) (h : Strs w ao n P) :
    Calls Tryz.prog 50 #[.slice ao n cap, .string x] w fun e w' => e = .returned (.int .i64 (idxF P x 0)) ∧ w = w' := by
  have hn := h.1
  have hm := h.2.1
  have H := Lib.hid h
  clear h
  go_enter Tryz.func50, Tryz.ntmps50
  go_wp2_with fail
  go_loop [8] (fun v => ∃ k : Nat, k ≤ n ∧ v = .int .i64 k ∧ Hid (idxF (P.drop k) x k = idxF P x 0)) (fun v => n - (intOf v).toNat)
  case atStart => exact ⟨0, Nat.zero_le _, rfl, rfl⟩
  case round =>
    obtain ⟨k, hk, rfl, hr⟩ := hrel
    by_cases hlt : k < n
    · obtain ⟨b, o, p, rfl, hc, hp⟩ := H.out.at_ hlt
      have HST := Lib.hid (idxF_step hp.out hr.out)
      have HFL := Lib.hid (beq_flip x.toList p.toList)
      clear hp hr
      cases ho : (p.toList == x.toList)
      · have HN := Lib.hid (HST.out.2 ho)
        have ho2 : (x.toList == p.toList) = false := HFL.out.trans ho
        clear HST
        go_wp2_with fail
        go_round
        case rel => exact ⟨k + 1, hlt, by go_num, HN.out⟩
        case measure => simp [intOf]; omega
      · have HN := Lib.hid (HST.out.1 ho)
        have ho2 : (x.toList == p.toList) = true := HFL.out.trans ho
        clear HST
        go_wp2_with fail
        go_ret
        exact ⟨ret_int HN.out.symm, rfl⟩
    · have HE := Lib.hid (idxF_end (by omega) hr.out)
      clear hr
      go_wp2_with fail
      go_ret
      exact ⟨ret_int HE.out.symm, rfl⟩
end Go.Proofs.YtdmpokanfnlbgaaGreatDoor

namespace Go.Proofs.YtdmpokanfnlbgaaGreatDoor
open Go.RowKit
set_option linter.all false
theorem isLetters_any (k : Int) (w : World) : Calls Tryz.prog 71 #[.int .i64 k] w fun e w' => e = .returned (.bool (inR k 1 3)) ∧ w = w' := by
  by_cases h1 : 1 ≤ k
  · have d1 : decide (1 ≤ k) = true := decide_eq_true h1
    have HE : Hid (inR k 1 3 = decide (k ≤ 3)) := by show _ = _; simp [inR, h1]
    clear h1
    go_enter Tryz.func71, Tryz.ntmps71
    go_wp2_with fail
    go_ret
    exact ⟨ret_bool HE.out.symm, rfl⟩
  · have d1 : decide (1 ≤ k) = false := decide_eq_false h1
    have HE : Hid (inR k 1 3 = false) := by show _ = _; simp [inR, h1]
    clear h1
    go_enter Tryz.func71, Tryz.ntmps71
    go_wp2_with fail
    go_ret
    exact ⟨ret_bool HE.out.symm, rfl⟩
end Go.Proofs.YtdmpokanfnlbgaaGreatDoor

namespace Go.Proofs.YtdmpokanfnlbgaaGreatDoor
open Go.RowKit
set_option linter.all false
set_option maxHeartbeats 1600000 in
theorem areLetters_any (k : Int) (s : ByteArray) (w : World) (hs : s.size ≤ 1048576) : Calls Tryz.prog 72 #[.int .i64 k, .string s] w fun e w' => e = .returned (.bool (okW k s 0 s.size)) ∧ w = w' := by
  go_enter Tryz.func72, Tryz.ntmps72
  go_wp2_with fail
  go_loop [8] (fun x => ∃ i : Nat, i ≤ s.size ∧ x = .int .i64 i ∧ Hid (okW k s i (s.size - i) = okW k s 0 s.size)) (fun x => s.size - (intOf x).toNat)
  case atStart => exact ⟨0, Nat.zero_le _, rfl, rfl⟩
  case round =>
    obtain ⟨i, hi, rfl, hr⟩ := hrel
    by_cases hlt : i < s.size
    · have hr2 := hr.out
      rw [show s.size - i = (s.size - (i + 1)) + 1 by omega] at hr2
      have HST := Lib.hid (okW_step hr2)
      clear hr hr2
      obtain ⟨c, hc⟩ : ∃ c : Nat, s[i].toNat = c := ⟨_, rfl⟩
      have hb : bl s i = c := (bl_get hlt).trans hc
      have hc2 : c < 256 := by rw [← hb]; exact bl_lt s i
      by_cases g1 : 97 ≤ c
      · have d : decide ((c : Int) < 97) = false := decide_eq_false (by omega)
        have hsub : IntKind.u8.wrap ((c : Int) - 97) = (c : Int) - 97 := by rw [IntKind.wrap_u8]; omega
        by_cases g2 : (c : Int) - 97 < k
        · have d2 : decide (k ≤ (c : Int) - 97) = false := decide_eq_false (by omega)
          have HN := Lib.hid (HST.out.2.2 (by rw [hb]; exact g1) (by rw [hb]; exact g2))
          clear hb g1 g2
          go_wp2_with fail
          go_round
          case rel => exact ⟨i + 1, hlt, by go_num, HN.out⟩
          case measure => simp [intOf]; omega
        · have d2 : decide (k ≤ (c : Int) - 97) = true := decide_eq_true (by omega)
          have HF := Lib.hid (HST.out.2.1 (by rw [hb]; exact g2))
          clear hb g1 g2
          go_wp2_with fail
          go_ret
          exact ⟨ret_bool HF.out.symm, rfl⟩
      · have d : decide ((c : Int) < 97) = true := decide_eq_true (by omega)
        have HF := Lib.hid (HST.out.1 (by rw [hb]; exact g1))
        clear hb g1
        go_wp2_with fail
        go_ret
        exact ⟨ret_bool HF.out.symm, rfl⟩
    · have HT : Hid (okW k s 0 s.size = true) := by show _ = _; rw [← hr.out, show s.size - i = 0 by omega]; rfl
      clear hr
      go_wp2_with fail
      go_ret
      exact ⟨ret_bool HT.out.symm, rfl⟩
end Go.Proofs.YtdmpokanfnlbgaaGreatDoor

namespace Go.Proofs.YtdmpokanfnlbgaaGreatDoor
open Go.RowKit
set_option linter.all false
/- Valid shifts (impl). -/
set_option maxRecDepth 20000 in
set_option maxHeartbeats 3200000 in
theorem iIsShift_any (K : Int) (ao : Option Addr) (n cap : Nat) (F : List ByteArray) (w : World) (h : Strs w ao n F) (hF : ∀ f ∈ F, f.size ≤ 1048576) :
    Calls Tryz.prog 47 #[.agg #[.int .i64 K, .slice ao n cap]] w fun e w' => e = .returned (.bool (isSh K F)) ∧ Below w.heap.size w w' := by
  have hn := h.1
  have hm1 := h.2.1
  have HB := Lib.hid (below1 w (.cells #[.int .i64 K, .slice ao n cap] 30))
  have H := Lib.hid (h.keep HB.out)
  have HK := Blk.new w 30 #[.int .i64 K, .slice ao n cap]
  have k0 : (w.alloc (.cells #[.int .i64 K, .slice ao n cap] 30)).cell? ⟨w.heap.size, 0, none⟩ = some (.int .i64 K) := HK.cell 0
  have k1 : (w.alloc (.cells #[.int .i64 K, .slice ao n cap] 30)).cell? ⟨w.heap.size, 1, none⟩ = some (.slice ao n cap) := HK.cell 1
  have HL := Lib.hid hn
  clear h HK hn
  cases hK : inR K 1 3
  · have HR : Hid (isSh K F = false) := by show _ = _; simp [isSh, hK]
    have HK := Lib.hid hK
    clear hK
    go_enter Tryz.func47, Tryz.ntmps47
    go_wp2_with (go_at_call 71; refine (isLetters_any _ _).mono ?_; rw [HK.out]; rintro e w' ⟨rfl, rfl⟩)
    go_ret
    exact ⟨ret_bool HR.out.symm, HB.out⟩
  have HK := Lib.hid hK
  clear hK
  by_cases h8 : 8 < n
  · have HR : Hid (isSh K F = false) := by show _ = _; simp [isSh, HL.out]; intros; omega
    have d8 : decide ((8 : Int) < (n : Int)) = true := decide_eq_true (by omega)
    clear h8
    go_enter Tryz.func47, Tryz.ntmps47
    go_wp2_with (go_at_call 71; refine (isLetters_any _ _).mono ?_; rw [HK.out]; rintro e w' ⟨rfl, rfl⟩)
    go_ret
    exact ⟨ret_bool HR.out.symm, HB.out⟩
  have d8 : decide ((8 : Int) < (n : Int)) = false := decide_eq_false (by omega)
  go_enter Tryz.func47, Tryz.ntmps47
  go_wp2_with (go_at_call 71; refine (isLetters_any _ _).mono ?_; rw [HK.out]; rintro e w' ⟨rfl, rfl⟩)
  clear d8
  generalize w.alloc (.cells #[.int .i64 K, .slice ao n cap] 30) = w1 at HB H k0 k1 ⊢
  go_loop [18] (fun x => ∃ k : Nat, k ≤ n ∧ x = .int .i64 k ∧ Hid (okF K (prevF F k) (F.drop k) = okF K none F)) (fun x => n - (intOf x).toNat)
  case atStart => exact ⟨0, Nat.zero_le _, rfl, rfl⟩
  case round =>
    obtain ⟨k, hk, rfl, hr⟩ := hrel
    by_cases hlt : k < n
    · obtain ⟨b, o, f, rfl, hc, hf⟩ := H.out.at_ hlt
      have HST := Lib.hid (okF_step hf.out hr.out)
      have hfs := hF f (List.mem_of_getElem? hf.out)
      have HNO : Hid (okF K none F = false → isSh K F = false) := fun e => by simp [isSh, e]
      clear hf hr
      cases hw : okW K f 0 f.size
      · have HR := Lib.hid (HNO.out (HST.out.1 (by simp [isWd, hw])))
        have HW := Lib.hid hw
        clear hw HST
        go_wp2_with (go_at_call 72; refine (areLetters_any K f _ hfs).mono ?_; rw [HW.out]; rintro e w' ⟨rfl, rfl⟩)
        go_ret
        exact ⟨ret_bool HR.out.symm, HB.out⟩
      have HW := Lib.hid hw
      by_cases h1 : f.size < 1
      · have HR := Lib.hid (HNO.out (HST.out.2.1 (inR_no (.inl (by omega)))))
        have d1 : decide ((f.size : Int) < 1) = true := decide_eq_true (by omega)
        clear hw HST h1
        go_wp2_with (go_at_call 72; refine (areLetters_any K f _ hfs).mono ?_; rw [HW.out]; rintro e w' ⟨rfl, rfl⟩)
        go_ret
        exact ⟨ret_bool HR.out.symm, HB.out⟩
      have d1 : decide ((f.size : Int) < 1) = false := decide_eq_false (by omega)
      by_cases h3 : 3 < f.size
      · have HR := Lib.hid (HNO.out (HST.out.2.1 (inR_no (.inr (by omega)))))
        have d3 : decide ((3 : Int) < (f.size : Int)) = true := decide_eq_true (by omega)
        clear hw HST h1 h3
        go_wp2_with (go_at_call 72; refine (areLetters_any K f _ hfs).mono ?_; rw [HW.out]; rintro e w' ⟨rfl, rfl⟩)
        go_ret
        exact ⟨ret_bool HR.out.symm, HB.out⟩
      have d3 : decide ((3 : Int) < (f.size : Int)) = false := decide_eq_false (by omega)
      have hi : inR f.size 1 3 = true := inR_mk ⟨by omega, by omega⟩
      have hw : isWd K f = true := by simp [isWd, HK.out, hw]; omega
      clear h1 h3
      have HST3 := Lib.hid (HST.out.2.2.2 hw hi)
      have HST4 := Lib.hid HST.out.2.2.1
      clear hw hi HST
      by_cases hk0 : k = 0
      · subst hk0
        simp only [Nat.add_zero] at hc
        have HN := Lib.hid (HST3.out rfl)
        clear HST3 HST4
        go_wp2_with (go_at_call 72; refine (areLetters_any K f _ hfs).mono ?_; rw [HW.out]; rintro e w' ⟨rfl, rfl⟩)
        go_round
        case rel => exact ⟨1, hlt, by go_num, HN.out⟩
        case measure => simp [intOf]; omega
      · obtain ⟨j, rfl⟩ : ∃ j, k = j + 1 := ⟨k - 1, by omega⟩
        obtain ⟨b', o', g, e', hc', hg⟩ := H.out.at_ (k := j) (by omega)
        injection e' with e'
        injection e' with e1 e2
        subst e1; subst e2
        have hp : prevF F (j + 1) = some g := by simp [prevF, hg.out]
        rw [hp] at HST3 HST4
        have hd0 : decide ((0 : Int) < ((j + 1 : Nat) : Int)) = true := decide_eq_true (by omega)
        cases hu : Op.bytesLess g.toList f.toList
        · have HR := Lib.hid (HNO.out (HST4.out hu))
          clear HST3 HST4 hp hg
          go_wp2_with (go_at_call 72; refine (areLetters_any K f _ hfs).mono ?_; rw [HW.out]; rintro e w' ⟨rfl, rfl⟩)
          go_ret
          exact ⟨ret_bool HR.out.symm, HB.out⟩
        · have HN := Lib.hid (HST3.out hu)
          clear HST3 HST4 hp hg
          go_wp2_with (go_at_call 72; refine (areLetters_any K f _ hfs).mono ?_; rw [HW.out]; rintro e w' ⟨rfl, rfl⟩)
          go_round
          case rel => exact ⟨j + 2, hlt, by go_num, HN.out⟩
          case measure => simp [intOf]; omega
    · have HE := Lib.hid (okF_end (by have := HL.out; omega) hr.out)
      clear hr
      have hnn : k = n := by omega
      have HR : Hid (isSh K F = true) := by show _ = _; simp [isSh, HK.out, HE.out, HL.out]; omega
      go_wp2_with fail
      go_ret
      exact ⟨ret_bool HR.out.symm, HB.out⟩
end Go.Proofs.YtdmpokanfnlbgaaGreatDoor
