/- OrbSh: a part of the proofs of this seat. -/
import Derived.BigQuiet
import Derived.Test.YtbjoblgklcilpaaGreatProg
import Derived.Test.YtbjoblgklcilpaaGreatZG1b
import Derived.Test.YtbjoblgklcilpaaGreatZG0b
namespace Go.Proofs.YtbjoblgklcilpaaGreat
open Go.RowKit
set_option linter.all false
/- Valid shifts (impl). -/
set_option maxRecDepth 20000 in
set_option maxHeartbeats 3200000 in
theorem iIsShift_any (K : Int) (ao : Option Addr) (n cap : Nat) (F : List ByteArray) (w : World) (h : Strs w ao n F) (hF : ∀ f ∈ F, f.size ≤ 1048576) :
    Calls Tryz.prog 33 #[.agg #[.int .i64 K, .slice ao n cap]] w fun e w' => e = .returned (.bool (isSh K F)) ∧ Below w.heap.size w w' := by
  have hn := h.1
  have hm1 := h.2.1
  have HB := Lib.hid (below1 w (.cells #[.int .i64 K, .slice ao n cap] 32))
  have H := Lib.hid (h.keep HB.out)
  have HK := Blk.new w 32 #[.int .i64 K, .slice ao n cap]
  have k0 : (w.alloc (.cells #[.int .i64 K, .slice ao n cap] 32)).cell? ⟨w.heap.size, 0, none⟩ = some (.int .i64 K) := HK.cell 0
  have k1 : (w.alloc (.cells #[.int .i64 K, .slice ao n cap] 32)).cell? ⟨w.heap.size, 1, none⟩ = some (.slice ao n cap) := HK.cell 1
  have HL := Lib.hid hn
  clear h HK hn
  cases hK : inR K 1 3
  · have HR : Hid (isSh K F = false) := by show _ = _; simp [isSh, hK]
    have HK := Lib.hid hK
    clear hK
    go_enter Tryz.func33, Tryz.ntmps33
    go_wp2_with (go_at_call 61; refine (isLetters_any _ _).mono ?_; rw [HK.out]; rintro e w' ⟨rfl, rfl⟩)
    go_ret
    exact ⟨ret_bool HR.out.symm, HB.out⟩
  have HK := Lib.hid hK
  clear hK
  by_cases h8 : 8 < n
  · have HR : Hid (isSh K F = false) := by show _ = _; simp [isSh, HL.out]; intros; omega
    have d8 : decide ((8 : Int) < (n : Int)) = true := decide_eq_true (by omega)
    clear h8
    go_enter Tryz.func33, Tryz.ntmps33
    go_wp2_with (go_at_call 61; refine (isLetters_any _ _).mono ?_; rw [HK.out]; rintro e w' ⟨rfl, rfl⟩)
    go_ret
    exact ⟨ret_bool HR.out.symm, HB.out⟩
  have d8 : decide ((8 : Int) < (n : Int)) = false := decide_eq_false (by omega)
  go_enter Tryz.func33, Tryz.ntmps33
  go_wp2_with (go_at_call 61; refine (isLetters_any _ _).mono ?_; rw [HK.out]; rintro e w' ⟨rfl, rfl⟩)
  clear d8
  generalize w.alloc (.cells #[.int .i64 K, .slice ao n cap] 32) = w1 at HB H k0 k1 ⊢
  go_loop [18] (fun x => ∃ k : Nat, k ≤ n ∧ x = .int .i64 k ∧ Hid (okF K (prevF F k) (F.drop k) = okF K none F)) (fun x => n - (intOf x).toNat)
  case atStart => exact ⟨0, Nat.zero_le _, rfl, rfl⟩
  case round =>
    obtain ⟨k, hk, rfl, hr⟩ := hrel
    by_cases hlt : k < n
    · obtain ⟨b, o, f, rfl, hc, hf⟩ := H.out.at_ hlt
      have HST := Lib.hid (okF_step hf.out hr.out)
      have hfs := hF f (List.mem_of_getElem? hf.out)
      have HNO : Hid (okF K none F = false → isSh K F = false) := fun e => by simp [isSh, e]
      clear hf hr
      cases hw : okW K f 0 f.size
      · have HR := Lib.hid (HNO.out (HST.out.1 (by simp [isWd, hw])))
        have HW := Lib.hid hw
        clear hw HST
        go_wp2_with (go_at_call 62; refine (areLetters_any K f _ hfs).mono ?_; rw [HW.out]; rintro e w' ⟨rfl, rfl⟩)
        go_ret
        exact ⟨ret_bool HR.out.symm, HB.out⟩
      have HW := Lib.hid hw
      by_cases h1 : f.size < 1
      · have HR := Lib.hid (HNO.out (HST.out.2.1 (inR_no (.inl (by omega)))))
        have d1 : decide ((f.size : Int) < 1) = true := decide_eq_true (by omega)
        clear hw HST h1
        go_wp2_with (go_at_call 62; refine (areLetters_any K f _ hfs).mono ?_; rw [HW.out]; rintro e w' ⟨rfl, rfl⟩)
        go_ret
        exact ⟨ret_bool HR.out.symm, HB.out⟩
      have d1 : decide ((f.size : Int) < 1) = false := decide_eq_false (by omega)
      by_cases h3 : 3 < f.size
      · have HR := Lib.hid (HNO.out (HST.out.2.1 (inR_no (.inr (by omega)))))
        have d3 : decide ((3 : Int) < (f.size : Int)) = true := decide_eq_true (by omega)
        clear hw HST h1 h3
        go_wp2_with (go_at_call 62; refine (areLetters_any K f _ hfs).mono ?_; rw [HW.out]; rintro e w' ⟨rfl, rfl⟩)
        go_ret
        exact ⟨ret_bool HR.out.symm, HB.out⟩
      have d3 : decide ((3 : Int) < (f.size : Int)) = false := decide_eq_false (by omega)
      have hi : inR f.size 1 3 = true := inR_mk ⟨by omega, by omega⟩
      have hw : isWd K f = true := by simp [isWd, HK.out, hw]; omega
      clear h1 h3
      have HST3 := Lib.hid (HST.out.2.2.2 hw hi)
      have HST4 := Lib.hid HST.out.2.2.1
      clear hw hi HST
      by_cases hk0 : k = 0
      · subst hk0
        simp only [Nat.add_zero] at hc
        have HN := Lib.hid (HST3.out rfl)
        clear HST3 HST4
        go_wp2_with (go_at_call 62; refine (areLetters_any K f _ hfs).mono ?_; rw [HW.out]; rintro e w' ⟨rfl, rfl⟩)
        go_round
        case rel => exact ⟨1, hlt, by go_num, HN.out⟩
        case measure => simp [intOf]; omega
      · obtain ⟨j, rfl⟩ : ∃ j, k = j + 1 := ⟨k - 1, by omega⟩
        obtain ⟨b', o', g, e', hc', hg⟩ := H.out.at_ (k := j) (by omega)
        injection e' with e'
        injection e' with e1 e2
        subst e1; subst e2
        have hp : prevF F (j + 1) = some g := by simp [prevF, hg.out]
        rw [hp] at HST3 HST4
        have hd0 : decide ((0 : Int) < ((j + 1 : Nat) : Int)) = true := decide_eq_true (by omega)
        cases hu : Op.bytesLess g.toList f.toList
        · have HR := Lib.hid (HNO.out (HST4.out hu))
          clear HST3 HST4 hp hg
          go_wp2_with (go_at_call 62; refine (areLetters_any K f _ hfs).mono ?_; rw [HW.out]; rintro e w' ⟨rfl, rfl⟩)
          go_ret
          exact ⟨ret_bool HR.out.symm, HB.out⟩
        · have HN := Lib.hid (HST3.out hu)
          clear HST3 HST4 hp hg
          go_wp2_with (go_at_call 62; refine (areLetters_any K f _ hfs).mono ?_; rw [HW.out]; rintro e w' ⟨rfl, rfl⟩)
          go_round
          case rel => exact ⟨j + 2, hlt, by go_num, HN.out⟩
          case measure => simp [intOf]; omega
    · have HE := Lib.hid (okF_end (by have := HL.out; omega) hr.out)
      clear hr
      have hnn : k = n := by omega
      have HR : Hid (isSh K F = true) := by show _ = _; simp [isSh, HK.out, HE.out, HL.out]; omega
      go_wp2_with fail
      go_ret
      exact ⟨ret_bool HR.out.symm, HB.out⟩
end Go.Proofs.YtbjoblgklcilpaaGreat
