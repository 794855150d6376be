/- OrbSh: a part of the proofs of this seat. -/
import Derived.BigQuiet
import Derived.Test.YtgcemkpinmjaeaaProg
import Derived.Test.YtgcemkpinmjaeaaOrbA
namespace Go.Proofs.Ytgcemkpinmjaeaa
open Go.RowKit
set_option linter.all false
/- Valid shifts. -/
def prevF (F : List ByteArray) (k : Nat) : Option ByteArray := if k = 0 then none else F[k - 1]?
def upF (q : Option ByteArray) (f : ByteArray) : Bool := match q with
  | none => true
  | some g => Op.bytesLess g.toList f.toList
def okF (K : Int) : Option ByteArray → List ByteArray → Bool
  | _, [] => true
  | q, f :: r => (isWd K f && (inR f.size 1 3 && upF q f)) && okF K (some f) r
def isSh (K : Int) (F : List ByteArray) : Bool := inR K 1 3 && (decide (F.length ≤ 8) && okF K none F)
theorem okF_step {K : Int} {F : List ByteArray} {k : Nat} {f : ByteArray} {b : Bool} (hf : F[k]? = some f) (h : okF K (prevF F k) (F.drop k) = b) :
    (isWd K f = false → b = false) ∧ (inR f.size 1 3 = false → b = false) ∧ (upF (prevF F k) f = false → b = false) ∧ (isWd K f = true → inR f.size 1 3 = true → upF (prevF F k) f = true → okF K (prevF F (k + 1)) (F.drop (k + 1)) = b) := by
  rw [drop_of_get hf, okF] at h
  have e : prevF F (k + 1) = some f := by simp [prevF, hf]
  rw [e]
  refine ⟨fun q => ?_, fun q => ?_, fun q => ?_, fun q1 q2 q3 => ?_⟩
  · rw [q] at h; exact h.symm
  · rw [q] at h; simpa using h.symm
  · rw [q] at h; simpa using h.symm
  · rw [q1, q2, q3] at h; exact h
theorem okF_end {K : Int} {F : List ByteArray} {k : Nat} {b : Bool} (hk : F.length ≤ k) (h : okF K (prevF F k) (F.drop k) = b) : b = true := by
  rw [List.drop_eq_nil_of_le hk] at h
  exact h.symm
theorem okF_size {K : Int} : ∀ {F : List ByteArray} {q : Option ByteArray}, okF K q F = true → ∀ f ∈ F, 0 < f.size ∧ f.size ≤ 3
  | [], _, _, f, hf => by simp at hf
  | x :: r, q, h, f, hf => by
    simp only [okF, Bool.and_eq_true] at h
    rcases List.mem_cons.1 hf with rfl | hf
    · have := inR_true h.1.2.1; omega
    · exact okF_size h.2 f hf
theorem isSh_get {K : Int} {F : List ByteArray} (h : isSh K F = true) : (1 ≤ K ∧ K ≤ 3) ∧ F.length ≤ 8 ∧ ∀ f ∈ F, 0 < f.size ∧ f.size ≤ 3 := by
  simp only [isSh, Bool.and_eq_true, decide_eq_true_eq] at h
  exact ⟨inR_true h.1, h.2.1, okF_size h.2.2⟩
set_option maxRecDepth 20000 in
set_option maxHeartbeats 3200000 in
theorem sIsShift_any (K : Int) (ao : Option Addr) (n cap : Nat) (F : List ByteArray) (w : World) (h : Strs w ao n F) (hF : ∀ f ∈ F, f.size ≤ 1048576) :
    Calls Try.prog 75 #[.agg #[.int .i64 K, .slice ao n cap]] w fun e w' => e = .returned (.bool (isSh K F)) ∧ Below w.heap.size w w' := by
  have hn := h.1
  have hm1 := h.2.1
  have HB := Lib.hid (below1 w (.cells #[.int .i64 K, .slice ao n cap] 27))
  have H := Lib.hid (h.keep HB.out)
  have HK := Blk.new w 27 #[.int .i64 K, .slice ao n cap]
  have k0 : (w.alloc (.cells #[.int .i64 K, .slice ao n cap] 27)).cell? ⟨w.heap.size, 0, none⟩ = some (.int .i64 K) := HK.cell 0
  have k1 : (w.alloc (.cells #[.int .i64 K, .slice ao n cap] 27)).cell? ⟨w.heap.size, 1, none⟩ = some (.slice ao n cap) := HK.cell 1
  have HL := Lib.hid hn
  clear h HK hn
  go_enter Try.func75, Try.ntmps75
  go_wp2_with fail
  generalize w.alloc (.cells #[.int .i64 K, .slice ao n cap] 27) = w1 at HB H k0 k1 ⊢
  go_loop [3] (fun x => ∃ k : Nat, k ≤ n ∧ x = .int .i64 k ∧ Hid (okF K (prevF F k) (F.drop k) = okF K none F)) (fun x => n - (intOf x).toNat)
  case atStart => exact ⟨0, Nat.zero_le _, rfl, rfl⟩
  case round =>
    obtain ⟨k, hk, rfl, hr⟩ := hrel
    by_cases hlt : k < n
    · obtain ⟨b, o, f, rfl, hc, hf⟩ := H.out.at_ hlt
      have HST := Lib.hid (okF_step hf.out hr.out)
      have hfs := hF f (List.mem_of_getElem? hf.out)
      have HNO : Hid (okF K none F = false → isSh K F = false) := fun e => by simp [isSh, e]
      clear hf hr
      cases hw : isWd K f
      · have HR := Lib.hid (HNO.out (HST.out.1 hw))
        have HW := Lib.hid hw
        clear hw HST
        go_wp2_with (go_at_call 98; refine (sIsWord_any K f _ hfs).mono ?_; rw [HW.out]; rintro e w' ⟨rfl, rfl⟩)
        go_ret
        exact ⟨ret_bool HR.out.symm, HB.out⟩
      have HW := Lib.hid hw
      cases hi : inR f.size 1 3
      · have HR := Lib.hid (HNO.out (HST.out.2.1 hi))
        have HI := Lib.hid hi
        clear hw hi HST
        go_wp2_with (first | (go_at_call 98; refine (sIsWord_any K f _ hfs).mono ?_; rw [HW.out]; rintro e w' ⟨rfl, rfl⟩) | (go_at_call 76; refine (l1In_any _ _ _ _).mono ?_; rw [HI.out]; rintro e w' ⟨rfl, rfl⟩))
        go_ret
        exact ⟨ret_bool HR.out.symm, HB.out⟩
      have HI := Lib.hid hi
      have HST3 := Lib.hid (HST.out.2.2.2 hw hi)
      have HST4 := Lib.hid HST.out.2.2.1
      clear hw hi HST
      by_cases hk0 : k = 0
      · subst hk0
        simp only [Nat.add_zero] at hc
        have HN := Lib.hid (HST3.out rfl)
        clear HST3 HST4
        go_wp2_with (first | (go_at_call 98; refine (sIsWord_any K f _ hfs).mono ?_; rw [HW.out]; rintro e w' ⟨rfl, rfl⟩) | (go_at_call 76; refine (l1In_any _ _ _ _).mono ?_; rw [HI.out]; rintro e w' ⟨rfl, rfl⟩))
        go_round
        case rel => exact ⟨1, hlt, by go_num, HN.out⟩
        case measure => simp [intOf]; omega
      · obtain ⟨j, rfl⟩ : ∃ j, k = j + 1 := ⟨k - 1, by omega⟩
        obtain ⟨b', o', g, e', hc', hg⟩ := H.out.at_ (k := j) (by omega)
        injection e' with e'
        injection e' with e1 e2
        subst e1; subst e2
        have hp : prevF F (j + 1) = some g := by simp [prevF, hg.out]
        rw [hp] at HST3 HST4
        have hd0 : decide ((0 : Int) < ((j + 1 : Nat) : Int)) = true := decide_eq_true (by omega)
        cases hu : Op.bytesLess g.toList f.toList
        · have HR := Lib.hid (HNO.out (HST4.out hu))
          clear HST3 HST4 hp hg
          go_wp2_with (first | (go_at_call 98; refine (sIsWord_any K f _ hfs).mono ?_; rw [HW.out]; rintro e w' ⟨rfl, rfl⟩) | (go_at_call 76; refine (l1In_any _ _ _ _).mono ?_; rw [HI.out]; rintro e w' ⟨rfl, rfl⟩))
          go_ret
          exact ⟨ret_bool HR.out.symm, HB.out⟩
        · have HN := Lib.hid (HST3.out hu)
          clear HST3 HST4 hp hg
          go_wp2_with (first | (go_at_call 98; refine (sIsWord_any K f _ hfs).mono ?_; rw [HW.out]; rintro e w' ⟨rfl, rfl⟩) | (go_at_call 76; refine (l1In_any _ _ _ _).mono ?_; rw [HI.out]; rintro e w' ⟨rfl, rfl⟩))
          go_round
          case rel => exact ⟨j + 2, hlt, by go_num, HN.out⟩
          case measure => simp [intOf]; omega
    · have HE := Lib.hid (okF_end (by have := HL.out; omega) hr.out)
      clear hr
      have hnn : k = n := by omega
      cases hK : inR K 1 3
      · have HR : Hid (isSh K F = false) := by show _ = _; simp [isSh, hK]
        have HK := Lib.hid hK
        clear hK
        go_wp2_with (go_at_call 76; refine (l1In_any _ _ _ _).mono ?_; rw [HK.out]; rintro e w' ⟨rfl, rfl⟩)
        go_ret
        exact ⟨ret_bool HR.out.symm, HB.out⟩
      · have HR : Hid (isSh K F = decide ((n : Int) ≤ 8)) := by show _ = _; simp [isSh, hK, HE.out, HL.out]; omega
        have HK := Lib.hid hK
        clear hK
        go_wp2_with (go_at_call 76; refine (l1In_any _ _ _ _).mono ?_; rw [HK.out]; rintro e w' ⟨rfl, rfl⟩)
        go_ret
        exact ⟨ret_bool HR.out.symm, HB.out⟩
set_option maxRecDepth 20000 in
set_option maxHeartbeats 3200000 in
theorem iIsShift_any (K : Int) (ao : Option Addr) (n cap : Nat) (F : List ByteArray) (w : World) (h : Strs w ao n F) (hF : ∀ f ∈ F, f.size ≤ 1048576) :
    Calls Try.prog 83 #[.agg #[.int .i64 K, .slice ao n cap]] w fun e w' => e = .returned (.bool (isSh K F)) ∧ Below w.heap.size w w' := by
  have hn := h.1
  have hm1 := h.2.1
  have HB := Lib.hid (below1 w (.cells #[.int .i64 K, .slice ao n cap] 27))
  have H := Lib.hid (h.keep HB.out)
  have HK := Blk.new w 27 #[.int .i64 K, .slice ao n cap]
  have k0 : (w.alloc (.cells #[.int .i64 K, .slice ao n cap] 27)).cell? ⟨w.heap.size, 0, none⟩ = some (.int .i64 K) := HK.cell 0
  have k1 : (w.alloc (.cells #[.int .i64 K, .slice ao n cap] 27)).cell? ⟨w.heap.size, 1, none⟩ = some (.slice ao n cap) := HK.cell 1
  have HL := Lib.hid hn
  clear h HK hn
  cases hK : inR K 1 3
  · have HR : Hid (isSh K F = false) := by show _ = _; simp [isSh, hK]
    have HK := Lib.hid hK
    clear hK
    go_enter Try.func83, Try.ntmps83
    go_wp2_with (go_at_call 151; refine (isLetters_any _ _).mono ?_; rw [HK.out]; rintro e w' ⟨rfl, rfl⟩)
    go_ret
    exact ⟨ret_bool HR.out.symm, HB.out⟩
  have HK := Lib.hid hK
  clear hK
  by_cases h8 : 8 < n
  · have HR : Hid (isSh K F = false) := by show _ = _; simp [isSh, HL.out]; intros; omega
    have d8 : decide ((8 : Int) < (n : Int)) = true := decide_eq_true (by omega)
    clear h8
    go_enter Try.func83, Try.ntmps83
    go_wp2_with (go_at_call 151; refine (isLetters_any _ _).mono ?_; rw [HK.out]; rintro e w' ⟨rfl, rfl⟩)
    go_ret
    exact ⟨ret_bool HR.out.symm, HB.out⟩
  have d8 : decide ((8 : Int) < (n : Int)) = false := decide_eq_false (by omega)
  go_enter Try.func83, Try.ntmps83
  go_wp2_with (go_at_call 151; refine (isLetters_any _ _).mono ?_; rw [HK.out]; rintro e w' ⟨rfl, rfl⟩)
  clear d8
  generalize w.alloc (.cells #[.int .i64 K, .slice ao n cap] 27) = w1 at HB H k0 k1 ⊢
  go_loop [18] (fun x => ∃ k : Nat, k ≤ n ∧ x = .int .i64 k ∧ Hid (okF K (prevF F k) (F.drop k) = okF K none F)) (fun x => n - (intOf x).toNat)
  case atStart => exact ⟨0, Nat.zero_le _, rfl, rfl⟩
  case round =>
    obtain ⟨k, hk, rfl, hr⟩ := hrel
    by_cases hlt : k < n
    · obtain ⟨b, o, f, rfl, hc, hf⟩ := H.out.at_ hlt
      have HST := Lib.hid (okF_step hf.out hr.out)
      have hfs := hF f (List.mem_of_getElem? hf.out)
      have HNO : Hid (okF K none F = false → isSh K F = false) := fun e => by simp [isSh, e]
      clear hf hr
      cases hw : okW K f 0 f.size
      · have HR := Lib.hid (HNO.out (HST.out.1 (by simp [isWd, hw])))
        have HW := Lib.hid hw
        clear hw HST
        go_wp2_with (go_at_call 152; refine (areLetters_any K f _ hfs).mono ?_; rw [HW.out]; rintro e w' ⟨rfl, rfl⟩)
        go_ret
        exact ⟨ret_bool HR.out.symm, HB.out⟩
      have HW := Lib.hid hw
      by_cases h1 : f.size < 1
      · have HR := Lib.hid (HNO.out (HST.out.2.1 (inR_no (.inl (by omega)))))
        have d1 : decide ((f.size : Int) < 1) = true := decide_eq_true (by omega)
        clear hw HST h1
        go_wp2_with (go_at_call 152; refine (areLetters_any K f _ hfs).mono ?_; rw [HW.out]; rintro e w' ⟨rfl, rfl⟩)
        go_ret
        exact ⟨ret_bool HR.out.symm, HB.out⟩
      have d1 : decide ((f.size : Int) < 1) = false := decide_eq_false (by omega)
      by_cases h3 : 3 < f.size
      · have HR := Lib.hid (HNO.out (HST.out.2.1 (inR_no (.inr (by omega)))))
        have d3 : decide ((3 : Int) < (f.size : Int)) = true := decide_eq_true (by omega)
        clear hw HST h1 h3
        go_wp2_with (go_at_call 152; refine (areLetters_any K f _ hfs).mono ?_; rw [HW.out]; rintro e w' ⟨rfl, rfl⟩)
        go_ret
        exact ⟨ret_bool HR.out.symm, HB.out⟩
      have d3 : decide ((3 : Int) < (f.size : Int)) = false := decide_eq_false (by omega)
      have hi : inR f.size 1 3 = true := inR_mk ⟨by omega, by omega⟩
      have hw : isWd K f = true := by simp [isWd, HK.out, hw]; omega
      clear h1 h3
      have HST3 := Lib.hid (HST.out.2.2.2 hw hi)
      have HST4 := Lib.hid HST.out.2.2.1
      clear hw hi HST
      by_cases hk0 : k = 0
      · subst hk0
        simp only [Nat.add_zero] at hc
        have HN := Lib.hid (HST3.out rfl)
        clear HST3 HST4
        go_wp2_with (go_at_call 152; refine (areLetters_any K f _ hfs).mono ?_; rw [HW.out]; rintro e w' ⟨rfl, rfl⟩)
        go_round
        case rel => exact ⟨1, hlt, by go_num, HN.out⟩
        case measure => simp [intOf]; omega
      · obtain ⟨j, rfl⟩ : ∃ j, k = j + 1 := ⟨k - 1, by omega⟩
        obtain ⟨b', o', g, e', hc', hg⟩ := H.out.at_ (k := j) (by omega)
        injection e' with e'
        injection e' with e1 e2
        subst e1; subst e2
        have hp : prevF F (j + 1) = some g := by simp [prevF, hg.out]
        rw [hp] at HST3 HST4
        have hd0 : decide ((0 : Int) < ((j + 1 : Nat) : Int)) = true := decide_eq_true (by omega)
        cases hu : Op.bytesLess g.toList f.toList
        · have HR := Lib.hid (HNO.out (HST4.out hu))
          clear HST3 HST4 hp hg
          go_wp2_with (go_at_call 152; refine (areLetters_any K f _ hfs).mono ?_; rw [HW.out]; rintro e w' ⟨rfl, rfl⟩)
          go_ret
          exact ⟨ret_bool HR.out.symm, HB.out⟩
        · have HN := Lib.hid (HST3.out hu)
          clear HST3 HST4 hp hg
          go_wp2_with (go_at_call 152; refine (areLetters_any K f _ hfs).mono ?_; rw [HW.out]; rintro e w' ⟨rfl, rfl⟩)
          go_round
          case rel => exact ⟨j + 2, hlt, by go_num, HN.out⟩
          case measure => simp [intOf]; omega
    · have HE := Lib.hid (okF_end (by have := HL.out; omega) hr.out)
      clear hr
      have hnn : k = n := by omega
      have HR : Hid (isSh K F = true) := by show _ = _; simp [isSh, HK.out, HE.out, HL.out]; omega
      go_wp2_with fail
      go_ret
      exact ⟨ret_bool HR.out.symm, HB.out⟩
end Go.Proofs.Ytgcemkpinmjaeaa
