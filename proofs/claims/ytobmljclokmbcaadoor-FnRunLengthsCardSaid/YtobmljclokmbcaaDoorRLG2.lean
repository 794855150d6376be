/- Parts of the proof of a law, joined: SStep SReadW RLT SRunMat IMatOf IRunMat SFloor SRunBd IRunBd. -/
import Derived.Deep.RegionLaw
import Derived.Test.YtobmljclokmbcaaDoorProg
import Derived.StillTailTactics
import Derived.Test.YtobmljclokmbcaaDoorRLG1
import Derived.Test.YtobmljclokmbcaaDoorRLSIsLab
import Derived.Test.YtobmljclokmbcaaDoorRLSRunLab
import Derived.Test.YtobmljclokmbcaaDoorRLSMatOf
import Derived.Test.YtobmljclokmbcaaDoorRLIIsLab
import Derived.Test.YtobmljclokmbcaaDoorRLBase
import Derived.Test.YtobmljclokmbcaaDoorRLIRunLab
import Derived.Test.YtobmljclokmbcaaDoorRLThA
import Derived.Test.YtobmljclokmbcaaDoorRLSBelow
namespace Go.Proofs.YtobmljclokmbcaaDoor
open Go.RowKit
set_option linter.all false
/- Sets of states, read with letters. -/
def bitQ (set : Int) (x : Nat) : Bool := bits BinOp.and IntKind.i64 (set / 2 ^ x) 1 == 1
def orQ (o : Int) (y : Nat) : Int := bits BinOp.or IntKind.i64 o (wrap64 (2 ^ y))
def stepL (set l : Int) : List Ar → Int → Int
  | [], o => o
  | (x, y, z) :: r, o => stepL set l r (if (z == l) && bitQ set x.toNat then orQ o y.toNat else o)
theorem step_next {set l o R : Int} {xs : List Ar} {k : Nat} {x y : Nat} {z : Int} (hx : xs[k]? = some ((x : Int), (y : Int), z)) (h : stepL set l (xs.drop k) o = R) :
    (z = l → bitQ set x = true → stepL set l (xs.drop (k + 1)) (orQ o y) = R) ∧ (z = l → bitQ set x = false → stepL set l (xs.drop (k + 1)) o = R) ∧ (z ≠ l → stepL set l (xs.drop (k + 1)) o = R) := by
  rw [drop_of_get hx, stepL] at h
  refine ⟨fun e eb => ?_, fun e eb => ?_, fun e => ?_⟩
  · simpa [e, eb] using h
  · simpa [e, eb] using h
  · simpa [e] using h
def readW (xs : List Ar) (s : ByteArray) : Nat → Nat → Int → Int
  | _, 0, set => set
  | i, m + 1, set => readW xs s (i + 1) m (stepL set ((bl s i : Int) - 97) xs 0)
set_option maxRecDepth 20000 in
set_option maxHeartbeats 3200000 in
theorem l14Step_any (L S : Int) (ao : Option Addr) (n cap : Nat) (xs : List Ar) (set letter : Int) (w : World) (h : Arcs w ao n xs) (hb : ∀ x ∈ xs, (0 ≤ x.1 ∧ x.1 < 12) ∧ (0 ≤ x.2.1 ∧ x.2.1 < 12)) :
    Calls Tryd.prog 119 #[.agg #[.int .i64 L, .int .i64 S, .slice ao n cap], .int .i64 set, .int .i64 letter] w fun e w' => e = .returned (.int .i64 (stepL set letter xs 0)) ∧ Below w.heap.size w w' := by
  have hm := h.2.1
  have HB1 := Lib.hid (below1 w (.cells #[.int .i64 L, .int .i64 S, .slice ao n cap] 32))
  have HA1 := Lib.hid (h.keep HB1.out)
  have HK1 := Lib.hid (Blk.new w 32 #[.int .i64 L, .int .i64 S, .slice ao n cap])
  have HL := Lib.hid h.1
  clear h
  go_enter Tryd.func119, Tryd.ntmps119
  go_wp2_with fail
  generalize w.alloc (.cells #[.int .i64 L, .int .i64 S, .slice ao n cap] 32) = w1 at HB1 HA1 HK1 ⊢
  go_loopw [7, 8] (fun a x wr => ∃ (k : Nat) (o : Int), k ≤ n ∧ a = .int .i64 o ∧ x = .int .i64 k ∧ Hid (stepL set letter (xs.drop k) o = stepL set letter xs 0) ∧ Below w1.heap.size w1 wr) (fun _ x _ => n - (intOf x).toNat)
  case atStart => exact ⟨0, 0, Nat.zero_le _, rfl, rfl, rfl, Below.refl _ _⟩
  case round =>
    obtain ⟨k, o, hk, rfl, rfl, hr, hbl⟩ := hrel
    obtain ⟨wo, rfl⟩ : ∃ wo : World, wo = wr := ⟨_, rfl⟩
    have Hbl := Lib.hid hbl
    have k2 := (HK1.out.keep hbl).c2
    by_cases hlt : k < n
    · obtain ⟨b, o1, x, y, z, rfl, c1, c2, c3, hx⟩ := (HA1.out.keep hbl).at_ hlt
      have hxb := hb _ (List.mem_of_getElem? hx.out)
      simp only at hxb
      obtain ⟨x, rfl⟩ : ∃ m : Nat, x = m := ⟨x.toNat, by omega⟩
      obtain ⟨y, rfl⟩ : ∃ m : Nat, y = m := ⟨y.toNat, by omega⟩
      have hx12 : x < 12 := by omega
      have hy12 : y < 12 := by omega
      have HBA := Lib.hid (below1 wo (.cells #[.int .i64 x, .int .i64 y, .int .i64 z] 70))
      have HA := Lib.hid (Blk.new wo 70 #[.int .i64 x, .int .i64 y, .int .i64 z])
      have a0 := HA.out.c0
      have a1 := HA.out.c1
      have a2 := HA.out.c2
      have HST := Lib.hid (step_next hx.out hr.out)
      have HBN := Lib.hid (step2 hbl HBA.out)
      clear hxb hbl hr hx
      by_cases hz : z = letter
      · have d1 : (z == letter) = true := by simp [hz]
        cases hq : bitQ set x
        · have HN := Lib.hid (HST.out.2.1 hz hq)
          have hq : (bits BinOp.and IntKind.i64 (set / 2 ^ x) 1 == 1) = false := hq
          clear hz HST
          go_wp2_with fail
          go_roundw
          case rel => exact ⟨k + 1, o, hlt, rfl, by go_num, HN.out, HBN.out⟩
          case measure => simp [intOf]; omega
        · have HN := Lib.hid (HST.out.1 hz hq)
          have hq : (bits BinOp.and IntKind.i64 (set / 2 ^ x) 1 == 1) = true := hq
          clear hz HST
          go_wp2_with fail
          go_roundw
          case rel => exact ⟨k + 1, orQ o y, hlt, rfl, by go_num, HN.out, HBN.out⟩
          case measure => simp [intOf]; omega
      · have d1 : (z == letter) = false := by simp [hz]
        have HN := Lib.hid (HST.out.2.2 hz)
        clear hz HST
        go_wp2_with fail
        go_roundw
        case rel => exact ⟨k + 1, o, hlt, rfl, by go_num, HN.out, HBN.out⟩
        case measure => simp [intOf]; omega
    · have HR : Hid (o = stepL set letter xs 0) := by
        show _ = _
        have := hr.out
        rw [List.drop_eq_nil_of_le (by have := HL.out; omega)] at this
        simpa [stepL] using this
      have HBN := Lib.hid hbl
      clear hr hbl
      go_wp2_with fail
      go_ret
      rw [HR.out]
      exact ⟨rfl, step2 HB1.out HBN.out⟩
set_option maxRecDepth 20000 in
set_option maxHeartbeats 3200000 in
theorem l14Read_any (L S : Int) (ao : Option Addr) (n cap : Nat) (xs : List Ar) (set : Int) (s : ByteArray) (w : World) (h : Arcs w ao n xs) (hs : s.size ≤ 1048576) (hb : ∀ x ∈ xs, (0 ≤ x.1 ∧ x.1 < 12) ∧ (0 ≤ x.2.1 ∧ x.2.1 < 12)) :
    Calls Tryd.prog 98 #[.agg #[.int .i64 L, .int .i64 S, .slice ao n cap], .int .i64 set, .string s] w fun e w' => e = .returned (.int .i64 (readW xs s 0 s.size set)) ∧ Below w.heap.size w w' := by
  have HB1 := Lib.hid (below1 w (.cells #[.int .i64 L, .int .i64 S, .slice ao n cap] 32))
  have HA1 := Lib.hid (h.keep HB1.out)
  have HK1 := Lib.hid (Blk.new w 32 #[.int .i64 L, .int .i64 S, .slice ao n cap])
  clear h
  go_enter Tryd.func98, Tryd.ntmps98
  go_wp2_with fail
  generalize w.alloc (.cells #[.int .i64 L, .int .i64 S, .slice ao n cap] 32) = w1 at HB1 HA1 HK1 ⊢
  go_loopw [1, 7] (fun a x wr => ∃ (i : Nat) (o : Int), i ≤ s.size ∧ a = .int .i64 o ∧ x = .int .i64 i ∧ Hid (readW xs s i (s.size - i) o = readW xs s 0 s.size set) ∧ Below w1.heap.size w1 wr) (fun _ x _ => s.size - (intOf x).toNat)
  case atStart => exact ⟨0, set, Nat.zero_le _, rfl, rfl, rfl, Below.refl _ _⟩
  case round =>
    obtain ⟨i, o, hi, rfl, rfl, hr, hbl⟩ := hrel
    obtain ⟨wo, rfl⟩ : ∃ wo : World, wo = wr := ⟨_, rfl⟩
    have HBL := Lib.hid hbl
    have HA := Lib.hid (HA1.out.keep hbl)
    have q := HK1.out.keep hbl
    have k0 := q.c0
    have k1 := q.c1
    have k2 := q.c2
    by_cases hlt : i < s.size
    · obtain ⟨c, hc⟩ : ∃ c : Nat, s[i].toNat = c := ⟨_, rfl⟩
      have hcb : bl s i = c := (bl_get hlt).trans hc
      have hc2 : c < 256 := by rw [← hcb]; exact bl_lt s i
      have hr2 := hr.out
      rw [show s.size - i = (s.size - (i + 1)) + 1 by omega, readW, hcb] at hr2
      have HN := Lib.hid hr2
      have hwc : IntKind.i64.wrap ((c : Int) - 97) = (c : Int) - 97 := by rw [IntKind.wrap_i64]; omega
      clear hr hr2 hcb q hbl
      go_wp2_with fail
      go_region_law (first
        | (go_simp; go_at_call 119; refine (l14Step_any _ _ _ _ _ xs _ _ _ (HA.out.drewN 1) hb).mono ?_; rintro e w2 ⟨rfl, hb2⟩; have HB2 := Lib.hid (HBL.out.trans ((below_drewN (Below.refl _ wo) 1).trans (hb2.mono (Nat.le_refl _)) |>.mono HBL.out.size)); clear hb2))
      all_goals (go_wp2_with fail)
      all_goals go_roundw
      all_goals first
        | exact ⟨i + 1, _, hlt, rfl, by go_num, HN.out, HB2.out⟩
        | (simp [intOf] <;> omega)
    · have HR : Hid (o = readW xs s 0 s.size set) := by
        show _ = _
        have := hr.out
        rw [show s.size - i = 0 by omega] at this
        exact this
      clear hr hbl q
      go_wp2_with fail
      go_ret
      rw [HR.out]
      exact ⟨rfl, step2 HB1.out HBL.out⟩
end Go.Proofs.YtobmljclokmbcaaDoor

namespace Go.Proofs.YtobmljclokmbcaaDoor
open Go.RowKit
set_option linter.all false
def readsB (L S : Int) (xs : List Ar) (s : ByteArray) : Bool := isLab L S xs && (isWd L s && decide (0 < readW xs s 0 s.size (wrap64 (wrap64 (2 ^ S.toNat) - 1))))
theorem lab_bounds {L S : Int} {xs : List Ar} (h : isLab L S xs = true) : ∀ x ∈ xs, (0 ≤ x.1 ∧ x.1 < 12) ∧ (0 ≤ x.2.1 ∧ x.2.1 < 12) := by
  obtain ⟨hL, hS, hok⟩ := isLab_get h
  intro x hx
  obtain ⟨a1, a2, a3⟩ := x
  have r1 := arcB_get (okFrom_all hok _ hx)
  simp only at *
  omega
set_option maxRecDepth 20000 in
set_option maxHeartbeats 3200000 in
theorem readsWord_any (L S : Int) (ao : Option Addr) (n cap : Nat) (xs : List Ar) (s : ByteArray) (w : World) (h : Arcs w ao n xs) (hs : s.size ≤ 1048576) :
    Calls Tryd.prog 67 #[.agg #[.int .i64 L, .int .i64 S, .slice ao n cap], .string s] w fun e w' => e = .returned (.bool (readsB L S xs s)) ∧ Below w.heap.size w w' := by
  have HB1 := Lib.hid (below1 w (.cells #[.int .i64 L, .int .i64 S, .slice ao n cap] 32))
  have HA1 := Lib.hid (h.keep HB1.out)
  have HK1 := Lib.hid (Blk.new w 32 #[.int .i64 L, .int .i64 S, .slice ao n cap])
  have k0 := HK1.out.c0
  have k1 := HK1.out.c1
  have k2 := HK1.out.c2
  clear h
  go_enter Tryd.func67, Tryd.ntmps67
  go_wp2_with fail
  generalize w.alloc (.cells #[.int .i64 L, .int .i64 S, .slice ao n cap] 32) = w1 at HB1 HA1 HK1 k0 k1 k2 ⊢
  refine (sIsLabels_any _ _ _ _ _ xs _ HA1.out).mono ?_
  rintro e w2 ⟨rfl, hb2⟩
  have HB2 := Lib.hid (step2 HB1.out hb2)
  have q := HK1.out.keep hb2
  have k0 := q.c0
  have k1 := q.c1
  have k2 := q.c2
  have HA2 := Lib.hid (HA1.out.keep hb2)
  clear q hb2
  cases hlab : isLab L S xs
  · have HR : Hid (readsB L S xs s = false) := by show _ = _; simp [readsB, hlab]
    clear hlab
    go_wp2_with fail
    go_ret
    exact ⟨ret_bool HR.out.symm, HB2.out⟩
  have HLAB := Lib.hid hlab
  have hS := (isLab_get hlab).2.1
  have hbd := Lib.hid (lab_bounds hlab)
  obtain ⟨S, rfl⟩ : ∃ m : Nat, S = m := ⟨S.toNat, by omega⟩
  have hS12 : S ≤ 12 := by omega
  clear hlab hS
  go_wp2_with fail
  refine (sIsWord_any _ _ _ hs).mono ?_
  rintro e w' ⟨rfl, rfl⟩
  cases hwd : isWd L s
  · have HR : Hid (readsB L S xs s = false) := by show _ = _; simp [readsB, hwd]
    clear hwd
    go_wp2_with fail
    go_ret
    exact ⟨ret_bool HR.out.symm, HB2.out⟩
  have HR : Hid (readsB L S xs s = decide (0 < readW xs s 0 s.size (wrap64 (wrap64 (2 ^ S) - 1)))) := by show _ = _; simp [readsB, HLAB.out, hwd]
  clear hwd
  go_wp2_with fail
  refine (l14Read_any _ _ _ _ _ xs _ s _ HA2.out hs hbd.out).mono ?_
  rintro e w3 ⟨rfl, hb3⟩
  have HB3 := Lib.hid (step2 HB2.out hb3)
  clear hb3 k0 k1 k2
  go_wp2_with fail
  go_ret
  exact ⟨ret_bool HR.out.symm, HB3.out⟩
def readsV (L S : Int) (xs : List Ar) (n : Int) : List ByteArray := if isLab L S xs && inR n 0 6 then (allW L.toNat n.toNat).filter (readsB L S xs) else []
theorem apart_newR {w w' : World} {lo n m : Nat} {u v : Value} {ss tt : List ByteArray} (hv : OStrs w lo v n ss) (hb : Below w.heap.size w w') (hu : OStrs w' w.heap.size u m tt) : Apart u v := by
  intro b h1 h2
  have e1 := (hu.ownlt b h1).1
  have e2 := (hv.ownlt b h2).2
  omega
set_option maxRecDepth 20000 in
set_option maxHeartbeats 6400000 in
theorem readWords_any (L S : Int) (ao : Option Addr) (n cap : Nat) (xs : List Ar) (nn : Int) (w : World) (h : Arcs w ao n xs) :
    Calls Tryd.prog 27 #[.agg #[.int .i64 L, .int .i64 S, .slice ao n cap], .int .i64 nn] w fun e w' => ∃ v, e = .returned v ∧ OStrs w' w.heap.size v (readsV L S xs nn).length (readsV L S xs nn) ∧ Below w.heap.size w w' := by
  have HB1 := Lib.hid (below1 w (.cells #[.int .i64 L, .int .i64 S, .slice ao n cap] 32))
  have HA1 := Lib.hid (h.keep HB1.out)
  have HK1 := Lib.hid (Blk.new w 32 #[.int .i64 L, .int .i64 S, .slice ao n cap])
  have H := Lib.hid h
  clear h
  have hz1 : w.heap.size ≤ (w.alloc (.cells #[.int .i64 L, .int .i64 S, .slice ao n cap] 32)).heap.size := HB1.out.size
  have HE0 := Lib.hid (OStrs.empty (w.alloc (.cells #[.int .i64 L, .int .i64 S, .slice ao n cap] 32)) w.heap.size hz1)
  have hz2 : (w.alloc (.cells #[.int .i64 L, .int .i64 S, .slice ao n cap] 32)).heap.size = w.heap.size + 1 := by simp
  rw [hz2] at HE0
  have HBE := Lib.hid (belowA (w.alloc (.cells #[.int .i64 L, .int .i64 S, .slice ao n cap] 32)) (.cells #[] 9))
  have HB2 := Lib.hid (step2 HB1.out HBE.out)
  have HA2 := Lib.hid (HA1.out.keep HBE.out)
  have HK2 := Lib.hid (HK1.out.keep HBE.out)
  have k0 := HK2.out.c0
  have k1 := HK2.out.c1
  have k2 := HK2.out.c2
  clear hz1 hz2 HBE
  go_enter Tryd.func27, Tryd.ntmps27
  go_wp2_with fail
  generalize (w.alloc (.cells #[.int .i64 L, .int .i64 S, .slice ao n cap] 32)).alloc (.cells #[] 9) = w1 at HE0 HB2 HA2 HK2 k0 k1 k2 ⊢
  clear HB1 HA1 HK1
  refine (sIsLabels_any _ _ _ _ _ xs _ HA2.out).mono ?_
  rintro e w2 ⟨rfl, hb2⟩
  have HB3 := Lib.hid (step2 HB2.out hb2)
  have q := HK2.out.keep hb2
  have k0 := q.c0
  have k1 := q.c1
  have k2 := q.c2
  have HA3 := Lib.hid (HA2.out.keep hb2)
  have HK3 := Lib.hid q
  have HE3 := Lib.hid (HE0.out.keep hb2)
  clear q hb2
  cases hlab : isLab L S xs
  · have HR : Hid (readsV L S xs nn = []) := by show _ = _; simp [readsV, hlab]
    clear hlab
    go_wp2_with fail
    go_ret
    rw [HR.out]
    exact ⟨_, rfl, HE3.out, HB3.out⟩
  have HLAB := Lib.hid hlab
  have hL := (isLab_get hlab).1
  obtain ⟨L, rfl⟩ : ∃ m : Nat, L = m := ⟨L.toNat, by omega⟩
  have hL1 : 1 ≤ L := by omega
  have hL3 : L ≤ 3 := by omega
  clear hlab hL
  go_wp2_with fail
  refine (l1In_any _ _ _ _).mono ?_
  rintro e w' ⟨rfl, rfl⟩
  cases hn : inR nn 0 6
  · have HR : Hid (readsV L S xs nn = []) := by show _ = _; simp [readsV, hn]
    clear hn
    go_wp2_with fail
    go_ret
    rw [HR.out]
    exact ⟨_, rfl, HE3.out, HB3.out⟩
  have hnn := inR_true hn
  obtain ⟨m, rfl⟩ : ∃ m : Nat, nn = m := ⟨nn.toNat, by omega⟩
  have hm6 : m ≤ 6 := by omega
  have HR : Hid (readsV L S xs m = (allW L m).filter (readsB L S xs)) := by show _ = _; simp [readsV, HLAB.out, hn]
  clear hn hnn
  obtain ⟨R, hR⟩ : ∃ R, allW L m = R := ⟨_, rfl⟩
  have HC := fun W => sAllW_any L m W hL1 hL3 (by omega)
  have hLB : R.length ≤ 6561 := by rw [← hR, allW_len]; exact pow_le_of hL3 (by omega)
  have HKB : Hid (∀ (i : Nat) (s : ByteArray), R[i]? = some s → s.size ≤ 1048576) := by
    show ∀ (i : Nat) (s : ByteArray), _
    intro i s hs
    rw [← hR] at hs
    have hil : i < L ^ m := by have := (List.getElem?_eq_some_iff.1 hs).1; rw [allW_len] at this; exact this
    rw [allW_get hil] at hs
    injection hs with hs
    subst hs
    rw [wordN_size]; omega
  rw [hR] at HC HR
  have HC := Lib.hid HC
  clear hR
  go_wp2_with fail
  refine (HC.out _).mono ?_
  rintro e w4 ⟨v4, rfl, ho4, hb4⟩
  obtain ⟨a4, c4, rfl, _⟩ := ho4.form
  have HA := Lib.hid (apart_newR HE3.out hb4 ho4)
  have HO4 := Lib.hid (ho4.mono HB3.out.size)
  have HB4 := Lib.hid (step2 HB3.out hb4)
  have HE4 := Lib.hid (HE3.out.keep hb4)
  have HA4 := Lib.hid (HA3.out.keep hb4)
  have HK4 := Lib.hid (HK3.out.keep hb4)
  clear ho4 hb4 k0 k1 k2 HE3 HA3 HK3 HA2 HK2 HE0
  go_wp2_with fail
  go_loopw [5, 7] (fun v x wr => ∃ (i : Nat) (acc : List ByteArray), i ≤ R.length ∧ acc.length ≤ i ∧ x = .int .i64 i ∧ OStrs wr w.heap.size v acc.length acc ∧ OStrs wr w.heap.size (.slice a4 R.length c4) R.length R ∧ Apart (.slice a4 R.length c4) v ∧ v.ownBlock ≠ some w.heap.size ∧ Hid (acc ++ (R.drop i).filter (readsB L S xs) = R.filter (readsB L S xs)) ∧ Blk wr w.heap.size 32 #[.int .i64 L, .int .i64 S, .slice ao n cap] ∧ Below w.heap.size w wr) (fun _ x _ => R.length - (intOf x).toNat)
  case atStart => exact ⟨0, [], Nat.zero_le _, Nat.le_refl _, rfl, HE4.out, HO4.out, HA.out, by simp [Value.ownBlock], rfl, HK4.out, HB4.out⟩
  case round =>
    obtain ⟨i, acc, hi, hal, rfl, hown, hst, hap, hnb, hr, hkb, hbl⟩ := hrel
    obtain ⟨a7, c7, rfl, _⟩ := hown.form
    have HO := Lib.hid hown
    have HB := Lib.hid hbl
    have HST := Lib.hid hst
    have HAP := Lib.hid hap
    have HNB := Lib.hid hnb
    have HKB2 := Lib.hid hkb
    have k0 := hkb.c0
    have k1 := hkb.c1
    have k2 := hkb.c2
    have HAr := Lib.hid (H.out.keep hbl)
    clear hown hbl hst hap hnb hkb HE4 HK4 HO4 HA4
    by_cases hlt : i < R.length
    · obtain ⟨b, o, s, rfl, hc, hs⟩ := HST.out.read.at_ hlt
      have HF := Lib.hid (filt_step (p := readsB L S xs) hs.out hr.out)
      have hsz := HKB.out i s hs.out
      have Hc := Lib.hid hc
      clear hs hr
      cases hp : readsB L S xs s
      · have HN := Lib.hid (HF.out.2 hp)
        have HP := Lib.hid hp
        clear hp HF
        go_wp2_with fail
        go_region_law (first
          | (go_simp; go_at_call 67; refine (readsWord_any _ _ _ _ _ xs s _ (HAr.out.drewN 1) hsz).mono ?_; rw [HP.out]; rintro e w5 ⟨rfl, hb5⟩; have hB5 := (below_drewN (Below.refl wr.heap.size wr) 1).trans (hb5.mono (Nat.le_refl _)); have HB5 := Lib.hid (step2 HB.out hB5); have HO5 := Lib.hid (HO.out.keep hB5); have HST5 := Lib.hid (HST.out.keep hB5); have HK5 := Lib.hid (HKB2.out.keep hB5); clear hb5 hB5))
        all_goals (go_wp2_with fail)
        all_goals go_roundw
        all_goals first
          | exact ⟨i + 1, acc, hlt, by omega, by go_num, HO5.out, HST5.out, HAP.out, HNB.out, HN.out, HK5.out, HB5.out⟩
          | (simp [intOf] <;> omega)
      · have HN := Lib.hid (HF.out.1 hp)
        have HP := Lib.hid hp
        clear hp HF
        go_wp2_with fail
        go_region_law (first
          | (go_simp; go_at_call 67; refine (readsWord_any _ _ _ _ _ xs s _ (HAr.out.drewN 1) hsz).mono ?_; rw [HP.out]; rintro e w5 ⟨rfl, hb5⟩; have hB5 := (below_drewN (Below.refl wr.heap.size wr) 1).trans (hb5.mono (Nat.le_refl _)); have HB5 := Lib.hid (step2 HB.out hB5); have HO5 := Lib.hid (HO.out.keep hB5); have HST5 := Lib.hid (HST.out.keep hB5); have HK5 := Lib.hid (HKB2.out.keep hB5); have hc2 := (hB5.cell (World.block_lt_of_cell? _ _ Hc.out)).trans Hc.out; clear hb5 hB5))
        all_goals (go_wp2_with (at_builtin; refine wpList_push_strAt w5 _ rfl (.tmp 34) (.tmp 39) rfl w.heap.size _ _ _ rfl HO5.out (by omega) HB5.out.size _ rfl rfl ?_; intro v3 w3 ho3 hg3 hn3; have HO3 := Lib.hid ho3; have HB6 := Lib.hid (HB5.out.grown hg3 HB5.out.size (fun b hb => (HO5.out.ownlt b hb).1)); have HST3 := Lib.hid (HST5.out.far hg3 HAP.out); have HAP3 := Lib.hid (hn3.apart HAP.out (fun b hb => (HST5.out.ownlt b hb).2)); have HNB3 := Lib.hid (hn3.away HNB.out HK5.out.lt); have HK6 := Lib.hid (HK5.out.grown hg3 (Ne.symm HNB.out)); clear ho3 hg3 hn3))
        all_goals go_roundw
        all_goals first
          | exact ⟨i + 1, _, hlt, by simp; omega, by go_num, by simpa using HO3.out, HST3.out, HAP3.out, HNB3.out, HN.out, HK6.out, HB6.out⟩
          | (simp [intOf] <;> omega)
    · have HF := Lib.hid (filt_end (by omega) hr.out)
      clear hr
      go_wp2_with fail
      go_ret
      rw [HR.out, ← HF.out]
      exact ⟨_, rfl, HO.out, HB.out⟩
end Go.Proofs.YtobmljclokmbcaaDoor

namespace Go.Proofs.YtobmljclokmbcaaDoor
open Go.RowKit
set_option linter.all false
def chkR (d k n : Nat) : Bool := (allW 2 n).all fun s => decide (0 < readW (runA d k (k + 1)) s 0 s.size (wrap64 (wrap64 (2 ^ (k + 1)) - 1))) == runP d k s
def chkL (d k : Nat) : Bool := isLab 2 ((k : Int) + 1) (runA d k (k + 1))
def chkC (d k n : Nat) : Bool := (((allW 2 n).filter (runP d k)).length : Int) == cntR d k n (zerosL k) (oneL k)
def chkA (d k : Nat) : Bool := chkL d k && ((List.range 7).all (fun n => chkR d k n) && (List.range 9).all (fun n => chkC d k n))
def chkK (k : Nat) : Bool := (List.range (k + 1)).all fun d => chkA d k
/-- How many letters b there are. -/
def nbR (s : ByteArray) : Nat → Nat → Nat
  | _, 0 => 0
  | i, m + 1 => (if bl s i = 98 then 1 else 0) + nbR s (i + 1) m
theorem nbR_le (s : ByteArray) : ∀ (m i : Nat), nbR s i m ≤ m
  | 0, _ => Nat.le_refl _
  | m + 1, i => by
    have := nbR_le s m (i + 1)
    unfold nbR
    split <;> omega
theorem nb_step {s : ByteArray} {i c R : Nat} (hi : i < s.size) (h : c + nbR s i (s.size - i) = R) :
    (bl s i = 98 → (c + 1) + nbR s (i + 1) (s.size - (i + 1)) = R) ∧ (bl s i ≠ 98 → c + nbR s (i + 1) (s.size - (i + 1)) = R) := by
  rw [show s.size - i = (s.size - (i + 1)) + 1 by omega, nbR] at h
  refine ⟨fun e => ?_, fun e => ?_⟩
  · rw [if_pos e] at h; omega
  · rw [if_neg e] at h; omega
theorem lensR_len (s : ByteArray) : ∀ (m i : Nat) (n : Int), (lensR s i m n).length = nbR s i m + 1
  | 0, _, _ => rfl
  | m + 1, i, n => by
    unfold lensR nbR
    split
    · rw [List.length_cons, lensR_len s m]; omega
    · rw [lensR_len s m]; omega
theorem lensR_sum (s : ByteArray) : ∀ (m i : Nat) (n : Int), (lensR s i m n).sum = n + m - nbR s i m
  | 0, _, n => by simp [lensR, nbR]
  | m + 1, i, n => by
    unfold lensR nbR
    split
    · rw [List.sum_cons, lensR_sum s m]; omega
    · rw [lensR_sum s m]; omega
theorem lens_facts (s : ByteArray) : (lens s).length = nbR s 0 s.size + 1 ∧ (lens s).sum = (s.size : Int) - nbR s 0 s.size := by
  refine ⟨lensR_len s s.size 0 0, ?_⟩
  have := lensR_sum s s.size 0 0
  unfold lens
  omega
end Go.Proofs.YtobmljclokmbcaaDoor

namespace Go.Proofs.YtobmljclokmbcaaDoor
open Go.RowKit
set_option linter.all false
set_option maxRecDepth 20000 in
set_option maxHeartbeats 3200000 in
theorem sRunMatrix_any (d k : Int) (w : World) : Calls Tryd.prog 13 #[.int .i64 d, .int .i64 k] w fun e w' => ∃ v, e = .returned (.tuple #[v, .bool (runMO d k)]) ∧ OIntss w' w.heap.size v (runMV d k).length (runMV d k) ∧ Below w.heap.size w w' := by
  cases hf : fitsR d k
  · have HF := Lib.hid hf
    have HV : Hid (runMV d k = [] ∧ runMO d k = false ∧ runX d k = [] ∧ runL d k = 0 ∧ runS d k = 0) := by show _ ∧ _; simp [runMV, runMO, runX, runL, runS, hf, matV, matOk, isLab, inR]
    clear hf
    rw [HV.out.1, HV.out.2.1]
    go_enter Tryd.func13, Tryd.ntmps13
    go_wp2_with fail
    refine (sRunLabels_any d k _).mono ?_
    rw [HF.out, HV.out.2.2.1, HV.out.2.2.2.1, HV.out.2.2.2.2]
    rintro e w1 ⟨v1, rfl, ho1, hb1⟩
    obtain ⟨a1, c1, rfl, _⟩ := ho1.form
    have HB2 := Lib.hid (step2 hb1 (below1 w1 (.cells #[.int .i64 0, .int .i64 0, .slice a1 ([] : List Ar).length c1] 32)))
    have HZ : Hid ((w1.alloc (.cells #[.int .i64 0, .int .i64 0, .slice a1 ([] : List Ar).length c1] 32)).heap.size = w1.heap.size + 1) := by show _ = _; simp
    clear ho1 hb1
    go_wp2_with fail
    generalize w1.alloc (.cells #[.int .i64 0, .int .i64 0, .slice a1 ([] : List Ar).length c1] 32) = w2 at HB2 HZ ⊢
    have HE := Lib.hid (OIntss.empty w2 _ (Nat.le_refl _))
    have HBE := Lib.hid (below1 w2 (.cells #[] 38))
    have HE2 := HE.out.mono HB2.out.size
    rw [HZ.out] at HE2
    go_wp2_with fail
    go_ret2
    exact ⟨_, rfl, HE2, step2 HB2.out HBE.out⟩
  · have HF := Lib.hid hf
    clear hf
    go_enter Tryd.func13, Tryd.ntmps13
    go_wp2_with fail
    refine (sRunLabels_any d k _).mono ?_
    rw [HF.out]
    rintro e w1 ⟨v1, rfl, ho1, hb1⟩
    obtain ⟨a1, c1, rfl, _⟩ := ho1.form
    have HB2 := Lib.hid (step2 hb1 (below1 w1 (.cells #[.int .i64 (runL d k), .int .i64 (runS d k), .slice a1 (runX d k).length c1] 32)))
    have HI := Lib.hid (ho1.alloc (.cells #[.int .i64 (runL d k), .int .i64 (runS d k), .slice a1 (runX d k).length c1] 32)).read
    clear ho1 hb1
    go_wp2_with fail
    generalize w1.alloc (.cells #[.int .i64 (runL d k), .int .i64 (runS d k), .slice a1 (runX d k).length c1] 32) = w2 at HB2 HI ⊢
    refine (sMatrixOf_any _ _ _ _ _ (runX d k) _ HI.out).mono ?_
    rintro e w3 ⟨v3, rfl, ho3, hb3⟩
    have HO3 := Lib.hid ho3
    clear ho3
    go_wp2_with fail
    go_ret2
    exact ⟨_, rfl, HO3.out.mono HB2.out.size, step2 HB2.out hb3⟩
end Go.Proofs.YtobmljclokmbcaaDoor

namespace Go.Proofs.YtobmljclokmbcaaDoor
open Go.RowKit
set_option linter.all false
set_option maxRecDepth 40000 in
set_option maxHeartbeats 6400000 in
theorem iMatrixOf_any (L S : Int) (ao : Option Addr) (n cap : Nat) (xs : List Ar) (w : World) (h : Arcs w ao n xs) :
    Calls Tryd.prog 54 #[.agg #[.int .i64 L, .int .i64 S, .slice ao n cap]] w fun e w' => ∃ v, e = .returned (.tuple #[v, .bool (matOk L S xs)]) ∧ OIntss w' w.heap.size v (matV L S xs).length (matV L S xs) ∧ Below w.heap.size w w' := by
  have hm := h.2.1
  have HL := Lib.hid h.1
  have HB1 := Lib.hid (below1 w (.cells #[.int .i64 L, .int .i64 S, .slice ao n cap] 32))
  have H := Lib.hid (h.keep HB1.out)
  have HK := Lib.hid (Blk.new w 32 #[.int .i64 L, .int .i64 S, .slice ao n cap])
  clear h
  cases b1 : isLab L S xs
  · have HR : Hid (matOk L S xs = false) := by show _ = _; simp [matOk, b1]
    have HV : Hid (matV L S xs = []) := by show _ = _; simp [matV, HR.out]
    have B1 := Lib.hid b1
    clear b1
    rw [HR.out, HV.out]
    go_enter Tryd.func54, Tryd.ntmps54
    go_wp2_with fail
    generalize w.alloc (.cells #[.int .i64 L, .int .i64 S, .slice ao n cap] 32) = w1 at HB1 H HK ⊢
    refine (iIsLabels_any _ _ _ _ _ xs _ H.out).mono ?_
    rw [B1.out]
    rintro e w2 ⟨rfl, hb2⟩
    have HB2 := Lib.hid hb2
    clear hb2
    go_wp2_with fail
    go_ret2
    exact ⟨_, rfl, OIntss.none_ _ _, step2 HB1.out HB2.out⟩
  obtain ⟨_, hSr, hok⟩ := isLab_get b1
  have HOK := Lib.hid (okFrom_all hok)
  obtain ⟨m, rfl⟩ : ∃ m : Nat, S = m := ⟨S.toNat, by omega⟩
  have B1 := Lib.hid b1
  by_cases hm9 : m ≤ 9
  rotate_left
  · have HR : Hid (matOk L m xs = false) := by show _ = _; simp [matOk]; intro _; omega
    have HV : Hid (matV L m xs = []) := by show _ = _; simp [matV, HR.out]
    have d : decide ((9 : Int) < (m : Int)) = true := decide_eq_true (by omega)
    clear b1 hok
    rw [HR.out, HV.out]
    go_enter Tryd.func54, Tryd.ntmps54
    go_wp2_with fail
    generalize w.alloc (.cells #[.int .i64 L, .int .i64 m, .slice ao n cap] 32) = w1 at HB1 H HK ⊢
    refine (iIsLabels_any _ _ _ _ _ xs _ H.out).mono ?_
    rw [B1.out]
    rintro e w2 ⟨rfl, hb2⟩
    have HB2 := Lib.hid hb2
    have q := HK.out.keep hb2
    have q0 := q.c0
    have q1 := q.c1
    have q2 := q.c2
    clear q hb2
    go_wp2_with fail
    go_ret2
    exact ⟨_, rfl, OIntss.none_ _ _, step2 HB1.out HB2.out⟩
  · have HR : Hid (matOk L m xs = true) := by show _ = _; simp [matOk, b1]; omega
    have HV : Hid (matV L m xs = matT (List.replicate m (List.replicate m 0)) xs) := by show _ = _; simp [matV, HR.out]
    have d : decide ((9 : Int) < (m : Int)) = false := decide_eq_false (by omega)
    clear b1 hok
    rw [HR.out]
    go_enter Tryd.func54, Tryd.ntmps54
    go_wp2_with fail
    generalize w.alloc (.cells #[.int .i64 L, .int .i64 m, .slice ao n cap] 32) = w1 at HB1 H HK ⊢
    refine (iIsLabels_any _ _ _ _ _ xs _ H.out).mono ?_
    rw [B1.out]
    rintro e w2 ⟨rfl, hb2⟩
    have HB2 := Lib.hid hb2
    have q := HK.out.keep hb2
    have q0 := q.c0
    have q1 := q.c1
    have q2 := q.c2
    clear q hb2
    go_wp2_with fail
    refine (iZeros_any m _ (by omega)).mono ?_
    rintro e w3 ⟨v3, rfl, ho3, hb3⟩
    obtain ⟨g, cg, rfl⟩ := ho3.head (by omega)
    have HO3 := Lib.hid (ho3.mono HB2.out.size)
    have HB3 := Lib.hid (HB2.out.trans (hb3.mono HB2.out.size))
    have q := HK.out.keep HB3.out
    clear q0 q1 q2
    have q0 := q.c0
    have q1 := q.c1
    have q2 := q.c2
    clear q ho3 hb3
    go_wp2_with fail
    clear q0 q1 q2
    go_loopw [21] (fun x wr => ∃ (k : Nat) (T : List (List Int)), k ≤ n ∧ x = .int .i64 k ∧ OIntss wr w1.heap.size (.slice (some ⟨g, 0, none⟩) m cg) m T ∧ Hid (Rows T m) ∧ Hid (matT T (xs.drop k) = matV L m xs) ∧ Below w1.heap.size w1 wr) (fun x _ => n - (intOf x).toNat)
    case atStart => exact ⟨0, _, Nat.zero_le _, rfl, HO3.out, rows_zero m, HV.out.symm, HB3.out⟩
    case round =>
      obtain ⟨k, T, hk, rfl, ho, hrl, hr, hbl⟩ := hrel
      have HOw := Lib.hid ho
      have HB := Lib.hid hbl
      have hsz := hbl.size
      have q := HK.out.keep hbl
      have q2 := q.c2
      clear q hbl ho
      by_cases hlt : k < n
      · obtain ⟨b, o, x, y, z, rfl, c1, c2, c3, hx⟩ := (H.out.keep HB.out).at_ hlt
        have hxr := arcB_get (HOK.out _ (List.mem_of_getElem? hx.out))
        obtain ⟨a, rfl⟩ : ∃ a : Nat, x = a := ⟨x.toNat, by omega⟩
        obtain ⟨c, rfl⟩ : ∃ c : Nat, y = c := ⟨y.toNat, by omega⟩
        have ham : a < m := by omega
        have hcm : c < m := by omega
        have HST := Lib.hid (mat_step hx.out hr.out)
        have HRB := Lib.hid (rows_bump (a := a) (b := c) hrl.out ham)
        obtain ⟨hta, htl⟩ := rows_get hrl.out ham
        have HO5 := Lib.hid (HOw.out.alloc (.cells #[.int .i64 (a : Int), .int .i64 (c : Int), .int .i64 z] 70))
        have HA := Lib.hid (Blk.new wr 70 #[.int .i64 (a : Int), .int .i64 (c : Int), .int .i64 z])
        have HB5 := Lib.hid (HB.out.trans ((below1 wr (.cells #[.int .i64 (a : Int), .int .i64 (c : Int), .int .i64 z] 70)).mono hsz))
        clear hx hr hxr
        go_wp2_with fail
        clear c1 c2 c3 q2
        generalize wr.alloc (.cells #[.int .i64 (a : Int), .int .i64 (c : Int), .int .i64 z] 70) = w5 at HO5 HA HB5 ⊢
        obtain ⟨gk, ck, h5, hor, hne, hlo⟩ := HO5.out.rowAt hta (by omega)
        have HS := Lib.hid (HO5.out.setIn hta h5 hor c (wrap64 ((T.getD a []).getD c 0 + 1)))
        have HS := Lib.hid (show OIntss _ _ _ _ (bump T a c) from HS.out)
        rw [htl] at h5 hor
        have h6 := hor.cell c hcm
        have h7 := hor.frozen c
        have a0 := HA.out.c0
        have a1 := HA.out.c1
        have HB6 := Lib.hid (HB5.out.setCell (p := ⟨gk, c, none⟩) hlo (.int .i64 (wrap64 ((T.getD a []).getD c 0 + 1))))
        clear hor hta htl
        generalize (T.getD a []).getD c 0 = tv at h6 HS HB6
        go_still_tail 11, (by kernel_rfl)
        change wpList _ _ _ _ _ w5.drew
        go_wp2_with fail
        go_roundw
        case rel => exact ⟨k + 1, _, hlt, by go_num, HS.out.drewN 1, HRB.out, HST.out, below_drewN HB6.out 1⟩
        case measure => simp [intOf]; omega
      · have HE := Lib.hid (mat_end (by have := HL.out; omega) hr.out)
        have HN : Hid ((matV L m xs).length = m) := by show _ = _; rw [← HE.out]; exact hrl.out.1
        clear hr
        go_wp2_with fail
        go_ret2
        have h5 := HOw.out
        rw [HE.out] at h5
        exact ⟨_, rfl, by rw [HN.out]; exact h5.mono HB1.out.size, step2 HB1.out HB.out⟩
end Go.Proofs.YtobmljclokmbcaaDoor

namespace Go.Proofs.YtobmljclokmbcaaDoor
open Go.RowKit
set_option linter.all false
set_option maxRecDepth 20000 in
set_option maxHeartbeats 3200000 in
theorem iRunMatrix_any (d k : Int) (w : World) : Calls Tryd.prog 12 #[.int .i64 d, .int .i64 k] w fun e w' => ∃ v, e = .returned (.tuple #[v, .bool (runMO d k)]) ∧ OIntss w' w.heap.size v (runMV d k).length (runMV d k) ∧ Below w.heap.size w w' := by
  cases hf : fitsR d k
  · have HF := Lib.hid hf
    have HV : Hid (runMV d k = [] ∧ runMO d k = false ∧ runX d k = [] ∧ runL d k = 0 ∧ runS d k = 0) := by show _ ∧ _; simp [runMV, runMO, runX, runL, runS, hf, matV, matOk, isLab, inR]
    clear hf
    rw [HV.out.1, HV.out.2.1]
    go_enter Tryd.func12, Tryd.ntmps12
    go_wp2_with fail
    refine (iRunLabels_any d k _).mono ?_
    rw [HF.out, HV.out.2.2.1, HV.out.2.2.2.1, HV.out.2.2.2.2]
    rintro e w1 ⟨v1, rfl, ho1, hb1⟩
    obtain ⟨a1, c1, rfl, _⟩ := ho1.form
    have HB2 := Lib.hid (step2 hb1 (below1 w1 (.cells #[.int .i64 0, .int .i64 0, .slice a1 ([] : List Ar).length c1] 32)))
    have HZ : Hid ((w1.alloc (.cells #[.int .i64 0, .int .i64 0, .slice a1 ([] : List Ar).length c1] 32)).heap.size = w1.heap.size + 1) := by show _ = _; simp
    clear ho1 hb1
    go_wp2_with fail
    generalize w1.alloc (.cells #[.int .i64 0, .int .i64 0, .slice a1 ([] : List Ar).length c1] 32) = w2 at HB2 HZ ⊢
    go_wp2_with fail
    go_ret2
    exact ⟨_, rfl, OIntss.none_ _ _, HB2.out⟩
  · have HF := Lib.hid hf
    clear hf
    go_enter Tryd.func12, Tryd.ntmps12
    go_wp2_with fail
    refine (iRunLabels_any d k _).mono ?_
    rw [HF.out]
    rintro e w1 ⟨v1, rfl, ho1, hb1⟩
    obtain ⟨a1, c1, rfl, _⟩ := ho1.form
    have HB2 := Lib.hid (step2 hb1 (below1 w1 (.cells #[.int .i64 (runL d k), .int .i64 (runS d k), .slice a1 (runX d k).length c1] 32)))
    have HI := Lib.hid (ho1.alloc (.cells #[.int .i64 (runL d k), .int .i64 (runS d k), .slice a1 (runX d k).length c1] 32)).read
    clear ho1 hb1
    go_wp2_with fail
    generalize w1.alloc (.cells #[.int .i64 (runL d k), .int .i64 (runS d k), .slice a1 (runX d k).length c1] 32) = w2 at HB2 HI ⊢
    refine (iMatrixOf_any _ _ _ _ _ (runX d k) _ HI.out).mono ?_
    rintro e w3 ⟨v3, rfl, ho3, hb3⟩
    have HO3 := Lib.hid ho3
    clear ho3
    go_wp2_with fail
    go_ret2
    exact ⟨_, rfl, HO3.out.mono HB2.out.size, step2 HB2.out hb3⟩
end Go.Proofs.YtobmljclokmbcaaDoor

namespace Go.Proofs.YtobmljclokmbcaaDoor
open Go.RowKit
set_option linter.all false
set_option maxRecDepth 20000 in
set_option maxHeartbeats 3200000 in
theorem sFloor_any (p : Option Addr) (n c : Nat) (m : List (List Int)) (d : Int) (w : World) (h : Intss w p n m) :
    Calls Tryd.prog 65 #[.slice p n c, .int .i64 d] w fun e w' => e = .returned (.int .i64 (floorG m d)) ∧ Below w.heap.size w w' := by
  have H := Lib.hid h
  clear h
  cases hs : isSmallM m
  · have hg : Hid (floorG m d = -1) := by show _ = _; simp [floorG, hs]
    go_enter Tryd.func65, Tryd.ntmps65
    go_wp2_with (first | (go_at_call 95; refine (sIsSmall_any _ _ _ m _ H.out).mono ?_; rintro e w' ⟨rfl, rfl⟩))
    go_ret
    exact ⟨ret_int hg.out.symm, Below.refl _ _⟩
  have HS := Lib.hid hs
  clear hs
  by_cases hd : 1 ≤ d ∧ d ≤ 100
  rotate_left
  · have hg : Hid (floorG m d = -1) := by show _ = _; unfold floorG; rw [inR_no (by omega)]; simp
    have B1 := Lib.hid (inR_no (x := d) (lo := 1) (hi := 100) (by omega))
    go_enter Tryd.func65, Tryd.ntmps65
    go_wp2_with (first | (go_at_call 95; refine (sIsSmall_any _ _ _ m _ H.out).mono ?_; rw [HS.out]; rintro e w' ⟨rfl, rfl⟩) | (go_at_call 57; refine (l1In_any _ _ _ _).mono ?_; rw [B1.out]; rintro e w' ⟨rfl, rfl⟩))
    go_ret
    exact ⟨ret_int hg.out.symm, Below.refl _ _⟩
  obtain ⟨h1, h2⟩ := hd
  have hg : Hid (bis (fun q => belowM m q d) 4000 0 (36 * d + 1) = floorG m d) := by show _ = _; unfold floorG; rw [HS.out, inR_mk ⟨h1, h2⟩]; simp
  obtain ⟨f, hf⟩ : ∃ f : Int → Bool, (fun q => belowM m q d) = f := ⟨_, rfl⟩
  have HF : Hid (∀ q, belowM m q d = f q) := by show ∀ q, _; intro q; rw [← hf]
  rw [hf] at hg
  clear hf
  have B1 := Lib.hid (inR_mk (x := d) (lo := 1) (hi := 100) ⟨h1, h2⟩)
  go_enter Tryd.func65, Tryd.ntmps65
  go_wp2_with (first | (go_at_call 95; refine (sIsSmall_any _ _ _ m _ H.out).mono ?_; rw [HS.out]; rintro e w' ⟨rfl, rfl⟩) | (go_at_call 57; refine (l1In_any _ _ _ _).mono ?_; rw [B1.out]; rintro e w' ⟨rfl, rfl⟩))
  go_loopw [5, 6] (fun x y wr => ∃ (lo hi : Int) (F : Nat), x = .int .i64 lo ∧ y = .int .i64 hi ∧ 0 ≤ lo ∧ lo < hi ∧ hi ≤ 3601 ∧ hi - lo ≤ F ∧ Hid (bis f F lo hi = floorG m d) ∧ Below w.heap.size w wr) (fun x y _ => (intOf y - intOf x).toNat)
  case atStart => exact ⟨0, 36 * d + 1, 4000, rfl, rfl, by omega, by omega, by omega, by omega, hg.out, Below.refl _ _⟩
  case round =>
    obtain ⟨lo, hi, F, rfl, rfl, g0, g1, g2, g3, hr, hbl⟩ := hrel
    have Hbl := Lib.hid hbl
    clear hbl hg
    by_cases hlt : 1 < hi - lo
    · obtain ⟨F', g4, HST⟩ := bis_step g3 hlt hr.out
      have HST := Lib.hid HST
      clear hr
      obtain ⟨q, hq⟩ : ∃ q, (lo + hi) / 2 = q := ⟨_, rfl⟩
      have hq1 : lo < q := by omega
      have hq2 : q < hi := by omega
      rw [hq] at HST
      have hdv : decide (1 < hi - lo) = true := decide_eq_true hlt
      clear hlt
      cases hfq : f q
      · have HN := Lib.hid (HST.out.2 hfq)
        have HFQ : Hid (belowM m q d = false) := (HF.out q).trans hfq
        clear HST hfq
        go_wp2_with fail
        refine (sBelow_any _ _ _ m q d _ (H.out.keep (Hbl.out.mono (Nat.le_refl _))) HS.out (by omega) (by omega) h1 h2).mono ?_
        rw [HFQ.out]
        rintro e w2 ⟨rfl, hb2⟩
        have HB2 := Lib.hid (step2 Hbl.out hb2)
        clear hb2
        go_wp2_with fail
        go_roundw
        case rel => exact ⟨q, hi, F', rfl, rfl, by omega, by omega, by omega, by omega, HN.out, HB2.out⟩
        case measure => simp [intOf]; omega
      · have HN := Lib.hid (HST.out.1 hfq)
        have HFQ : Hid (belowM m q d = true) := (HF.out q).trans hfq
        clear HST hfq
        go_wp2_with fail
        refine (sBelow_any _ _ _ m q d _ (H.out.keep (Hbl.out.mono (Nat.le_refl _))) HS.out (by omega) (by omega) h1 h2).mono ?_
        rw [HFQ.out]
        rintro e w2 ⟨rfl, hb2⟩
        have HB2 := Lib.hid (step2 Hbl.out hb2)
        clear hb2
        go_wp2_with fail
        go_roundw
        case rel => exact ⟨lo, q, F', rfl, rfl, by omega, by omega, by omega, by omega, HN.out, HB2.out⟩
        case measure => simp [intOf]; omega
    · have HE := Lib.hid (bis_end hlt hr.out)
      have hdv : decide (1 < hi - lo) = false := decide_eq_false hlt
      clear hr hlt
      go_wp2_with fail
      go_ret
      exact ⟨ret_int HE.out, Hbl.out⟩
end Go.Proofs.YtobmljclokmbcaaDoor

namespace Go.Proofs.YtobmljclokmbcaaDoor
open Go.RowKit
set_option linter.all false
set_option maxHeartbeats 1600000 in
theorem sRunBound_any (d k : Int) (w : World) : Calls Tryd.prog 24 #[.int .i64 d, .int .i64 k] w fun e w' => e = .returned (.int .i64 (runBound d k)) ∧ Below w.heap.size w w' := by
  cases hm : runMO d k
  · have HM := Lib.hid hm
    have HR : Hid (runBound d k = -1) := by show _ = _; simp [runBound, hm]
    clear hm
    go_enter Tryd.func24, Tryd.ntmps24
    go_wp2_with fail
    refine (sRunMatrix_any d k _).mono ?_
    rw [HM.out]
    rintro e w1 ⟨v, rfl, ho1, hb1⟩
    have HB := Lib.hid hb1
    clear ho1 hb1
    go_wp2_with fail
    go_ret
    exact ⟨ret_int HR.out.symm, HB.out⟩
  · have HM := Lib.hid hm
    by_cases hk : 3 < k
    · have HR : Hid (runBound d k = -1) := by show _ = _; simp [runBound, hk]
      have d1 : decide (3 < k) = true := decide_eq_true hk
      clear hm
      go_enter Tryd.func24, Tryd.ntmps24
      go_wp2_with fail
      refine (sRunMatrix_any d k _).mono ?_
      rw [HM.out]
      rintro e w1 ⟨v, rfl, ho1, hb1⟩
      have HB := Lib.hid hb1
      clear ho1 hb1
      go_wp2_with fail
      go_ret
      exact ⟨ret_int HR.out.symm, HB.out⟩
    · have HR : Hid (runBound d k = floorG (runMV d k) 100) := by show _ = _; simp [runBound, hm, hk]
      have d1 : decide (3 < k) = false := decide_eq_false hk
      clear hm
      go_enter Tryd.func24, Tryd.ntmps24
      go_wp2_with fail
      refine (sRunMatrix_any d k _).mono ?_
      rw [HM.out]
      rintro e w1 ⟨v, rfl, ho1, hb1⟩
      obtain ⟨a1, c1, rfl, hi1⟩ := ho1.form
      have HI := Lib.hid hi1
      have HB := Lib.hid hb1
      clear ho1 hb1 hi1
      go_wp2_with fail
      refine (sFloor_any _ _ _ (runMV d k) 100 _ HI.out).mono ?_
      rintro e w2 ⟨rfl, hb2⟩
      have HB2 := Lib.hid (step2 HB.out hb2)
      clear hb2
      go_wp2_with fail
      go_ret
      exact ⟨ret_int HR.out.symm, HB2.out⟩
end Go.Proofs.YtobmljclokmbcaaDoor

namespace Go.Proofs.YtobmljclokmbcaaDoor
open Go.RowKit
set_option linter.all false
set_option maxHeartbeats 1600000 in
theorem iRunBound_any (d k : Int) (w : World) : Calls Tryd.prog 23 #[.int .i64 d, .int .i64 k] w fun e w' => e = .returned (.int .i64 (runBound d k)) ∧ Below w.heap.size w w' := by
  cases hm : runMO d k
  · have HM := Lib.hid hm
    have HR : Hid (runBound d k = -1) := by show _ = _; simp [runBound, hm]
    clear hm
    go_enter Tryd.func23, Tryd.ntmps23
    go_wp2_with fail
    refine (iRunMatrix_any d k _).mono ?_
    rw [HM.out]
    rintro e w1 ⟨v, rfl, ho1, hb1⟩
    have HB := Lib.hid hb1
    clear ho1 hb1
    go_wp2_with fail
    go_ret
    exact ⟨ret_int HR.out.symm, HB.out⟩
  · have HM := Lib.hid hm
    by_cases hk : 3 < k
    · have HR : Hid (runBound d k = -1) := by show _ = _; simp [runBound, hk]
      have d1 : decide (3 < k) = true := decide_eq_true hk
      clear hm
      go_enter Tryd.func23, Tryd.ntmps23
      go_wp2_with fail
      refine (iRunMatrix_any d k _).mono ?_
      rw [HM.out]
      rintro e w1 ⟨v, rfl, ho1, hb1⟩
      have HB := Lib.hid hb1
      clear ho1 hb1
      go_wp2_with fail
      go_ret
      exact ⟨ret_int HR.out.symm, HB.out⟩
    · have HR : Hid (runBound d k = floorG (runMV d k) 100) := by show _ = _; simp [runBound, hm, hk]
      have d1 : decide (3 < k) = false := decide_eq_false hk
      clear hm
      go_enter Tryd.func23, Tryd.ntmps23
      go_wp2_with fail
      refine (iRunMatrix_any d k _).mono ?_
      rw [HM.out]
      rintro e w1 ⟨v, rfl, ho1, hb1⟩
      obtain ⟨a1, c1, rfl, hi1⟩ := ho1.form
      have HI := Lib.hid hi1
      have HB := Lib.hid hb1
      clear ho1 hb1 hi1
      go_wp2_with fail
      refine (iFloor_any _ _ _ (runMV d k) 100 _ HI.out).mono ?_
      rintro e w2 ⟨rfl, hb2⟩
      have HB2 := Lib.hid (step2 HB.out hb2)
      clear hb2
      go_wp2_with fail
      go_ret
      exact ⟨ret_int HR.out.symm, HB2.out⟩
end Go.Proofs.YtobmljclokmbcaaDoor
