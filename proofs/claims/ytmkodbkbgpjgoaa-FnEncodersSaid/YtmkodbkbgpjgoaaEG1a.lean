/- Parts of the proof of a law, joined: SStep EncSet EncP SIn SIsRes SSums SIsEnc IIsRes IIsEnc IPrune SPrune ISums. -/
import Derived.Deep.RegionLaw
import Derived.Test.YtmkodbkbgpjgoaaProg
import Derived.BigQuiet
import Derived.StillTailTactics
import Derived.Deep.RegionHeld3
import Derived.Test.YtmkodbkbgpjgoaaEG0a
import Derived.Test.YtmkodbkbgpjgoaaEG0b
import Derived.Test.YtmkodbkbgpjgoaaESIsLab
import Derived.Test.YtmkodbkbgpjgoaaEG0c
import Derived.Test.YtmkodbkbgpjgoaaESPairs
import Derived.Test.YtmkodbkbgpjgoaaEIIsLab
namespace Go.Proofs.Ytmkodbkbgpjgoaa
open Go.RowKit
set_option linter.all false
/- Sets of states, read with letters. -/
def bitQ (set : Int) (x : Nat) : Bool := bits BinOp.and IntKind.i64 (set / 2 ^ x) 1 == 1
def orQ (o : Int) (y : Nat) : Int := bits BinOp.or IntKind.i64 o (wrap64 (2 ^ y))
def stepL (set l : Int) : List Ar → Int → Int
  | [], o => o
  | (x, y, z) :: r, o => stepL set l r (if (z == l) && bitQ set x.toNat then orQ o y.toNat else o)
theorem step_next {set l o R : Int} {xs : List Ar} {k : Nat} {x y : Nat} {z : Int} (hx : xs[k]? = some ((x : Int), (y : Int), z)) (h : stepL set l (xs.drop k) o = R) :
    (z = l → bitQ set x = true → stepL set l (xs.drop (k + 1)) (orQ o y) = R) ∧ (z = l → bitQ set x = false → stepL set l (xs.drop (k + 1)) o = R) ∧ (z ≠ l → stepL set l (xs.drop (k + 1)) o = R) := by
  rw [drop_of_get hx, stepL] at h
  refine ⟨fun e eb => ?_, fun e eb => ?_, fun e => ?_⟩
  · simpa [e, eb] using h
  · simpa [e, eb] using h
  · simpa [e] using h
def readW (xs : List Ar) (s : ByteArray) : Nat → Nat → Int → Int
  | _, 0, set => set
  | i, m + 1, set => readW xs s (i + 1) m (stepL set ((bl s i : Int) - 97) xs 0)
set_option maxRecDepth 20000 in
set_option maxHeartbeats 3200000 in
theorem l14Step_any (L S : Int) (ao : Option Addr) (n cap : Nat) (xs : List Ar) (set letter : Int) (w : World) (h : Arcs w ao n xs) (hb : ∀ x ∈ xs, (0 ≤ x.1 ∧ x.1 < 12) ∧ (0 ≤ x.2.1 ∧ x.2.1 < 12)) :
    Calls Try.prog 46 #[.agg #[.int .i64 L, .int .i64 S, .slice ao n cap], .int .i64 set, .int .i64 letter] w fun e w' => e = .returned (.int .i64 (stepL set letter xs 0)) ∧ Below w.heap.size w w' := by
  have hm := h.2.1
  have HB1 := Lib.hid (below1 w (.cells #[.int .i64 L, .int .i64 S, .slice ao n cap] 26))
  have HA1 := Lib.hid (h.keep HB1.out)
  have HK1 := Lib.hid (Blk.new w 26 #[.int .i64 L, .int .i64 S, .slice ao n cap])
  have HL := Lib.hid h.1
  clear h
  go_enter Try.func46, Try.ntmps46
  go_wp2_with fail
  generalize w.alloc (.cells #[.int .i64 L, .int .i64 S, .slice ao n cap] 26) = w1 at HB1 HA1 HK1 ⊢
  go_loopw [7, 8] (fun a x wr => ∃ (k : Nat) (o : Int), k ≤ n ∧ a = .int .i64 o ∧ x = .int .i64 k ∧ Hid (stepL set letter (xs.drop k) o = stepL set letter xs 0) ∧ Below w1.heap.size w1 wr) (fun _ x _ => n - (intOf x).toNat)
  case atStart => exact ⟨0, 0, Nat.zero_le _, rfl, rfl, rfl, Below.refl _ _⟩
  case round =>
    obtain ⟨k, o, hk, rfl, rfl, hr, hbl⟩ := hrel
    obtain ⟨wo, rfl⟩ : ∃ wo : World, wo = wr := ⟨_, rfl⟩
    have Hbl := Lib.hid hbl
    have k2 := (HK1.out.keep hbl).c2
    by_cases hlt : k < n
    · obtain ⟨b, o1, x, y, z, rfl, c1, c2, c3, hx⟩ := (HA1.out.keep hbl).at_ hlt
      have hxb := hb _ (List.mem_of_getElem? hx.out)
      simp only at hxb
      obtain ⟨x, rfl⟩ : ∃ m : Nat, x = m := ⟨x.toNat, by omega⟩
      obtain ⟨y, rfl⟩ : ∃ m : Nat, y = m := ⟨y.toNat, by omega⟩
      have hx12 : x < 12 := by omega
      have hy12 : y < 12 := by omega
      have HBA := Lib.hid (below1 wo (.cells #[.int .i64 x, .int .i64 y, .int .i64 z] 55))
      have HA := Lib.hid (Blk.new wo 55 #[.int .i64 x, .int .i64 y, .int .i64 z])
      have a0 := HA.out.c0
      have a1 := HA.out.c1
      have a2 := HA.out.c2
      have HST := Lib.hid (step_next hx.out hr.out)
      have HBN := Lib.hid (step2 hbl HBA.out)
      clear hxb hbl hr hx
      by_cases hz : z = letter
      · have d1 : (z == letter) = true := by simp [hz]
        cases hq : bitQ set x
        · have HN := Lib.hid (HST.out.2.1 hz hq)
          have hq : (bits BinOp.and IntKind.i64 (set / 2 ^ x) 1 == 1) = false := hq
          clear hz HST
          go_wp2_with fail
          go_roundw
          case rel => exact ⟨k + 1, o, hlt, rfl, by go_num, HN.out, HBN.out⟩
          case measure => simp [intOf]; omega
        · have HN := Lib.hid (HST.out.1 hz hq)
          have hq : (bits BinOp.and IntKind.i64 (set / 2 ^ x) 1 == 1) = true := hq
          clear hz HST
          go_wp2_with fail
          go_roundw
          case rel => exact ⟨k + 1, orQ o y, hlt, rfl, by go_num, HN.out, HBN.out⟩
          case measure => simp [intOf]; omega
      · have d1 : (z == letter) = false := by simp [hz]
        have HN := Lib.hid (HST.out.2.2 hz)
        clear hz HST
        go_wp2_with fail
        go_roundw
        case rel => exact ⟨k + 1, o, hlt, rfl, by go_num, HN.out, HBN.out⟩
        case measure => simp [intOf]; omega
    · have HR : Hid (o = stepL set letter xs 0) := by
        show _ = _
        have := hr.out
        rw [List.drop_eq_nil_of_le (by have := HL.out; omega)] at this
        simpa [stepL] using this
      have HBN := Lib.hid hbl
      clear hr hbl
      go_wp2_with fail
      go_ret
      rw [HR.out]
      exact ⟨rfl, step2 HB1.out HBN.out⟩
set_option maxRecDepth 20000 in
set_option maxHeartbeats 3200000 in
theorem l14Read_any (L S : Int) (ao : Option Addr) (n cap : Nat) (xs : List Ar) (set : Int) (s : ByteArray) (w : World) (h : Arcs w ao n xs) (hs : s.size ≤ 1048576) (hb : ∀ x ∈ xs, (0 ≤ x.1 ∧ x.1 < 12) ∧ (0 ≤ x.2.1 ∧ x.2.1 < 12)) :
    Calls Try.prog 44 #[.agg #[.int .i64 L, .int .i64 S, .slice ao n cap], .int .i64 set, .string s] w fun e w' => e = .returned (.int .i64 (readW xs s 0 s.size set)) ∧ Below w.heap.size w w' := by
  have HB1 := Lib.hid (below1 w (.cells #[.int .i64 L, .int .i64 S, .slice ao n cap] 26))
  have HA1 := Lib.hid (h.keep HB1.out)
  have HK1 := Lib.hid (Blk.new w 26 #[.int .i64 L, .int .i64 S, .slice ao n cap])
  clear h
  go_enter Try.func44, Try.ntmps44
  go_wp2_with fail
  generalize w.alloc (.cells #[.int .i64 L, .int .i64 S, .slice ao n cap] 26) = w1 at HB1 HA1 HK1 ⊢
  go_loopw [1, 7] (fun a x wr => ∃ (i : Nat) (o : Int), i ≤ s.size ∧ a = .int .i64 o ∧ x = .int .i64 i ∧ Hid (readW xs s i (s.size - i) o = readW xs s 0 s.size set) ∧ Below w1.heap.size w1 wr) (fun _ x _ => s.size - (intOf x).toNat)
  case atStart => exact ⟨0, set, Nat.zero_le _, rfl, rfl, rfl, Below.refl _ _⟩
  case round =>
    obtain ⟨i, o, hi, rfl, rfl, hr, hbl⟩ := hrel
    obtain ⟨wo, rfl⟩ : ∃ wo : World, wo = wr := ⟨_, rfl⟩
    have HBL := Lib.hid hbl
    have HA := Lib.hid (HA1.out.keep hbl)
    have q := HK1.out.keep hbl
    have k0 := q.c0
    have k1 := q.c1
    have k2 := q.c2
    by_cases hlt : i < s.size
    · obtain ⟨c, hc⟩ : ∃ c : Nat, s[i].toNat = c := ⟨_, rfl⟩
      have hcb : bl s i = c := (bl_get hlt).trans hc
      have hc2 : c < 256 := by rw [← hcb]; exact bl_lt s i
      have hr2 := hr.out
      rw [show s.size - i = (s.size - (i + 1)) + 1 by omega, readW, hcb] at hr2
      have HN := Lib.hid hr2
      have hwc : IntKind.i64.wrap ((c : Int) - 97) = (c : Int) - 97 := by rw [IntKind.wrap_i64]; omega
      clear hr hr2 hcb q hbl
      go_wp2_with fail
      go_region_law (first
        | (go_simp; go_at_call 46; refine (l14Step_any _ _ _ _ _ xs _ _ _ (HA.out.drewN 1) hb).mono ?_; rintro e w2 ⟨rfl, hb2⟩; have HB2 := Lib.hid (HBL.out.trans ((below_drewN (Below.refl _ wo) 1).trans (hb2.mono (Nat.le_refl _)) |>.mono HBL.out.size)); clear hb2))
      all_goals (go_wp2_with fail)
      all_goals go_roundw
      all_goals first
        | exact ⟨i + 1, _, hlt, rfl, by go_num, HN.out, HB2.out⟩
        | (simp [intOf] <;> omega)
    · have HR : Hid (o = readW xs s 0 s.size set) := by
        show _ = _
        have := hr.out
        rw [show s.size - i = 0 by omega] at this
        exact this
      clear hr hbl q
      go_wp2_with fail
      go_ret
      rw [HR.out]
      exact ⟨rfl, step2 HB1.out HBL.out⟩
end Go.Proofs.Ytmkodbkbgpjgoaa

namespace Go.Proofs.Ytmkodbkbgpjgoaa
open Go.RowKit
set_option linter.all false
def stepN (set : Nat) (l : Int) : List Ar → Nat → Nat
  | [], o => o
  | x :: r, o => stepN set l r (if (x.2.2 == l) && set.testBit x.1.toNat then o ||| 2 ^ x.2.1.toNat else o)
theorem pow_lt13 {y : Nat} (h : y ≤ 12) : 2 ^ y < 8192 := by
  have : 2 ^ y ≤ 2 ^ 12 := Nat.pow_le_pow_right (by omega) h
  omega
theorem ofInt_nat {k : Nat} (h : k < 8192) : (BitVec.ofInt 64 (k : Int)).toNat = k := by rw [BitVec.toNat_ofInt]; omega
theorem wrap_nat {k : Nat} (h : k < 8192) : wrap64 (k : Int) = k := wrap_id (by omega)
theorem bitQ_nat {s x : Nat} (hs : s < 8192) (hx : x ≤ 12) : bitQ (s : Int) x = s.testBit x := by
  have e1 : ((s : Int) / 2 ^ x) = ((s / 2 ^ x : Nat) : Int) := by simp
  have h1 : s / 2 ^ x < 8192 := Nat.lt_of_le_of_lt (Nat.div_le_self _ _) hs
  unfold bitQ
  rw [e1]
  have e2 : bits BinOp.and IntKind.i64 ((s / 2 ^ x : Nat) : Int) 1 = ((s / 2 ^ x % 2 : Nat) : Int) := by
    show IntKind.i64.wrap ((BitVec.ofInt 64 ((s / 2 ^ x : Nat) : Int) &&& BitVec.ofInt 64 1).toNat : Nat) = _
    have e3 : (BitVec.ofInt 64 ((s / 2 ^ x : Nat) : Int) &&& BitVec.ofInt 64 1).toNat = s / 2 ^ x % 2 := by
      rw [BitVec.toNat_and]
      have a1 : (BitVec.ofInt 64 ((s / 2 ^ x : Nat) : Int)).toNat = s / 2 ^ x := ofInt_nat h1
      have a2 : (BitVec.ofInt 64 1).toNat = 1 := by decide
      rw [a1, a2, Nat.and_one_is_mod]
    rw [e3, IntKind.wrap_i64]
    omega
  rw [e2, Nat.testBit_eq_decide_div_mod_eq]
  by_cases h : s / 2 ^ x % 2 = 1
  · simp [h]
  · have : s / 2 ^ x % 2 = 0 := by omega
    simp [this]
theorem orQ_nat {o y : Nat} (ho : o < 8192) (hy : y ≤ 12) : orQ (o : Int) y = ((o ||| 2 ^ y : Nat) : Int) := by
  have hp := pow_lt13 hy
  have hor : o ||| 2 ^ y < 2 ^ 13 := Nat.or_lt_two_pow ho hp
  unfold orQ
  have e0 : wrap64 ((2 : Int) ^ y) = ((2 ^ y : Nat) : Int) := by
    have : ((2 : Int) ^ y) = ((2 ^ y : Nat) : Int) := by simp
    rw [this]
    exact wrap_nat hp
  rw [e0]
  show IntKind.i64.wrap ((BitVec.ofInt 64 (o : Int) ||| BitVec.ofInt 64 ((2 ^ y : Nat) : Int)).toNat : Nat) = _
  have e3 : (BitVec.ofInt 64 (o : Int) ||| BitVec.ofInt 64 ((2 ^ y : Nat) : Int)).toNat = o ||| 2 ^ y := by
    rw [BitVec.toNat_or]
    have a1 : (BitVec.ofInt 64 (o : Int)).toNat = o := ofInt_nat ho
    have a2 : (BitVec.ofInt 64 ((2 ^ y : Nat) : Int)).toNat = 2 ^ y := ofInt_nat hp
    rw [a1, a2]
  rw [e3, IntKind.wrap_i64]
  omega
theorem stepL_nat {set : Nat} {l : Int} (hs : set < 8192) : ∀ (xs : List Ar) (o : Nat), (∀ x ∈ xs, (0 ≤ x.1 ∧ x.1 ≤ 12) ∧ (0 ≤ x.2.1 ∧ x.2.1 ≤ 12)) → o < 8192 → stepL (set : Int) l xs (o : Int) = ((stepN set l xs o : Nat) : Int) ∧ stepN set l xs o < 8192
  | [], o, _, ho => ⟨rfl, ho⟩
  | (x, y, z) :: r, o, hb, ho => by
    have h0 := hb (x, y, z) (List.mem_cons_self ..)
    simp only at h0
    rw [stepL, stepN, bitQ_nat hs (by omega)]
    dsimp only
    cases hc : ((z == l) && set.testBit x.toNat)
    · simp only [Bool.false_eq_true, if_false]
      exact stepL_nat hs r o (fun a ha => hb a (List.mem_cons_of_mem _ ha)) ho
    · simp only [if_true]
      rw [orQ_nat ho (by omega)]
      exact stepL_nat hs r _ (fun a ha => hb a (List.mem_cons_of_mem _ ha)) (Nat.or_lt_two_pow (n := 13) ho (pow_lt13 (by omega)))
theorem stepN_bit {set : Nat} {l : Int} : ∀ (xs : List Ar) (o y : Nat), (stepN set l xs o).testBit y = (o.testBit y || xs.any (fun a => (a.2.2 == l) && (set.testBit a.1.toNat && decide (a.2.1.toNat = y))))
  | [], o, y => by simp [stepN]
  | a :: r, o, y => by
    rw [stepN, stepN_bit r, List.any_cons]
    cases h1 : (a.2.2 == l) <;> cases h2 : set.testBit a.1.toNat <;> simp [h1, h2, Nat.testBit_or, Nat.testBit_two_pow, Bool.or_assoc]
/-- No two arcs with one letter begin at one state. -/
theorem res_pair : ∀ {xs : List Ar}, xs.Pairwise (fun a b => ltA a b = true) → resF none xs = true → xs.Pairwise (fun a b => ¬ (a.1 = b.1 ∧ a.2.2 = b.2.2))
  | [], _, _ => List.Pairwise.nil
  | [x], _, _ => by simp
  | x :: y :: r, hp, hr => by
    have hp2 := List.pairwise_cons.1 hp
    have hr2 : resF none (y :: r) = true := by
      simp only [resF, Bool.and_eq_true] at hr ⊢
      exact ⟨rfl, hr.2.2⟩
    have ih := res_pair hp2.2 hr2
    have hxy : ¬ (x.1 = y.1 ∧ x.2.2 = y.2.2) := by
      simp only [resF, differ, Bool.and_eq_true] at hr
      intro e
      have := hr.2.1
      simp [e.1, e.2] at this
    refine List.pairwise_cons.2 ⟨fun z hz => ?_, ih⟩
    rcases List.mem_cons.1 hz with rfl | hz
    · exact hxy
    · intro e
      have h1 := ltA_iff.1 (hp2.1 y (List.mem_cons_self ..))
      have h2 := ltA_iff.1 ((List.pairwise_cons.1 hp2.2).1 z hz)
      apply hxy
      omega
theorem pair_eq {xs : List Ar} (h : xs.Pairwise (fun a b => ¬ (a.1 = b.1 ∧ a.2.2 = b.2.2))) {a b : Ar} (ha : a ∈ xs) (hb : b ∈ xs) (h1 : a.1 = b.1) (h2 : a.2.2 = b.2.2) : a = b := by
  obtain ⟨i, hi⟩ := List.getElem?_of_mem ha
  obtain ⟨j, hj⟩ := List.getElem?_of_mem hb
  obtain ⟨hil, rfl⟩ := List.getElem?_eq_some_iff.1 hi
  obtain ⟨hjl, rfl⟩ := List.getElem?_eq_some_iff.1 hj
  rw [List.pairwise_iff_getElem] at h
  rcases Nat.lt_trichotomy i j with hij | hij | hij
  · exact absurd ⟨h1, h2⟩ (h i j hil hjl hij)
  · subst hij; rfl
  · exact absurd ⟨h1.symm, h2.symm⟩ (h j i hjl hil hij)
/-- One state, read with the letter of one of its arcs, leads to that arc's end. -/
theorem step_one {L S : Int} {xs : List Ar} (h : isLab L S xs = true) (hr : resF none xs = true) {a : Ar} (ha : a ∈ xs) : stepN (2 ^ a.1.toNat) a.2.2 xs 0 = 2 ^ a.2.1.toNat := by
  have hl := isLab_get h
  have hall := okFrom_all hl.2.2
  have hp := res_pair (isLab_pair h) hr
  apply Nat.eq_of_testBit_eq
  intro y
  rw [stepN_bit, Nat.testBit_two_pow]
  have hb : ∀ x ∈ xs, 0 ≤ x.1 ∧ 0 ≤ x.2.1 := fun x hx => by
    obtain ⟨x1, x2, x3⟩ := x
    have := arcB_get (hall _ hx)
    simp only
    omega
  by_cases e : a.2.1.toNat = y
  · rw [decide_eq_true e, Nat.zero_testBit, Bool.false_or, List.any_eq_true]
    refine ⟨a, ha, ?_⟩
    simp [e, Nat.testBit_two_pow]
  · rw [decide_eq_false e, Nat.zero_testBit, Bool.false_or]
    rw [List.any_eq_false]
    intro x hx
    by_cases h1 : x.2.2 = a.2.2
    · by_cases h2 : a.1.toNat = x.1.toNat
      · have := hb x hx
        have := hb a ha
        have e2 := pair_eq hp hx ha (by omega) h1
        subst e2
        simp [e]
      · simp [Nat.testBit_two_pow, h2]
    · simp [h1]
theorem read_enc {L S : Int} {xs : List Ar} (h : isEnc L S xs = true) {s w : ByteArray} : ∀ (m i p : Nat), (p : Int) < S → (∀ j, i ≤ j → j < i + m → 97 ≤ bl s j ∧ bl s j ≤ 98) →
    (∀ (j : Nat) (z : Int), (encF xs s i m p).1[j]? = some z → (bl w (i + j) : Int) = 97 + z) → ∃ q : Nat, (encF xs s i m p).2 = q ∧ (q : Int) < S ∧ readW xs w i m ((2 ^ p : Nat) : Int) = ((2 ^ q : Nat) : Int)
  | 0, i, p, hp, _, _ => ⟨p, rfl, hp, rfl⟩
  | m + 1, i, p, hp, hb, hw => by
    have hg := isEnc_get h
    have hl := isLab_get hg.1
    have hall := okFrom_all hl.2.2
    have hA := encA_of h
    have hbi := hb i (Nat.le_refl _) (by omega)
    have hcc : bl s i - 97 < 2 := by omega
    have ha := hA.arm p (bl s i - 97) (by omega) hcc
    have hw0 := hw 0 (armA xs p (bl s i - 97)).2.2 (by simp [encF])
    rw [Nat.add_zero] at hw0
    obtain ⟨q, hq⟩ := Int.eq_ofNat_of_zero_le ha.2.2.1
    have hmem : armA xs p (bl s i - 97) ∈ fromL (p : Int) xs := List.mem_of_getElem? (arm_get (p := (p : Int)) (hg.2.2 p hp) hcc)
    have hax : armA xs p (bl s i - 97) ∈ xs := (fromL_sub (p : Int) xs).subset hmem
    have hfr : (armA xs p (bl s i - 97)).1 = p := fromL_from hmem
    have hst := step_one hg.1 hg.2.1 hax
    rw [hfr, Int.toNat_natCast, hq, Int.toNat_natCast] at hst
    have ih := read_enc h (s := s) (w := w) m (i + 1) q (by omega) (fun j h1 h2 => hb j (by omega) (by omega)) (fun j z hz => by
      have := hw (j + 1) z (by simp only [encF, List.getElem?_cons_succ]; rw [hq]; exact hz)
      rw [show i + 1 + j = i + (j + 1) by omega]
      exact this)
    obtain ⟨q2, h1, h2, h3⟩ := ih
    refine ⟨q2, by rw [encF, hq]; exact h1, h2, ?_⟩
    have hbnd : ∀ x ∈ xs, (0 ≤ x.1 ∧ x.1 ≤ 12) ∧ (0 ≤ x.2.1 ∧ x.2.1 ≤ 12) := fun x hx => by
      obtain ⟨x1, x2, x3⟩ := x
      have := arcB_get (hall _ hx)
      simp only
      omega
    have hn := (stepL_nat (l := (armA xs p (bl s i - 97)).2.2) (pow_lt13 (show p ≤ 12 by omega)) xs 0 hbnd (by omega)).1
    rw [hst] at hn
    rw [readW, show (bl w i : Int) - 97 = (armA xs p (bl s i - 97)).2.2 by omega]
    have e0 : stepL ((2 ^ p : Nat) : Int) (armA xs p (bl s i - 97)).2.2 xs 0 = ((2 ^ q : Nat) : Int) := hn
    rw [e0]
    exact h3
end Go.Proofs.Ytmkodbkbgpjgoaa

namespace Go.Proofs.Ytmkodbkbgpjgoaa
open Go.RowKit
set_option linter.all false
theorem okFrom_mk {s l : Int} : ∀ {xs : List Ar} {p : Option Ar}, xs.Pairwise (fun a b => ltA a b = true) → (∀ x ∈ xs, arcB s l x = true) → (∀ q, p = some q → ∀ y ∈ xs, ltA q y = true) → okFrom s l p xs = true
  | [], _, _, _, _ => rfl
  | x :: r, p, hp, hb, hq => by
    have hp2 := List.pairwise_cons.1 hp
    simp only [okFrom, Bool.and_eq_true]
    refine ⟨⟨hb x (List.mem_cons_self ..), ?_⟩, okFrom_mk hp2.2 (fun a ha => hb a (List.mem_cons_of_mem _ ha)) (fun q e y hy => by injection e with e; subst e; exact hp2.1 y hy)⟩
    cases p with
    | none => rfl
    | some q => exact hq q rfl x (List.mem_cons_self ..)
theorem isLab_mk {L S : Int} {xs : List Ar} (hL : 1 ≤ L ∧ L ≤ 3) (hS : 1 ≤ S ∧ S ≤ 12) (hp : xs.Pairwise (fun a b => ltA a b = true)) (hb : ∀ x ∈ xs, arcB (S - 1) (L - 1) x = true) : isLab L S xs = true := by
  simp only [isLab, Bool.and_eq_true]
  exact ⟨inR_mk hL, inR_mk hS, okFrom_mk hp hb (fun q e => by cases e)⟩
theorem res_mk : ∀ {xs : List Ar} {p : Option Ar}, xs.Pairwise (fun a b => ¬ (a.1 = b.1 ∧ a.2.2 = b.2.2)) → (∀ q, p = some q → ∀ y ∈ xs, ¬ (q.1 = y.1 ∧ q.2.2 = y.2.2)) → resF p xs = true
  | [], _, _, _ => rfl
  | x :: r, p, hp, hq => by
    have hp2 := List.pairwise_cons.1 hp
    simp only [resF, Bool.and_eq_true]
    refine ⟨?_, res_mk hp2.2 (fun q e y hy => by injection e with e; subst e; exact hp2.1 y hy)⟩
    cases p with
    | none => rfl
    | some q =>
      have := hq q rfl x (List.mem_cons_self ..)
      simp only [differ]
      by_cases h1 : q.1 = x.1
      · by_cases h2 : q.2.2 = x.2.2
        · exact absurd ⟨h1, h2⟩ this
        · simp [h2]
      · simp [h1]
theorem prn_mem {xs : List Ar} : ∀ {n : Nat} {x : Ar}, x ∈ prn xs n → x ∈ xs ∧ ∃ q : Nat, q < n ∧ x.1 = q
  | 0, x, h => by simp [prn] at h
  | n + 1, x, h => by
    simp only [prn, List.mem_append] at h
    rcases h with h | h
    · obtain ⟨h1, q, h2, h3⟩ := prn_mem h
      exact ⟨h1, q, by omega, h3⟩
    · have hm := List.mem_of_mem_take h
      exact ⟨(fromL_sub (n : Int) xs).subset hm, n, by omega, fromL_from hm⟩
theorem prn_pair {xs : List Ar} {R : Ar → Ar → Prop} (hx : xs.Pairwise R) (hR : ∀ a b : Ar, a.1 < b.1 → R a b) : ∀ n : Nat, (prn xs n).Pairwise R
  | 0 => List.Pairwise.nil
  | n + 1 => by
    rw [prn, List.pairwise_append]
    refine ⟨prn_pair hx hR n, (hx.sublist (fromL_sub (n : Int) xs)).sublist (List.take_sublist _ _), fun a ha b hb => ?_⟩
    obtain ⟨_, q, h2, h3⟩ := prn_mem ha
    have := fromL_from (List.mem_of_mem_take hb)
    exact hR a b (by omega)
theorem fromL_append (p : Int) : ∀ (xs ys : List Ar), fromL p (xs ++ ys) = fromL p xs ++ fromL p ys
  | [], _ => rfl
  | x :: r, ys => by
    rw [List.cons_append, fromL, fromL, fromL_append p r ys]
    split <;> rfl
theorem fromL_none {p : Int} : ∀ {xs : List Ar}, (∀ x ∈ xs, x.1 ≠ p) → fromL p xs = []
  | [], _ => rfl
  | x :: r, h => by
    rw [fromL, if_neg (h x (List.mem_cons_self ..)), fromL_none (fun y hy => h y (List.mem_cons_of_mem _ hy))]
theorem fromL_all {p : Int} : ∀ {xs : List Ar}, (∀ x ∈ xs, x.1 = p) → fromL p xs = xs
  | [], _ => rfl
  | x :: r, h => by
    rw [fromL, if_pos (h x (List.mem_cons_self ..)), fromL_all (fun y hy => h y (List.mem_cons_of_mem _ hy))]
theorem fromL_prn {xs : List Ar} {q : Nat} : ∀ {n : Nat}, q < n → fromL (q : Int) (prn xs n) = (fromL (q : Int) xs).take 2
  | 0, h => by omega
  | n + 1, h => by
    rw [prn, fromL_append]
    by_cases e : q = n
    · subst e
      rw [fromL_none (fun x hx => by obtain ⟨_, r, h2, h3⟩ := prn_mem hx; omega), List.nil_append]
      exact fromL_all (fun x hx => fromL_from (List.mem_of_mem_take hx))
    · rw [fromL_prn (show q < n by omega), fromL_none (xs := (fromL (n : Int) xs).take 2) (fun x hx => by have := fromL_from (List.mem_of_mem_take hx); omega), List.append_nil]
theorem many_mk {xs : List Ar} : ∀ {m p : Nat}, (∀ q, p ≤ q → q < p + m → 2 ≤ (fromL (q : Int) xs).length) → manyF xs p m = true
  | 0, _, _ => rfl
  | m + 1, p, h => by
    simp only [manyF, Bool.and_eq_true, decide_eq_true_eq]
    exact ⟨h p (Nat.le_refl _) (by omega), many_mk (fun q h1 h2 => h q (by omega) (by omega))⟩
theorem prune_ok {L S : Int} {xs : List Ar} (h : isEnc L S xs = true) : isEnc L S (prn xs S.toNat) = true ∧ ∀ (k : Nat) (x : Int), (stSums L S (prn xs S.toNat))[k]? = some x → x = 2 := by
  have hg := isEnc_get h
  have hl := isLab_get hg.1
  have hall := okFrom_all hl.2.2
  have hlab : isLab L S (prn xs S.toNat) = true := isLab_mk hl.1 hl.2.1 (prn_pair (isLab_pair hg.1) (fun a b hab => by rw [ltA_iff]; exact .inl hab) _) (fun x hx => hall x (prn_mem hx).1)
  have hres : resF none (prn xs S.toNat) = true := res_mk (prn_pair (res_pair (isLab_pair hg.1) hg.2.1) (fun a b hab => by omega) _) (fun q e => by cases e)
  have hlen : ∀ q : Nat, q < S.toNat → (fromL (q : Int) (prn xs S.toNat)).length = 2 := fun q hq => by
    rw [fromL_prn hq, List.length_take]
    have := hg.2.2 q (by omega)
    omega
  refine ⟨?_, fun k x hk => ?_⟩
  · simp only [isEnc, isRes, Bool.and_eq_true]
    exact ⟨⟨hlab, hres⟩, many_mk (fun q _ h2 => by rw [hlen q (by omega)]; exact Nat.le_refl _)⟩
  · rw [stSums, if_pos hlab] at hk
    have hkl : k < S.toNat := by have := (List.getElem?_eq_some_iff.1 hk).1; rw [sumsL_len] at this; exact this
    rw [sumsL_get hkl] at hk
    injection hk with hk
    rw [← hk, hlen k hkl]
    rfl
/- Split states. -/
theorem mem_splitL_of {S p : Int} {bit : Nat → Bool} : ∀ {xs : List Ar} {a : Nat} {x : Ar}, x ∈ xs → ∃ f, (f = x.1 ∨ (f = S ∧ x.1 = p)) ∧ (f, x.2.1, x.2.2) ∈ splitL S p bit a xs ∧ (x.2.1 = p → (f, S, x.2.2) ∈ splitL S p bit a xs)
  | [], _, _, h => by simp at h
  | y :: r, a, x, h => by
    rcases List.mem_cons.1 h with rfl | h
    · refine ⟨newFrom S p bit a x, ?_, ?_, fun e => ?_⟩
      · unfold newFrom
        split
        · split
          · right; constructor <;> first | rfl | assumption
          · left; rfl
        · left; rfl
      · rw [splitL, splitOne]; simp
      · rw [splitL, splitOne, if_pos e]; simp
    · obtain ⟨f, h1, h2, h3⟩ := mem_splitL_of (S := S) (p := p) (bit := bit) (a := if y.1 = p then a + 1 else a) h
      refine ⟨f, h1, ?_, fun e => ?_⟩
      · rw [splitL]; exact List.mem_append_right _ h2
      · rw [splitL]; exact List.mem_append_right _ (h3 e)
theorem sortA_facts {xs : List Ar} (h : xs.Nodup) : (sortA xs).Pairwise (fun a b => ltA a b = true) ∧ (∀ x, x ∈ sortA xs ↔ x ∈ xs) := by
  have h1 := sortS_all xs [] List.Pairwise.nil (by simpa using h)
  have h2 := sortS_eq h
  have h3 : xs.foldl insS [] = sortA xs := h2
  rw [h3] at h1
  exact ⟨h1.1, fun x => by rw [h1.2.mem_iff]; simp⟩
theorem split_facts {L S : Int} {xs : List Ar} {p set : Int} (h : splOk L S xs p set = true) :
    splX L S xs p set = sortA (splitL S p (bitS set) 0 xs) ∧ isLab L (S + 1) (splX L S xs p set) = true ∧ (∀ x, x ∈ splX L S xs p set ↔ x ∈ splitL S p (bitS set) 0 xs) := by
  have hg := splOk_get h
  have hl := isLab_get hg.1
  have hall := okFrom_all hl.2.2
  have hp := inR_true hg.2.2.1
  have hb : ∀ x ∈ xs, (0 ≤ x.1 ∧ x.1 < S) ∧ (0 ≤ x.2.1 ∧ x.2.1 < S) ∧ (0 ≤ x.2.2 ∧ x.2.2 ≤ L - 1) := fun x hx => by
    obtain ⟨x1, x2, x3⟩ := x
    have := arcB_get (hall _ hx)
    simp only
    omega
  have hnd := splitL_nodup (S := S) (p := p) (by omega) (bit := bitS set) (a := 0) (isLab_pair hg.1) (fun x hx => ⟨(hb x hx).1.2, (hb x hx).2.1.2⟩)
  have hv : splX L S xs p set = sortA (splitL S p (bitS set) 0 xs) := by simp [splX, h]
  have hs := sortA_facts hnd
  rw [hv]
  refine ⟨rfl, isLab_mk hl.1 ⟨by omega, by have := hg.2.1; omega⟩ hs.1 (fun x hx => ?_), hs.2⟩
  obtain ⟨y, hy, h1, h2, h3⟩ := mem_splitL ((hs.2 x).1 hx)
  have := hb y hy
  obtain ⟨x1, x2, x3⟩ := x
  simp only at h1 h2 h3
  exact arcB_t (inR_mk (by omega)) (inR_mk (by omega)) (inR_mk (by omega))
/-- A set of states, with the new state beside the one that was split. -/
def liftS (S p T : Nat) : Nat := if T.testBit p then T ||| 2 ^ S else T
theorem liftS_bit (S p T x : Nat) : (liftS S p T).testBit x = (T.testBit x || (decide (S = x) && T.testBit p)) := by
  unfold liftS
  cases h : T.testBit p
  · simp
  · simp [Nat.testBit_or, Nat.testBit_two_pow]
theorem stepN_mem {set : Nat} {l : Int} {xs : List Ar} {y : Nat} : (stepN set l xs 0).testBit y = true ↔ ∃ a ∈ xs, a.2.2 = l ∧ set.testBit a.1.toNat = true ∧ a.2.1.toNat = y := by
  rw [stepN_bit, Nat.zero_testBit, Bool.false_or, List.any_eq_true]
  constructor
  · rintro ⟨a, ha, h⟩
    simp only [Bool.and_eq_true, beq_iff_eq, decide_eq_true_eq] at h
    exact ⟨a, ha, h⟩
  · rintro ⟨a, ha, h1, h2, h3⟩
    exact ⟨a, ha, by simp [h1, h2, h3]⟩
theorem split_step_set {L S : Int} {xs : List Ar} {p set : Int} (h : splOk L S xs p set = true) {T : Nat} (hT : T < 2 ^ S.toNat) (l : Int) :
    stepN (liftS S.toNat p.toNat T) l (splX L S xs p set) 0 = liftS S.toNat p.toNat (stepN T l xs 0) := by
  have hg := splOk_get h
  have hf := split_facts h
  have hl := isLab_get hg.1
  have hall := okFrom_all hl.2.2
  have hp := inR_true hg.2.2.1
  have hb : ∀ x ∈ xs, (0 ≤ x.1 ∧ x.1 < S) ∧ (0 ≤ x.2.1 ∧ x.2.1 < S) := fun x hx => by
    obtain ⟨x1, x2, x3⟩ := x
    have := arcB_get (hall _ hx)
    simp only
    omega
  have hTS : T.testBit S.toNat = false := Nat.testBit_lt_two_pow hT
  apply Nat.eq_of_testBit_eq
  intro y
  rw [liftS_bit, Bool.eq_iff_iff, stepN_mem, Bool.or_eq_true, Bool.and_eq_true, stepN_mem, stepN_mem, decide_eq_true_eq]
  constructor
  · rintro ⟨a, ha, h1, h2, h3⟩
    obtain ⟨x, hx, e1, e2, e3⟩ := mem_splitL ((hf.2.2 a).1 ha)
    have hbx := hb x hx
    have hTx : T.testBit x.1.toNat = true := by
      rw [liftS_bit, Bool.or_eq_true, Bool.and_eq_true, decide_eq_true_eq] at h2
      rcases e1 with e1 | ⟨e1, e4⟩
      · rcases h2 with h2 | ⟨h2, _⟩
        · rw [← e1]; exact h2
        · omega
      · rcases h2 with h2 | ⟨_, h2⟩
        · rw [e1, hTS] at h2; cases h2
        · rw [e4]; exact h2
    rcases e2 with e2 | ⟨e2, e4⟩
    · left
      exact ⟨x, hx, by rw [← e3]; exact h1, hTx, by rw [← e2]; exact h3⟩
    · right
      exact ⟨by omega, x, hx, by rw [← e3]; exact h1, hTx, by rw [e4]⟩
  · intro hc
    have key : ∀ x ∈ xs, x.2.2 = l → T.testBit x.1.toNat = true → ∀ f, (f = x.1 ∨ (f = S ∧ x.1 = p)) → (liftS S.toNat p.toNat T).testBit f.toNat = true := by
      intro x hx _ hTx f hf2
      rw [liftS_bit, Bool.or_eq_true, Bool.and_eq_true, decide_eq_true_eq]
      rcases hf2 with e | ⟨e, e2⟩
      · left; rw [e]; exact hTx
      · right; exact ⟨by rw [e], by rw [← e2]; exact hTx⟩
    rcases hc with ⟨x, hx, h1, h2, h3⟩ | ⟨hS, x, hx, h1, h2, h3⟩
    · obtain ⟨f, f1, f2, _⟩ := mem_splitL_of (S := S) (p := p) (bit := bitS set) (a := 0) hx
      exact ⟨_, (hf.2.2 _).2 f2, h1, key x hx h1 h2 f f1, h3⟩
    · have hbx := hb x hx
      obtain ⟨f, f1, _, f3⟩ := mem_splitL_of (S := S) (p := p) (bit := bitS set) (a := 0) hx
      exact ⟨_, (hf.2.2 _).2 (f3 (by omega)), h1, key x hx h1 h2 f f1, hS⟩
theorem liftS_zero (S p T : Nat) : liftS S p T = 0 ↔ T = 0 := by
  unfold liftS
  split
  · rename_i h
    constructor
    · intro e
      have := Nat.testBit_or T (2 ^ S) p
      rw [e, h] at this
      simp at this
    · intro e
      rw [e] at h
      simp at h
  · exact Iff.rfl
theorem stepN_lt {S : Nat} {set : Nat} {l : Int} {xs : List Ar} (h : ∀ x ∈ xs, x.2.1.toNat < S) : stepN set l xs 0 < 2 ^ S := by
  apply Nat.lt_pow_two_of_testBit
  intro y hy
  cases hc : (stepN set l xs 0).testBit y with
  | false => rfl
  | true =>
    obtain ⟨a, ha, _, _, h3⟩ := stepN_mem.1 hc
    have := h a ha
    omega
theorem liftS_full {S p : Nat} (h : p < S) : liftS S p (2 ^ S - 1) = 2 ^ (S + 1) - 1 := by
  apply Nat.eq_of_testBit_eq
  intro y
  rw [liftS_bit, Nat.testBit_two_pow_sub_one, Nat.testBit_two_pow_sub_one, Nat.testBit_two_pow_sub_one, decide_eq_true h, Bool.and_true]
  by_cases h1 : y < S
  · simp [h1]; omega
  · by_cases h2 : S = y
    · simp [h2]
    · have : ¬ y < S + 1 := by omega
      simp [h1, h2, this]
theorem nodup_le : ∀ (n : Nat) (rs : List Nat), rs.Nodup → (∀ r ∈ rs, r < n) → rs.length ≤ n
  | 0, rs, _, h => by
    cases rs with
    | nil => simp
    | cons r rs => exact absurd (h r (List.mem_cons_self ..)) (by omega)
  | n + 1, rs, hd, h => by
    have h1 := nodup_le n (rs.erase n) (hd.erase n) (fun r hr => by
      have h2 := h r (List.mem_of_mem_erase hr)
      have h3 : r ≠ n := fun e => by subst e; exact (List.Nodup.not_mem_erase hd) hr
      omega)
    have h2 := List.length_erase_le (a := n) (l := rs)
    have h3 : rs.length ≤ (rs.erase n).length + 1 := by
      by_cases hm : n ∈ rs
      · rw [List.length_erase_of_mem hm]; omega
      · rw [List.erase_of_not_mem hm]; omega
    omega
end Go.Proofs.Ytmkodbkbgpjgoaa

namespace Go.Proofs.Ytmkodbkbgpjgoaa
open Go.RowKit
set_option linter.all false
set_option maxRecDepth 20000 in
set_option maxHeartbeats 6400000 in
theorem sIn_any (K : Int) (aF : Option Addr) (nF cF : Nat) (F : List ByteArray) (aP : Option Addr) (n cP : Nat) (P : List ByteArray) (s : ByteArray) (w : World) (h : Strs w aF nF F) (hF : ∀ f ∈ F, f.size ≤ 100) (hp : Strs w aP n P) (hP : ∀ p ∈ P, p.size ≤ 100) (hs : s.size ≤ 100) :
    Calls Try.prog 91 #[.agg #[.int .i64 K, .slice aF nF cF], .slice aP n cP, .string s] w fun e w' => e = .returned (.bool (inL F P s)) ∧ Below w.heap.size w w' := by
  have hm := hp.2.1
  have HB1 := Lib.hid (below1 w (.cells #[.int .i64 K, .slice aF nF cF] 78))
  have HF1 := Lib.hid (h.keep HB1.out)
  have HP1 := Lib.hid (hp.keep HB1.out)
  have HK1 := Lib.hid (Blk.new w 78 #[.int .i64 K, .slice aF nF cF])
  have k1 : (w.alloc (.cells #[.int .i64 K, .slice aF nF cF] 78)).cell? ⟨w.heap.size, 1, none⟩ = some (.slice aF nF cF) := HK1.out.cell 1
  have HL := Lib.hid hp.1
  have HPs := Lib.hid hP
  have hFs := Lib.hid hF
  clear h hp hP hF
  by_cases h0 : n = 0
  · have HR : Hid (inL F P s = false) := by
      show _ = _
      have e : P = [] := List.eq_nil_of_length_eq_zero (by rw [HL.out]; exact h0)
      subst e
      rfl
    have d0 : ((n : Int) == 0) = true := beq_iff_eq.2 (by omega)
    clear h0 k1
    go_enter Try.func91, Try.ntmps91
    go_wp2_with fail
    go_ret
    exact ⟨ret_bool HR.out.symm, HB1.out⟩
  have d0 : ((n : Int) == 0) = false := beq_eq_false_iff_ne.2 (by omega)
  have HNE : Hid (P.isEmpty = false) := by
    show _ = _
    cases P with
    | nil => exact absurd HL.out.symm h0
    | cons a b => rfl
  clear h0
  have HAV := fun W (q : Strs W aF nF F) => sAvoids_any aF nF cF F s W q hs hFs.out
  cases ha : avB F s
  · have HR : Hid (inL F P s = false) := by show _ = _; simp [inL, ha]
    rw [ha] at HAV
    have HAV := Lib.hid HAV
    clear ha
    go_enter Try.func91, Try.ntmps91
    go_wp2_with fail
    refine (HAV.out _ HF1.out).mono ?_
    rintro e w' ⟨rfl, rfl⟩
    go_wp2_with fail
    go_ret
    exact ⟨ret_bool HR.out.symm, HB1.out⟩
  rw [ha] at HAV
  have HAV := Lib.hid HAV
  have HA := Lib.hid ha
  clear ha
  by_cases h2 : 2 ≤ s.size
  · have d2 : decide ((2 : Int) ≤ (s.size : Int)) = true := decide_eq_true (by omega)
    have hw1 : (0 : Int) ≤ (s.size : Int) - 2 := by omega
    have hw2 : (2 : Int) ≤ (s.size : Int) := by omega
    have hw3 : (s.size : Int) - 2 ≤ (s.size : Int) := by omega
    have HC1 := fun W (q : Strs W aP n P) => sHas_any aP n cP P (s.extract 0 2) W q
    cases h1 : hasT P (s.extract 0 2)
    · have HR : Hid (inL F P s = false) := by show _ = _; simp [inL, h1, h2]
      rw [h1] at HC1
      have HC1 := Lib.hid HC1
      clear h1
      go_enter Try.func91, Try.ntmps91
      go_wp2_with fail
      refine (HAV.out _ HF1.out).mono ?_
      rintro e w' ⟨rfl, rfl⟩
      go_wp2_with fail
      refine (HC1.out _ HP1.out).mono ?_
      rintro e w' ⟨rfl, rfl⟩
      go_wp2_with fail
      go_ret
      exact ⟨ret_bool HR.out.symm, HB1.out⟩
    · have HR : Hid (inL F P s = hasT P (s.extract (s.size - 2) s.size)) := by show _ = _; simp [inL, h1, h2, HNE.out, HA.out]
      rw [h1] at HC1
      have HC1 := Lib.hid HC1
      clear h1
      go_enter Try.func91, Try.ntmps91
      go_wp2_with fail
      refine (HAV.out _ HF1.out).mono ?_
      rintro e w' ⟨rfl, rfl⟩
      go_wp2_with fail
      refine (HC1.out _ HP1.out).mono ?_
      rintro e w' ⟨rfl, rfl⟩
      go_wp2_with fail
      refine (sHas_any _ _ _ P _ _ HP1.out).mono ?_
      rintro e w' ⟨rfl, rfl⟩
      go_wp2_with fail
      go_ret
      refine ⟨ret_bool ?_, HB1.out⟩
      rw [HR.out]
      all_goals (first | rfl | (congr 2; omega) | simp)
  · have d2 : decide ((2 : Int) ≤ (s.size : Int)) = false := decide_eq_false (by omega)
    have HR : Hid (inL F P s = P.any fun p => occ p s) := by show _ = _; simp [inL, h2, HNE.out, HA.out]
    go_enter Try.func91, Try.ntmps91
    go_wp2_with fail
    refine (HAV.out _ HF1.out).mono ?_
    rintro e w' ⟨rfl, rfl⟩
    go_wp2_with fail
    go_loop [7] (fun v => ∃ k : Nat, k ≤ n ∧ v = .int .i64 k ∧ Hid ((P.drop k).any (fun p => occ p s) = inL F P s)) (fun v => n - (intOf v).toNat)
    case atStart => exact ⟨0, Nat.zero_le _, rfl, HR.out.symm⟩
    case round =>
      obtain ⟨k, hk, rfl, hr⟩ := hrel
      clear HR
      by_cases hlt : k < n
      · obtain ⟨b, o, p, rfl, hc, hp⟩ := HP1.out.at_ hlt
        have hp100 := HPs.out p (List.mem_of_getElem? hp.out)
        have HST := Lib.hid (any_step hp.out hr.out)
        clear hp hr
        have HO := sOccurs_any p s
        cases ho : occ p s
        · have HN := Lib.hid (HST.out.2 ho)
          rw [ho] at HO
          have HO := Lib.hid HO
          clear HST ho
          go_wp2_with fail
          refine (HO.out _ hp100 hs).mono ?_
          rintro e w' ⟨rfl, rfl⟩
          go_wp2_with fail
          go_round
          case rel => exact ⟨k + 1, hlt, by go_num, HN.out⟩
          case measure => simp [intOf]; omega
        · have HN := Lib.hid (HST.out.1 ho)
          rw [ho] at HO
          have HO := Lib.hid HO
          clear HST ho
          go_wp2_with fail
          refine (HO.out _ hp100 hs).mono ?_
          rintro e w' ⟨rfl, rfl⟩
          go_wp2_with fail
          go_ret
          exact ⟨ret_bool HN.out.symm, HB1.out⟩
      · have HE := Lib.hid (any_end (by have := HL.out; omega) hr.out)
        clear hr
        go_wp2_with fail
        go_ret
        exact ⟨ret_bool HE.out.symm, HB1.out⟩
end Go.Proofs.Ytmkodbkbgpjgoaa

namespace Go.Proofs.Ytmkodbkbgpjgoaa
open Go.RowKit
set_option linter.all false
set_option maxRecDepth 20000 in
set_option maxHeartbeats 1600000 in
theorem sIsRes_any (L S : Int) (ao : Option Addr) (n cap : Nat) (xs : List Ar) (w : World) (h : Arcs w ao n xs) :
    Calls Try.prog 43 #[.agg #[.int .i64 L, .int .i64 S, .slice ao n cap]] w fun e w' => e = .returned (.bool (isRes L S xs)) ∧ Below w.heap.size w w' := by
  have hm := h.2.1
  have HL := Lib.hid h.1
  have HB1 := Lib.hid (below1 w (.cells #[.int .i64 L, .int .i64 S, .slice ao n cap] 26))
  have H := Lib.hid (h.keep HB1.out)
  have HK := Lib.hid (Blk.new w 26 #[.int .i64 L, .int .i64 S, .slice ao n cap])
  clear h
  cases b1 : isLab L S xs
  · have HR : Hid (isRes L S xs = false) := by show _ = _; simp [isRes, b1]
    have B1 := Lib.hid b1
    clear b1
    go_enter Try.func43, Try.ntmps43
    go_wp2_with fail
    generalize w.alloc (.cells #[.int .i64 L, .int .i64 S, .slice ao n cap] 26) = w1 at HB1 H HK ⊢
    refine (sIsLabels_any _ _ _ _ _ xs _ H.out).mono ?_
    rw [B1.out]
    rintro e w2 ⟨rfl, hb2⟩
    go_wp2_with fail
    go_ret
    exact ⟨ret_bool HR.out.symm, step2 HB1.out hb2⟩
  · have HR : Hid (isRes L S xs = resF none xs) := by show _ = _; simp [isRes, b1]
    have B1 := Lib.hid b1
    clear b1
    go_enter Try.func43, Try.ntmps43
    go_wp2_with fail
    generalize w.alloc (.cells #[.int .i64 L, .int .i64 S, .slice ao n cap] 26) = w1 at HB1 H HK ⊢
    refine (sIsLabels_any _ _ _ _ _ xs _ H.out).mono ?_
    rw [B1.out]
    rintro e w2 ⟨rfl, hb2⟩
    have H2 := Lib.hid (H.out.keep hb2)
    have q := HK.out.keep hb2
    have q0 := q.c0
    have q1 := q.c1
    have q2 := q.c2
    clear q
    go_wp2_with fail
    clear q0 q1 q2
    refine (sRes_any _ _ _ _ _ xs _ H2.out).mono ?_
    rintro e w3 ⟨rfl, hb3⟩
    go_wp2_with fail
    go_ret
    exact ⟨ret_bool HR.out.symm, step2 HB1.out (step2 hb2 hb3)⟩
end Go.Proofs.Ytmkodbkbgpjgoaa

namespace Go.Proofs.Ytmkodbkbgpjgoaa
open Go.RowKit
set_option linter.all false
set_option maxRecDepth 20000 in
set_option maxHeartbeats 3200000 in
theorem sStateSums_any (L S : Int) (ao : Option Addr) (n cap : Nat) (xs : List Ar) (w : World) (h : Arcs w ao n xs) :
    Calls Try.prog 22 #[.agg #[.int .i64 L, .int .i64 S, .slice ao n cap]] w fun e w' => ∃ v, e = .returned v ∧ OInts w' w.heap.size v (stSums L S xs).length (stSums L S xs) ∧ Below w.heap.size w w' := by
  have hm := h.2.1
  have HL := Lib.hid h.1
  have HB1 := Lib.hid (below1 w (.cells #[.int .i64 L, .int .i64 S, .slice ao n cap] 26))
  have H := Lib.hid (h.keep HB1.out)
  have HK := Lib.hid (Blk.new w 26 #[.int .i64 L, .int .i64 S, .slice ao n cap])
  have HO := Lib.hid (OInts.empty (w.alloc (.cells #[.int .i64 L, .int .i64 S, .slice ao n cap] 26)) _ (Nat.le_refl _))
  have HB2 := Lib.hid (below1 (w.alloc (.cells #[.int .i64 L, .int .i64 S, .slice ao n cap] 26)) (.cells #[] 3))
  have HZ : Hid ((w.alloc (.cells #[.int .i64 L, .int .i64 S, .slice ao n cap] 26)).heap.size = w.heap.size + 1) := by show _ = _; simp
  clear h
  cases b1 : isLab L S xs
  · have HR : Hid (stSums L S xs = []) := by show _ = _; simp [stSums, b1]
    have B1 := Lib.hid b1
    clear b1
    go_enter Try.func22, Try.ntmps22
    go_wp2_with fail
    generalize w.alloc (.cells #[.int .i64 L, .int .i64 S, .slice ao n cap] 26) = w1 at HB1 H HK HO HB2 HZ ⊢
    go_loopw [3, 4] (fun v x wr => v = .slice (some ⟨w.heap.size + 1, 0, none⟩) 0 0 ∧ x = .int .i64 0 ∧ Below w1.heap.size w1 wr ∧ OInts wr w1.heap.size (.slice (some ⟨w.heap.size + 1, 0, none⟩) 0 0) 0 []) (fun _ _ _ => 0)
    case atStart => exact ⟨rfl, rfl, HB2.out, by simpa [HZ.out] using HO.out⟩
    case round =>
      obtain ⟨rfl, rfl, hbl, ho⟩ := hrel
      have HOw := Lib.hid ho
      have HB := Lib.hid hbl
      have q := HK.out.keep hbl
      have q0 := q.c0
      have q1 := q.c1
      have q2 := q.c2
      have H2 := Lib.hid (H.out.keep hbl)
      clear q hbl ho HO HB2
      by_cases hS : 0 < S
      · have d1 : decide (0 < S) = true := decide_eq_true hS
        go_wp2_with fail
        refine (sIsLabels_any _ _ _ _ _ xs _ H2.out).mono ?_
        rw [B1.out]
        rintro e w2 ⟨rfl, hb2⟩
        go_wp2_with fail
        go_ret
        rw [HR.out]
        exact ⟨_, rfl, (HOw.out.keep hb2).mono HB1.out.size, step2 HB1.out (HB.out.trans (hb2.mono HB.out.size))⟩
      · have d1 : decide (0 < S) = false := decide_eq_false hS
        go_wp2_with fail
        go_ret
        rw [HR.out]
        exact ⟨_, rfl, HOw.out.mono HB1.out.size, step2 HB1.out HB.out⟩
  · obtain ⟨_, hSr, _⟩ := isLab_get b1
    obtain ⟨m, rfl⟩ : ∃ m : Nat, S = m := ⟨S.toNat, by omega⟩
    have HR : Hid (stSums L m xs = sumsL m xs) := by show _ = _; simp [stSums, b1]
    have B1 := Lib.hid b1
    have hm12 : m ≤ 12 := by omega
    clear b1
    go_enter Try.func22, Try.ntmps22
    go_wp2_with fail
    generalize w.alloc (.cells #[.int .i64 L, .int .i64 m, .slice ao n cap] 26) = w1 at HB1 H HK HO HB2 HZ ⊢
    go_loopw [3, 4] (fun v x wr => ∃ p : Nat, p ≤ m ∧ x = .int .i64 p ∧ OInts wr w1.heap.size v p ((sumsL m xs).take p) ∧ Below w1.heap.size w1 wr) (fun _ x _ => m - (intOf x).toNat)
    case atStart => exact ⟨0, Nat.zero_le _, rfl, by simpa [HZ.out] using HO.out, HB2.out⟩
    case round =>
      obtain ⟨p, hp, rfl, ho, hbl⟩ := hrel
      have HOw := Lib.hid ho
      have HB := Lib.hid hbl
      have hsz := hbl.size
      have q := HK.out.keep hbl
      have q0 := q.c0
      have q1 := q.c1
      have q2 := q.c2
      have H2 := Lib.hid (H.out.keep hbl)
      obtain ⟨aa, ca, rfl, _⟩ := ho.form
      clear q hbl ho HO HB2
      by_cases hlt : p < m
      · have HG := Lib.hid (push_take (sumsL_get (xs := xs) hlt))
        go_wp2_with fail
        refine (sIsLabels_any _ _ _ _ _ xs _ H2.out).mono ?_
        rw [B1.out]
        rintro e w2 ⟨rfl, hb2⟩
        have HB3 := Lib.hid (HB.out.trans (hb2.mono HB.out.size))
        have HO3 := Lib.hid (HOw.out.keep hb2)
        have q := HK.out.keep HB3.out
        clear q0 q1 q2
        have q0 := q.c0
        have q1 := q.c1
        have q2 := q.c2
        have H3 := Lib.hid (H.out.keep HB3.out)
        clear q hb2
        go_wp2_with fail
        refine (sArcs_any _ _ _ _ _ xs p _ H3.out).mono ?_
        rintro e w3 ⟨v3, rfl, ho3, hb3⟩
        obtain ⟨a3, c3, rfl, _⟩ := ho3.form
        have HB4 := Lib.hid (HB3.out.trans (hb3.mono HB3.out.size))
        have HO4 := Lib.hid (HO3.out.keep hb3)
        have hsz4 := HB4.out.size
        have HIL := Lib.hid (ix_len p xs 0)
        clear q0 q1 q2 ho3 hb3
        go_wp2_with (refine wpList_push_one w3 ((ixFrom p 0 xs).length : Int) rfl (.tmp 16) (.tmp 21) rfl w1.heap.size _ _ _ rfl HO4.out (by omega) hsz4 _ rfl rfl ?_; intro v5 w5 ho5 hb5; have HO5 := Lib.hid ho5; have HB5 := Lib.hid hb5; obtain ⟨a5, c5, rfl, _⟩ := ho5.form; clear ho5 hb5)
        go_roundw
        case rel =>
          have h5 := HO5.out
          rw [HIL.out, HG.out] at h5
          exact ⟨p + 1, hlt, by go_num, h5, HB4.out.trans HB5.out⟩
        case measure => simp [intOf]; omega
      · have hpm : p = m := by omega
        subst hpm
        have HT : Hid ((sumsL p xs).take p = stSums L p xs) := by show _ = _; rw [HR.out, List.take_of_length_le (by rw [sumsL_len]; exact Nat.le_refl _)]
        have HN : Hid ((stSums L p xs).length = p) := by show _ = _; rw [HR.out, sumsL_len]
        go_wp2_with fail
        go_ret
        have h5 := HOw.out
        rw [HT.out] at h5
        exact ⟨_, rfl, by rw [HN.out]; exact h5.mono HB1.out.size, step2 HB1.out HB.out⟩
end Go.Proofs.Ytmkodbkbgpjgoaa

namespace Go.Proofs.Ytmkodbkbgpjgoaa
open Go.RowKit
set_option linter.all false
set_option maxRecDepth 20000 in
set_option maxHeartbeats 3200000 in
theorem sIsEncoder_any (L S : Int) (ao : Option Addr) (n cap : Nat) (xs : List Ar) (w : World) (h : Arcs w ao n xs) :
    Calls Try.prog 19 #[.agg #[.int .i64 L, .int .i64 S, .slice ao n cap]] w fun e w' => e = .returned (.bool (isEnc L S xs)) ∧ Below w.heap.size w w' := by
  have hm := h.2.1
  have HL := Lib.hid h.1
  have HB1 := Lib.hid (below1 w (.cells #[.int .i64 L, .int .i64 S, .slice ao n cap] 26))
  have H := Lib.hid (h.keep HB1.out)
  have HK := Lib.hid (Blk.new w 26 #[.int .i64 L, .int .i64 S, .slice ao n cap])
  clear h
  cases b1 : isRes L S xs
  · have HR : Hid (isEnc L S xs = false) := by show _ = _; simp [isEnc, b1]
    have B1 := Lib.hid b1
    clear b1
    go_enter Try.func19, Try.ntmps19
    go_wp2_with fail
    generalize w.alloc (.cells #[.int .i64 L, .int .i64 S, .slice ao n cap] 26) = w1 at HB1 H HK ⊢
    refine (sIsRes_any _ _ _ _ _ xs _ H.out).mono ?_
    rw [B1.out]
    rintro e w2 ⟨rfl, hb2⟩
    go_wp2_with fail
    go_ret
    exact ⟨ret_bool HR.out.symm, step2 HB1.out hb2⟩
  · have HLb : Hid (isLab L S xs = true) := by show _ = _; simp only [isRes, Bool.and_eq_true] at b1; exact b1.1
    obtain ⟨_, hSr, _⟩ := isLab_get HLb.out
    obtain ⟨m, rfl⟩ : ∃ m : Nat, S = m := ⟨S.toNat, by omega⟩
    have HR : Hid (isEnc L m xs = manyF xs 0 m) := by show _ = _; simp [isEnc, b1]
    have B1 := Lib.hid b1
    have hm12 : m ≤ 12 := by omega
    clear b1
    go_enter Try.func19, Try.ntmps19
    go_wp2_with fail
    generalize w.alloc (.cells #[.int .i64 L, .int .i64 m, .slice ao n cap] 26) = w1 at HB1 H HK ⊢
    refine (sIsRes_any _ _ _ _ _ xs _ H.out).mono ?_
    rw [B1.out]
    rintro e w2 ⟨rfl, hb2⟩
    have HB2 := Lib.hid hb2
    have q := HK.out.keep hb2
    have q0 := q.c0
    have q1 := q.c1
    have q2 := q.c2
    have H2 := Lib.hid (H.out.keep hb2)
    clear q hb2
    go_wp2_with fail
    clear q0 q1 q2
    refine (sStateSums_any _ _ _ _ _ xs _ H2.out).mono ?_
    rintro e w3 ⟨v3, rfl, ho3, hb3⟩
    obtain ⟨a3, c3, rfl, hi3⟩ := ho3.form
    have HSM : Hid (stSums L m xs = sumsL m xs) := by show _ = _; simp [stSums, HLb.out]
    rw [HSM.out, sumsL_len] at hi3
    have HI3 := Lib.hid hi3
    have HN : Hid ((stSums L m xs).length = m) := by show _ = _; rw [HSM.out, sumsL_len]
    rw [HN.out]
    have HB3 := Lib.hid hb3
    clear ho3 hb3 hi3
    go_wp2_with fail
    go_loop [4] (fun x => ∃ p : Nat, p ≤ m ∧ x = .int .i64 p ∧ Hid (manyF xs p (m - p) = manyF xs 0 m)) (fun x => m - (intOf x).toNat)
    case atStart => exact ⟨0, Nat.zero_le _, rfl, rfl⟩
    case round =>
      obtain ⟨p, hp, rfl, hr⟩ := hrel
      by_cases hlt : p < m
      · obtain ⟨b, o, x, rfl, hc, hx⟩ := HI3.out.at_ hlt
        have hxe := hx.out
        rw [sumsL_get hlt] at hxe
        injection hxe with hxe
        subst hxe
        have hr2 := hr.out
        rw [show m - p = (m - (p + 1)) + 1 by omega] at hr2
        have HST := Lib.hid (many_step hr2)
        clear hx hr hr2
        by_cases h2 : 2 ≤ (fromL (p : Nat) xs).length
        · have d : decide (((fromL (p : Nat) xs).length : Int) < 2) = false := decide_eq_false (by omega)
          have HNx := Lib.hid (HST.out.2 h2)
          generalize (fromL (p : Nat) xs).length = cn at hc d h2
          go_wp2_with fail
          go_round
          case rel => exact ⟨p + 1, hlt, by go_num, HNx.out⟩
          case measure => simp [intOf]; omega
        · have d : decide (((fromL (p : Nat) xs).length : Int) < 2) = true := decide_eq_true (by omega)
          have HRx : Hid (isEnc L m xs = false) := HR.out.trans (HST.out.1 h2)
          generalize (fromL (p : Nat) xs).length = cn at hc d h2
          go_wp2_with fail
          go_ret
          exact ⟨ret_bool HRx.out.symm, step2 HB1.out (step2 HB2.out HB3.out)⟩
      · have HRx : Hid (isEnc L m xs = true) := by show _ = _; rw [HR.out, ← hr.out, show m - p = 0 by omega]; rfl
        clear hr
        go_wp2_with fail
        go_ret
        exact ⟨ret_bool HRx.out.symm, step2 HB1.out (step2 HB2.out HB3.out)⟩
end Go.Proofs.Ytmkodbkbgpjgoaa

namespace Go.Proofs.Ytmkodbkbgpjgoaa
open Go.RowKit
set_option linter.all false
set_option maxRecDepth 20000 in
set_option maxHeartbeats 1600000 in
theorem iIsRes_any (L S : Int) (ao : Option Addr) (n cap : Nat) (xs : List Ar) (w : World) (h : Arcs w ao n xs) :
    Calls Try.prog 42 #[.agg #[.int .i64 L, .int .i64 S, .slice ao n cap]] w fun e w' => e = .returned (.bool (isRes L S xs)) ∧ Below w.heap.size w w' := by
  have hm := h.2.1
  have HL := Lib.hid h.1
  have HB1 := Lib.hid (below1 w (.cells #[.int .i64 L, .int .i64 S, .slice ao n cap] 26))
  have H := Lib.hid (h.keep HB1.out)
  have HK := Lib.hid (Blk.new w 26 #[.int .i64 L, .int .i64 S, .slice ao n cap])
  clear h
  cases b1 : isLab L S xs
  · have HR : Hid (isRes L S xs = false) := by show _ = _; simp [isRes, b1]
    have B1 := Lib.hid b1
    clear b1
    go_enter Try.func42, Try.ntmps42
    go_wp2_with fail
    generalize w.alloc (.cells #[.int .i64 L, .int .i64 S, .slice ao n cap] 26) = w1 at HB1 H HK ⊢
    refine (iIsLabels_any _ _ _ _ _ xs _ H.out).mono ?_
    rw [B1.out]
    rintro e w2 ⟨rfl, hb2⟩
    go_wp2_with fail
    go_ret
    exact ⟨ret_bool HR.out.symm, step2 HB1.out hb2⟩
  · have HR : Hid (isRes L S xs = resF none xs) := by show _ = _; simp [isRes, b1]
    have B1 := Lib.hid b1
    clear b1
    go_enter Try.func42, Try.ntmps42
    go_wp2_with fail
    generalize w.alloc (.cells #[.int .i64 L, .int .i64 S, .slice ao n cap] 26) = w1 at HB1 H HK ⊢
    refine (iIsLabels_any _ _ _ _ _ xs _ H.out).mono ?_
    rw [B1.out]
    rintro e w2 ⟨rfl, hb2⟩
    have H2 := Lib.hid (H.out.keep hb2)
    have q := HK.out.keep hb2
    have q0 := q.c0
    have q1 := q.c1
    have q2 := q.c2
    clear q
    go_wp2_with fail
    clear q0 q1 q2
    refine (iRes_any _ _ _ _ _ xs _ H2.out).mono ?_
    rintro e w3 ⟨rfl, hb3⟩
    go_wp2_with fail
    go_ret
    exact ⟨ret_bool HR.out.symm, step2 HB1.out (step2 hb2 hb3)⟩
end Go.Proofs.Ytmkodbkbgpjgoaa

namespace Go.Proofs.Ytmkodbkbgpjgoaa
open Go.RowKit
set_option linter.all false
set_option maxRecDepth 20000 in
set_option maxHeartbeats 3200000 in
theorem iIsEncoder_any (L S : Int) (ao : Option Addr) (n cap : Nat) (xs : List Ar) (w : World) (h : Arcs w ao n xs) :
    Calls Try.prog 18 #[.agg #[.int .i64 L, .int .i64 S, .slice ao n cap]] w fun e w' => e = .returned (.bool (isEnc L S xs)) ∧ Below w.heap.size w w' := by
  have hm := h.2.1
  have HL := Lib.hid h.1
  have HB1 := Lib.hid (below1 w (.cells #[.int .i64 L, .int .i64 S, .slice ao n cap] 26))
  have H := Lib.hid (h.keep HB1.out)
  have HK := Lib.hid (Blk.new w 26 #[.int .i64 L, .int .i64 S, .slice ao n cap])
  clear h
  cases b1 : isRes L S xs
  · have HR : Hid (isEnc L S xs = false) := by show _ = _; simp [isEnc, b1]
    have B1 := Lib.hid b1
    clear b1
    go_enter Try.func18, Try.ntmps18
    go_wp2_with fail
    generalize w.alloc (.cells #[.int .i64 L, .int .i64 S, .slice ao n cap] 26) = w1 at HB1 H HK ⊢
    refine (iIsRes_any _ _ _ _ _ xs _ H.out).mono ?_
    rw [B1.out]
    rintro e w2 ⟨rfl, hb2⟩
    go_wp2_with fail
    go_ret
    exact ⟨ret_bool HR.out.symm, step2 HB1.out hb2⟩
  · have HLb : Hid (isLab L S xs = true) := by show _ = _; simp only [isRes, Bool.and_eq_true] at b1; exact b1.1
    obtain ⟨_, hSr, _⟩ := isLab_get HLb.out
    obtain ⟨m, rfl⟩ : ∃ m : Nat, S = m := ⟨S.toNat, by omega⟩
    have HR : Hid (isEnc L m xs = manyF xs 0 m) := by show _ = _; simp [isEnc, b1]
    have B1 := Lib.hid b1
    have hm12 : m ≤ 12 := by omega
    clear b1
    go_enter Try.func18, Try.ntmps18
    go_wp2_with fail
    generalize w.alloc (.cells #[.int .i64 L, .int .i64 m, .slice ao n cap] 26) = w1 at HB1 H HK ⊢
    refine (iIsRes_any _ _ _ _ _ xs _ H.out).mono ?_
    rw [B1.out]
    rintro e w2 ⟨rfl, hb2⟩
    have HB2 := Lib.hid hb2
    have q := HK.out.keep hb2
    have q0 := q.c0
    have q1 := q.c1
    have q2 := q.c2
    have H2 := Lib.hid (H.out.keep hb2)
    clear q hb2
    go_wp2_with fail
    clear q0 q1 q2
    go_loopw [9] (fun x wr => ∃ p : Nat, p ≤ m ∧ x = .int .i64 p ∧ Hid (manyF xs p (m - p) = manyF xs 0 m) ∧ Below w1.heap.size w1 wr) (fun x _ => m - (intOf x).toNat)
    case atStart => exact ⟨0, Nat.zero_le _, rfl, rfl, HB2.out⟩
    case round =>
      obtain ⟨p, hp, rfl, hr, hbl⟩ := hrel
      have HB := Lib.hid hbl
      have q := HK.out.keep hbl
      have q0 := q.c0
      have q1 := q.c1
      have q2 := q.c2
      have H3 := Lib.hid (H.out.keep hbl)
      clear q hbl
      by_cases hlt : p < m
      · have hr2 := hr.out
        rw [show m - p = (m - (p + 1)) + 1 by omega] at hr2
        have HST := Lib.hid (many_step hr2)
        clear hr hr2
        go_wp2_with fail
        refine (iFrom_any _ _ _ _ _ xs p _ H3.out).mono ?_
        rintro e w3 ⟨v3, rfl, ho3, hb3⟩
        obtain ⟨a3, c3, rfl, _⟩ := ho3.form
        have HB3 := Lib.hid (HB.out.trans (hb3.mono HB.out.size))
        clear ho3 hb3
        by_cases h2 : 2 ≤ (fromL (p : Nat) xs).length
        · have d : decide (((fromL (p : Nat) xs).length : Int) < 2) = false := decide_eq_false (by omega)
          have HNx := Lib.hid (HST.out.2 h2)
          generalize (fromL (p : Nat) xs).length = cn at d h2 ⊢
          go_wp2_with fail
          go_roundw
          case rel => exact ⟨p + 1, hlt, by go_num, HNx.out, HB3.out⟩
          case measure => simp [intOf]; omega
        · have d : decide (((fromL (p : Nat) xs).length : Int) < 2) = true := decide_eq_true (by omega)
          have HRx : Hid (isEnc L m xs = false) := HR.out.trans (HST.out.1 h2)
          generalize (fromL (p : Nat) xs).length = cn at d h2 ⊢
          go_wp2_with fail
          go_ret
          exact ⟨ret_bool HRx.out.symm, step2 HB1.out HB3.out⟩
      · have HRx : Hid (isEnc L m xs = true) := by show _ = _; rw [HR.out, ← hr.out, show m - p = 0 by omega]; rfl
        clear hr
        go_wp2_with fail
        go_ret
        exact ⟨ret_bool HRx.out.symm, step2 HB1.out HB.out⟩
end Go.Proofs.Ytmkodbkbgpjgoaa

namespace Go.Proofs.Ytmkodbkbgpjgoaa
open Go.RowKit
set_option linter.all false
set_option maxRecDepth 40000 in
set_option maxHeartbeats 12800000 in
theorem iPruneLabels_any (L S : Int) (ao : Option Addr) (n cap : Nat) (xs : List Ar) (w : World) (h : Arcs w ao n xs) :
    Calls Try.prog 12 #[.agg #[.int .i64 L, .int .i64 S, .slice ao n cap]] w fun e w' => ∃ v, e = .returned (.tuple #[.agg #[.int .i64 (prL L S xs), .int .i64 (prS L S xs), v], .bool (isEnc L S xs)]) ∧ OArcs w' w.heap.size v (prX L S xs).length (prX L S xs) ∧ Below w.heap.size w w' := by
  have hm := h.2.1
  have HB1 := Lib.hid (below1 w (.cells #[.int .i64 L, .int .i64 S, .slice ao n cap] 26))
  have HB2 := Lib.hid (below1 (w.alloc (.cells #[.int .i64 L, .int .i64 S, .slice ao n cap] 26)) (.cells #[.int .i64 0, .int .i64 0, .slice none 0 0] 26))
  have HA1 := Lib.hid (h.keep HB1.out)
  have HK1b := Lib.hid (Blk.new w 26 #[.int .i64 L, .int .i64 S, .slice ao n cap])
  have H2 := Lib.hid (HA1.out.keep HB2.out)
  have HK2 := Lib.hid (HK1b.out.keep HB2.out)
  have HR2 := Lib.hid (Blk.new (w.alloc (.cells #[.int .i64 L, .int .i64 S, .slice ao n cap] 26)) 26 #[.int .i64 0, .int .i64 0, .slice none 0 0])
  have HZ : Hid ((w.alloc (.cells #[.int .i64 L, .int .i64 S, .slice ao n cap] 26)).heap.size = w.heap.size + 1) := by show _ = _; simp
  rw [HZ.out] at HR2
  have HBx : Hid (Below w.heap.size w ((w.alloc (.cells #[.int .i64 L, .int .i64 S, .slice ao n cap] 26)).alloc (.cells #[.int .i64 0, .int .i64 0, .slice none 0 0] 26))) := step2 HB1.out HB2.out
  clear h
  cases b1 : isEnc L S xs
  · have e1 : prL L S xs = 0 := by simp [prL, b1]
    have e2 : prS L S xs = 0 := by simp [prS, b1]
    have e3 : prX L S xs = [] := by simp [prX, b1]
    rw [e1, e2, e3]
    have B1 := Lib.hid b1
    clear b1 e1 e2 e3
    go_enter Try.func12, Try.ntmps12
    go_wp2_with fail
    generalize (w.alloc (.cells #[.int .i64 L, .int .i64 S, .slice ao n cap] 26)).alloc (.cells #[.int .i64 0, .int .i64 0, .slice none 0 0] 26) = w2 at HBx H2 HK2 HR2 HB2 ⊢
    clear HA1 HK1b HZ
    refine (iIsEncoder_any _ _ _ _ _ xs _ H2.out).mono ?_
    rw [B1.out]
    rintro e w3 ⟨rfl, hb3⟩
    have q := HR2.out.keep hb3
    have q0 := q.c0
    have q1 := q.c1
    have q2 := q.c2
    have f0 := q.frozen 0
    have f1 := q.frozen 1
    have f2 := q.frozen 2
    have HB3 := Lib.hid (step2 HBx.out hb3)
    clear q hb3
    go_wp2_with fail
    refine bodyPost_ret (v := .tuple #[.agg #[.int .i64 0, .int .i64 0, .slice none 0 0], .bool false]) (by simp [results, Try.results12, go_sem, *]) rfl ?_
    exact ⟨_, rfl, OArcs.none_ _ _, below_lab HB3.out (Nat.le_succ _) _ _ _⟩
  · obtain ⟨hlab, _, hmany⟩ := isEnc_get b1
    obtain ⟨_, hSr, _⟩ := isLab_get hlab
    obtain ⟨m, rfl⟩ : ∃ m : Nat, S = m := ⟨S.toNat, by omega⟩
    have e1 : prL L m xs = L := by simp [prL, b1]
    have e2 : prS L m xs = m := by simp [prS, b1]
    have e3 : prX L m xs = prn xs m := by simp [prX, b1]
    rw [e1, e2, e3]
    have B1 := Lib.hid b1
    have HM := Lib.hid hmany
    have hm12 : m ≤ 12 := by omega
    clear b1 e1 e2 e3 hlab hmany
    go_enter Try.func12, Try.ntmps12
    go_wp2_with fail
    generalize (w.alloc (.cells #[.int .i64 L, .int .i64 m, .slice ao n cap] 26)).alloc (.cells #[.int .i64 0, .int .i64 0, .slice none 0 0] 26) = w2 at HBx H2 HK2 HR2 HB2 ⊢
    generalize w.alloc (.cells #[.int .i64 L, .int .i64 m, .slice ao n cap] 26) = w1 at HB1 HB2 HZ HA1 HK1b
    refine (iIsEncoder_any _ _ _ _ _ xs _ H2.out).mono ?_
    rw [B1.out]
    rintro e w3 ⟨rfl, hb3⟩
    have HBb := Lib.hid (step2 HB2.out hb3)
    have HK3 := Lib.hid (HK2.out.keep hb3)
    have HR3 := Lib.hid (HR2.out.keep hb3)
    have H3 := Lib.hid (H2.out.keep hb3)
    have q0 := HK3.out.c0
    have q1 := HK3.out.c1
    have q2 := HK3.out.c2
    have HB4 := Lib.hid (below1 w3 (.cells #[.int .i64 L, .int .i64 m, .slice none 0 0] 26))
    have H4 := Lib.hid (H3.out.keep HB4.out)
    have HK4 := Lib.hid (HK3.out.keep HB4.out)
    have HBc := Lib.hid (step2 HBb.out HB4.out)
    have hsz3 : w.heap.size + 1 < w3.heap.size := HR3.out.lt
    have HD := Lib.hid (show Bld (w3.alloc (.cells #[.int .i64 L, .int .i64 m, .slice none 0 0] 26)) w1.heap.size (w.heap.size + 1) w3.heap.size L m (.slice none 0 0) [] from ⟨Blk.new w3 _ _, HR3.out.keep HB4.out, OArcs.none_ _ _, by simp [Value.ownBlock], by simp [Value.ownBlock], by omega, HBb.out.size, Nat.le_of_eq HZ.out⟩)
    have r0 := HK4.out.c1
    clear hb3
    go_wp2_with fail
    clear q0 q1 q2 r0
    obtain ⟨b, hbn⟩ : ∃ b, w3.heap.size = b := ⟨_, rfl⟩
    rw [hbn] at HD
    simp only [hbn]
    generalize w3.alloc (.cells #[.int .i64 L, .int .i64 m, .slice none 0 0] 26) = w4 at HB4 H4 HK4 HBc HD ⊢
    clear hbn hsz3
    go_loopw [17] (fun x wr => ∃ (p : Nat) (v : Value), p ≤ m ∧ x = .int .i64 p ∧ Bld wr w1.heap.size (w.heap.size + 1) b L m v (prn xs p) ∧ Below w1.heap.size w1 wr) (fun x _ => m - (intOf x).toNat)
    case atStart => exact ⟨0, _, Nat.zero_le _, rfl, HD.out, HBc.out⟩
    case round =>
      obtain ⟨p, v, hp, rfl, hd, hbl⟩ := hrel
      obtain ⟨aa, ca, rfl, _⟩ := hd.o.form
      have HD1 := Lib.hid hd
      have HK := Lib.hid (HK1b.out.keep hbl)
      have HAr := Lib.hid (HA1.out.keep hbl)
      have HB := Lib.hid hbl
      have hsz := hbl.size
      have hl := prn_len xs p
      clear hd hbl HD HBc HK4 H4
      by_cases hlt : p < m
      · have h2 := HM.out p (by omega)
        obtain ⟨x1, x2, hx1, hx2, ht2⟩ := two_of h2
        have HT : Hid (prn xs (p + 1) = prn xs p ++ [x1, x2]) := by show _ = _; rw [prn, ht2]
        have HArd : Hid (Arcs wr.drew ao n xs) := HAr.out.drewN 1
        have HD1d : Hid (Bld wr.drew w1.heap.size (w.heap.size + 1) b L m (.slice aa (prn xs p).length ca) (prn xs p)) := HD1.out.keep (below_drewN (Below.refl _ wr) 1)
        have HBd : Hid (Below w1.heap.size w1 wr.drew) := below_drewN HB.out 1
        have q0 : wr.drew.cell? ⟨w.heap.size, 0, none⟩ = _ := HK.out.c0
        have q1 : wr.drew.cell? ⟨w.heap.size, 1, none⟩ = _ := HK.out.c1
        have q2 : wr.drew.cell? ⟨w.heap.size, 2, none⟩ = _ := HK.out.c2
        have p2 : wr.drew.cell? ⟨b, 2, none⟩ = _ := HD1.out.kb.c2
        clear hx1 hx2
        go_wp2_with fail
        go_region_law (first
          | (refine step_of_wp rfl (wp_app_arcs w5 (.tmp 21) (.tmp 25) rfl w1.heap.size _ _ _ rfl HD5.out.o _ _ _ _ rfl HSl.out (by omega) (by omega) ?_); intro v7 w7 ho hg hn; have f := (HD5.out.grownB hg).frozen 2; have r := (HD5.out.grownB hg).c2; have E := Lib.hid (HD5.out.pushed ho rfl hg hn); have F := Lib.hid (HD5.out.belowP HB5.out hg (by omega) v7); obtain ⟨a7, c7, rfl, _⟩ := ho.form; clear ho hg hn)
          | (go_simp; go_at_call 33; refine (iFrom_any _ _ _ _ _ xs p _ HArd.out).mono ?_; rintro e w5 ⟨v5, rfl, ho5, hb5⟩; obtain ⟨a5, c5, rfl, hi5⟩ := ho5.form; have hcap := ho5.capLe rfl; obtain ⟨g5, rfl⟩ : ∃ g, a5 = some ⟨g, 0, none⟩ := (by rcases ho5.two with h | h; exact absurd h.2 (by omega); exact h); have HD5 := Lib.hid (HD1d.out.keep hb5); have HSl := Lib.hid (hi5.take h2); rw [ht2] at HSl; have HB5 := Lib.hid (HBd.out.trans (hb5.mono HBd.out.size)); have hsz5 := HB5.out.size; have p5 := HD5.out.kb.c2; have hc2 : 2 ≤ c5 := (by omega); have hc3 : (2 : Int) ≤ (c5 : Int) := (by omega); clear ho5 hb5 hi5))
        all_goals go_wp2_with fail
        all_goals go_roundw
        all_goals first
          | exact ⟨p + 1, _, hlt, by go_num, by rw [HT.out]; exact E.out, F.out⟩
          | (simp [intOf]; omega)
      · have hpm : p = m := by omega
        have HX : Hid (Bld wr w1.heap.size (w.heap.size + 1) b L m (.slice aa (prn xs p).length ca) (prn xs m)) := by have h := HD1.out; rw [hpm] at h ⊢; exact h
        rw [hpm] at HX
        clear HD1
        have k1 := HK.out.c1
        have a0 := HX.out.kb.c0
        have a1 := HX.out.kb.c1
        have a2 := HX.out.kb.c2
        have b0 := HX.out.kr.c0
        have b1 := HX.out.kr.c1
        have b2 := HX.out.kr.c2
        have f0 := HX.out.kr.frozen 0
        have f1 := HX.out.kr.frozen 1
        have f2 := HX.out.kr.frozen 2
        go_wp2_with fail
        refine bodyPost_ret (v := .tuple #[.agg #[.int .i64 L, .int .i64 m, .slice aa (prn xs m).length ca], .bool true]) (by simp [results, Try.results12, go_sem, *]) rfl ?_
        exact ⟨_, rfl, (((HX.out.o.setFar HX.out.nr _).setFar HX.out.nr _).setFar HX.out.nr _).mono HB1.out.size, below_lab (step2 HB1.out HB.out) (Nat.le_succ _) _ _ _⟩
end Go.Proofs.Ytmkodbkbgpjgoaa

namespace Go.Proofs.Ytmkodbkbgpjgoaa
open Go.RowKit
set_option linter.all false
set_option maxRecDepth 40000 in
set_option maxHeartbeats 12800000 in
theorem sPruneLabels_any (L S : Int) (ao : Option Addr) (n cap : Nat) (xs : List Ar) (w : World) (h : Arcs w ao n xs) :
    Calls Try.prog 13 #[.agg #[.int .i64 L, .int .i64 S, .slice ao n cap]] w fun e w' => ∃ v, e = .returned (.tuple #[.agg #[.int .i64 (prL L S xs), .int .i64 (prS L S xs), v], .bool (isEnc L S xs)]) ∧ OArcs w' w.heap.size v (prX L S xs).length (prX L S xs) ∧ Below w.heap.size w w' := by
  have hm := h.2.1
  have HB1 := Lib.hid (below1 w (.cells #[.int .i64 L, .int .i64 S, .slice ao n cap] 26))
  have HB2 := Lib.hid (below1 (w.alloc (.cells #[.int .i64 L, .int .i64 S, .slice ao n cap] 26)) (.cells #[.int .i64 0, .int .i64 0, .slice none 0 0] 26))
  have HA1 := Lib.hid (h.keep HB1.out)
  have HK1b := Lib.hid (Blk.new w 26 #[.int .i64 L, .int .i64 S, .slice ao n cap])
  have H2 := Lib.hid (HA1.out.keep HB2.out)
  have HK2 := Lib.hid (HK1b.out.keep HB2.out)
  have HR2 := Lib.hid (Blk.new (w.alloc (.cells #[.int .i64 L, .int .i64 S, .slice ao n cap] 26)) 26 #[.int .i64 0, .int .i64 0, .slice none 0 0])
  have HZ : Hid ((w.alloc (.cells #[.int .i64 L, .int .i64 S, .slice ao n cap] 26)).heap.size = w.heap.size + 1) := by show _ = _; simp
  rw [HZ.out] at HR2
  have HBx : Hid (Below w.heap.size w ((w.alloc (.cells #[.int .i64 L, .int .i64 S, .slice ao n cap] 26)).alloc (.cells #[.int .i64 0, .int .i64 0, .slice none 0 0] 26))) := step2 HB1.out HB2.out
  clear h
  cases b1 : isEnc L S xs
  · have e1 : prL L S xs = 0 := by simp [prL, b1]
    have e2 : prS L S xs = 0 := by simp [prS, b1]
    have e3 : prX L S xs = [] := by simp [prX, b1]
    rw [e1, e2, e3]
    have B1 := Lib.hid b1
    clear b1 e1 e2 e3
    go_enter Try.func13, Try.ntmps13
    go_wp2_with fail
    generalize (w.alloc (.cells #[.int .i64 L, .int .i64 S, .slice ao n cap] 26)).alloc (.cells #[.int .i64 0, .int .i64 0, .slice none 0 0] 26) = w2 at HBx H2 HK2 HR2 HB2 ⊢
    clear HA1 HK1b HZ
    refine (sIsEncoder_any _ _ _ _ _ xs _ H2.out).mono ?_
    rw [B1.out]
    rintro e w3 ⟨rfl, hb3⟩
    have q := HR2.out.keep hb3
    have q0 := q.c0
    have q1 := q.c1
    have q2 := q.c2
    have f0 := q.frozen 0
    have f1 := q.frozen 1
    have f2 := q.frozen 2
    have HB3 := Lib.hid (step2 HBx.out hb3)
    clear q hb3
    go_wp2_with fail
    refine bodyPost_ret (v := .tuple #[.agg #[.int .i64 0, .int .i64 0, .slice none 0 0], .bool false]) (by simp [results, Try.results13, go_sem, *]) rfl ?_
    exact ⟨_, rfl, OArcs.none_ _ _, below_lab HB3.out (Nat.le_succ _) _ _ _⟩
  · obtain ⟨hlab, _, hmany⟩ := isEnc_get b1
    obtain ⟨_, hSr, _⟩ := isLab_get hlab
    obtain ⟨m, rfl⟩ : ∃ m : Nat, S = m := ⟨S.toNat, by omega⟩
    have e1 : prL L m xs = L := by simp [prL, b1]
    have e2 : prS L m xs = m := by simp [prS, b1]
    have e3 : prX L m xs = prn xs m := by simp [prX, b1]
    rw [e1, e2, e3]
    have B1 := Lib.hid b1
    have HM := Lib.hid hmany
    have hm12 : m ≤ 12 := by omega
    clear b1 e1 e2 e3 hlab hmany
    go_enter Try.func13, Try.ntmps13
    go_wp2_with fail
    generalize (w.alloc (.cells #[.int .i64 L, .int .i64 m, .slice ao n cap] 26)).alloc (.cells #[.int .i64 0, .int .i64 0, .slice none 0 0] 26) = w2 at HBx H2 HK2 HR2 HB2 ⊢
    generalize w.alloc (.cells #[.int .i64 L, .int .i64 m, .slice ao n cap] 26) = w1 at HB1 HB2 HZ HA1 HK1b
    refine (sIsEncoder_any _ _ _ _ _ xs _ H2.out).mono ?_
    rw [B1.out]
    rintro e w3 ⟨rfl, hb3⟩
    have HBb := Lib.hid (step2 HB2.out hb3)
    have HK3 := Lib.hid (HK2.out.keep hb3)
    have HR3 := Lib.hid (HR2.out.keep hb3)
    have H3 := Lib.hid (H2.out.keep hb3)
    have q0 := HK3.out.c0
    have q1 := HK3.out.c1
    have q2 := HK3.out.c2
    have HB4 := Lib.hid (below1 w3 (.cells #[.int .i64 L, .int .i64 m, .slice none 0 0] 26))
    have H4 := Lib.hid (H3.out.keep HB4.out)
    have HK4 := Lib.hid (HK3.out.keep HB4.out)
    have HBc := Lib.hid (step2 HBb.out HB4.out)
    have hsz3 : w.heap.size + 1 < w3.heap.size := HR3.out.lt
    have HD := Lib.hid (show Bld (w3.alloc (.cells #[.int .i64 L, .int .i64 m, .slice none 0 0] 26)) w1.heap.size (w.heap.size + 1) w3.heap.size L m (.slice none 0 0) [] from ⟨Blk.new w3 _ _, HR3.out.keep HB4.out, OArcs.none_ _ _, by simp [Value.ownBlock], by simp [Value.ownBlock], by omega, HBb.out.size, Nat.le_of_eq HZ.out⟩)
    have r0 := HK4.out.c1
    clear hb3
    go_wp2_with fail
    clear q0 q1 q2 r0
    obtain ⟨b, hbn⟩ : ∃ b, w3.heap.size = b := ⟨_, rfl⟩
    rw [hbn] at HD
    simp only [hbn]
    generalize w3.alloc (.cells #[.int .i64 L, .int .i64 m, .slice none 0 0] 26) = w4 at HB4 H4 HK4 HBc HD ⊢
    clear hbn hsz3
    go_loopw [5] (fun x wr => ∃ (p : Nat) (v : Value), p ≤ m ∧ x = .int .i64 p ∧ Bld wr w1.heap.size (w.heap.size + 1) b L m v (prn xs p) ∧ Below w1.heap.size w1 wr) (fun x _ => m - (intOf x).toNat)
    case atStart => exact ⟨0, _, Nat.zero_le _, rfl, HD.out, HBc.out⟩
    case round =>
      obtain ⟨p, v, hp, rfl, hd, hbl⟩ := hrel
      obtain ⟨aa, ca, rfl, _⟩ := hd.o.form
      have HD1 := Lib.hid hd
      have HK := Lib.hid (HK1b.out.keep hbl)
      have HAr := Lib.hid (HA1.out.keep hbl)
      have HB := Lib.hid hbl
      have hsz := hbl.size
      have hl := prn_len xs p
      clear hd hbl HD HBc HK4 H4
      by_cases hlt : p < m
      · have h2 := HM.out p (by omega)
        obtain ⟨x1, x2, hx1, hx2, ht2⟩ := two_of h2
        have HT : Hid (prn xs (p + 1) = prn xs p ++ [x1, x2]) := by show _ = _; rw [prn, ht2]
        obtain ⟨t1, g1, k1⟩ := ix_get p xs 0 0 x1 hx1
        obtain ⟨t2, g2, k2⟩ := ix_get p xs 0 1 x2 hx2
        rw [Nat.zero_add] at g1 g2
        have q0 := HK.out.c0
        have q1 := HK.out.c1
        have q2 := HK.out.c2
        have HG1 := Lib.hid g1
        have HG2 := Lib.hid g2
        have HK1 := Lib.hid k1
        have HK2' := Lib.hid k2
        clear g1 g2 k1 k2 hx1 hx2 ht2
        go_wp2_with fail
        clear q0 q1 q2
        refine (sArcs_any _ _ _ _ _ xs p _ HAr.out).mono ?_
        rintro e w5 ⟨v5, rfl, ho5, hb5⟩
        have hil := ix_len p xs 0
        obtain ⟨g5, c5, rfl⟩ := ho5.head (by omega)
        have hg5 := ho5.lt
        have i1 := ho5.cell 0 (by omega)
        have i2 := ho5.cell 1 (by omega)
        have ei1 : (ixFrom p 0 xs).getD 0 0 = (t1 : Int) := by simp [List.getD, HG1.out]
        have ei2 : (ixFrom p 0 xs).getD 1 0 = (t2 : Int) := by simp [List.getD, HG2.out]
        rw [ei1] at i1
        rw [ei2] at i2
        rw [hil]
        have HA5 := Lib.hid (HAr.out.keep hb5)
        have HD5 := Lib.hid (HD1.out.keep hb5)
        have HK5 := Lib.hid (HK.out.keep hb5)
        have HB5 := Lib.hid (HB.out.trans (hb5.mono hsz))
        have hsz5 : w1.heap.size ≤ w5.heap.size := Nat.le_trans hsz hb5.size
        obtain ⟨ba0, oa0, ea0, cb, _, _⟩ := HA1.out.get HK1.out
        have hba0 := World.block_lt_of_cell? _ _ cb
        obtain ⟨ba, oa, rfl, c1, c2, c3⟩ := HA5.out.get HK1.out
        simp only [Option.some.injEq, Addr.mk.injEq, and_true] at ea0
        obtain ⟨rfl, rfl⟩ := ea0
        have hba : ba < w1.heap.size := hba0
        obtain ⟨ba2, oa2, ea, d1, d2, d3⟩ := HA5.out.get HK2'.out
        simp only [Option.some.injEq, Addr.mk.injEq, and_true] at ea
        obtain ⟨rfl, rfl⟩ := ea
        obtain ⟨y1, y2, y3⟩ := x1
        obtain ⟨z1, z2, z3⟩ := x2
        have hn1 : t1 < n := by rw [← HA5.out.1]; exact (List.getElem?_eq_some_iff.1 HK1.out).1
        have hn2 : t2 < n := by rw [← HA5.out.1]; exact (List.getElem?_eq_some_iff.1 HK2'.out).1
        have q2 := HK5.out.c2
        have p2 := HD5.out.kb.c2
        have HS5 : Hid (w5.drew.cell? ⟨b, 2, none⟩ = some (.slice aa (prn xs p).length ca) ∧ w5.drew.cell? ⟨w.heap.size, 2, none⟩ = some (.slice (some ⟨ba, oa, none⟩) n cap) ∧ w5.drew.cell? ⟨g5, 0, none⟩ = some (.int .i64 (t1 : Int)) ∧ w5.drew.cell? ⟨g5, 1, none⟩ = some (.int .i64 (t2 : Int)) ∧ w5.drew.cell? ⟨ba, oa + t1 * 3, none⟩ = some (.int .i64 y1) ∧ w5.drew.cell? ⟨ba, oa + t1 * 3 + 1, none⟩ = some (.int .i64 y2) ∧ w5.drew.cell? ⟨ba, oa + t1 * 3 + 2, none⟩ = some (.int .i64 y3) ∧ w5.drew.cell? ⟨ba, oa + t2 * 3, none⟩ = some (.int .i64 z1) ∧ w5.drew.cell? ⟨ba, oa + t2 * 3 + 1, none⟩ = some (.int .i64 z2) ∧ w5.drew.cell? ⟨ba, oa + t2 * 3 + 2, none⟩ = some (.int .i64 z3)) := ⟨p2, q2, i1, i2, c1, c2, c3, d1, d2, d3⟩
        have HBA := Lib.hid (below1 w5 (.cells #[.int .i64 y1, .int .i64 y2, .int .i64 y3, .int .i64 z1, .int .i64 z2, .int .i64 z3] 55))
        have HS6 : Hid (((w5.alloc (.cells #[.int .i64 y1, .int .i64 y2, .int .i64 y3, .int .i64 z1, .int .i64 z2, .int .i64 z3] 55)).drew).cell? ⟨b, 2, none⟩ = some (.slice aa (prn xs p).length ca) ∧ ((w5.alloc (.cells #[.int .i64 y1, .int .i64 y2, .int .i64 y3, .int .i64 z1, .int .i64 z2, .int .i64 z3] 55)).drew).cell? ⟨w.heap.size, 2, none⟩ = some (.slice (some ⟨ba, oa, none⟩) n cap) ∧ ((w5.alloc (.cells #[.int .i64 y1, .int .i64 y2, .int .i64 y3, .int .i64 z1, .int .i64 z2, .int .i64 z3] 55)).drew).cell? ⟨g5, 0, none⟩ = some (.int .i64 (t1 : Int)) ∧ ((w5.alloc (.cells #[.int .i64 y1, .int .i64 y2, .int .i64 y3, .int .i64 z1, .int .i64 z2, .int .i64 z3] 55)).drew).cell? ⟨g5, 1, none⟩ = some (.int .i64 (t2 : Int)) ∧ ((w5.alloc (.cells #[.int .i64 y1, .int .i64 y2, .int .i64 y3, .int .i64 z1, .int .i64 z2, .int .i64 z3] 55)).drew).cell? ⟨ba, oa + t1 * 3, none⟩ = some (.int .i64 y1) ∧ ((w5.alloc (.cells #[.int .i64 y1, .int .i64 y2, .int .i64 y3, .int .i64 z1, .int .i64 z2, .int .i64 z3] 55)).drew).cell? ⟨ba, oa + t1 * 3 + 1, none⟩ = some (.int .i64 y2) ∧ ((w5.alloc (.cells #[.int .i64 y1, .int .i64 y2, .int .i64 y3, .int .i64 z1, .int .i64 z2, .int .i64 z3] 55)).drew).cell? ⟨ba, oa + t1 * 3 + 2, none⟩ = some (.int .i64 y3) ∧ ((w5.alloc (.cells #[.int .i64 y1, .int .i64 y2, .int .i64 y3, .int .i64 z1, .int .i64 z2, .int .i64 z3] 55)).drew).cell? ⟨ba, oa + t2 * 3, none⟩ = some (.int .i64 z1) ∧ ((w5.alloc (.cells #[.int .i64 y1, .int .i64 y2, .int .i64 y3, .int .i64 z1, .int .i64 z2, .int .i64 z3] 55)).drew).cell? ⟨ba, oa + t2 * 3 + 1, none⟩ = some (.int .i64 z2) ∧ ((w5.alloc (.cells #[.int .i64 y1, .int .i64 y2, .int .i64 y3, .int .i64 z1, .int .i64 z2, .int .i64 z3] 55)).drew).cell? ⟨ba, oa + t2 * 3 + 2, none⟩ = some (.int .i64 z3)) := by
          have hl := fun {a : Addr} {v : Value} (h : w5.cell? a = some v) => (HBA.out.cell (World.block_lt_of_cell? _ _ h)).trans h
          exact ⟨hl p2, hl q2, hl i1, hl i2, hl c1, hl c2, hl c3, hl d1, hl d2, hl d3⟩
        have HD6 := Lib.hid (show Bld ((w5.alloc (.cells #[.int .i64 y1, .int .i64 y2, .int .i64 y3, .int .i64 z1, .int .i64 z2, .int .i64 z3] 55)).drew) _ _ _ _ _ _ _ from (HD5.out.keep HBA.out).keep (below_drewN (Below.refl _ _) 1))
        have HB6 : Hid (Below w1.heap.size w1 ((w5.alloc (.cells #[.int .i64 y1, .int .i64 y2, .int .i64 y3, .int .i64 z1, .int .i64 z2, .int .i64 z3] 55)).drew)) := below_drewN (HB5.out.trans (HBA.out.mono hsz5)) 1
        have HS2 : Hid (Arcs ((w5.alloc (.cells #[.int .i64 y1, .int .i64 y2, .int .i64 y3, .int .i64 z1, .int .i64 z2, .int .i64 z3] 55)).drew) (some ⟨w5.heap.size, 0, none⟩) 2 [(y1, y2, y3), (z1, z2, z3)]) := (arcs_two w5 (y1, y2, y3) (z1, z2, z3)).drewN 1
        have hsz6 := HB6.out.size
        have HNE : Hid (∀ c, c < w1.heap.size ∨ c = g5 → some c ≠ (Value.slice aa (prn xs p).length ca).ownBlock) := by
          show ∀ c, _
          intro c hc e
          have := HD1.out.o.ownlt _ e.symm
          omega
        have hwz : w.heap.size < w1.heap.size := by have := HZ.out; omega
        have HKQ := Lib.hid hwz
        have HBQ := Lib.hid hba
        have HG5 := Lib.hid hg5
        clear ho5 hb5 p2 q2 i1 i2 c1 c2 c3 d1 d2 d3 cb hba0 hba hwz hg5 ei1 ei2
        have hf0 : (0 : Int) < ((fromL (p : Nat) xs).length : Int) := by omega
        have hf1 : (1 : Int) < ((fromL (p : Nat) xs).length : Int) := by omega
        have hf2 : 1 < (fromL (p : Nat) xs).length := by omega
        have hf3 : 0 < (fromL (p : Nat) xs).length := by omega
        generalize (fromL (p : Nat) xs).length = fl at h2 hf0 hf1 hf2 hf3 ⊢
        clear hil
        go_wp2_with fail
        clear HAr HA5 HK HK5 HB5 HD5
        refine region_T (S := fun W => W.cell? ⟨b, 2, none⟩ = some (.slice aa (prn xs p).length ca) ∧ W.cell? ⟨w.heap.size, 2, none⟩ = some (.slice (some ⟨ba, oa, none⟩) n cap) ∧ W.cell? ⟨g5, 0, none⟩ = some (.int .i64 (t1 : Int)) ∧ W.cell? ⟨g5, 1, none⟩ = some (.int .i64 (t2 : Int)) ∧ W.cell? ⟨ba, oa + t1 * 3, none⟩ = some (.int .i64 y1) ∧ W.cell? ⟨ba, oa + t1 * 3 + 1, none⟩ = some (.int .i64 y2) ∧ W.cell? ⟨ba, oa + t1 * 3 + 2, none⟩ = some (.int .i64 y3) ∧ W.cell? ⟨ba, oa + t2 * 3, none⟩ = some (.int .i64 z1) ∧ W.cell? ⟨ba, oa + t2 * 3 + 1, none⟩ = some (.int .i64 z2) ∧ W.cell? ⟨ba, oa + t2 * 3 + 2, none⟩ = some (.int .i64 z3)) (t := 19) (by kernel_rfl) ?_
        have HSn := HS5.out
        refine anyT_take (i := 0) (v := ?v0) rfl (by kernel_rfl) (by kernel_rfl) (by kernel_rfl) (by kernel_rfl) (fun _ _ _ h => h) (Or.inl ⟨by rfl, ?hy0⟩) HS5.out ?rest0
        case hy0 =>
          intro W hSw
          (try dsimp only at hSw)
          obtain ⟨s0, s1, s2, s3, s4, s5, s6, s7, s8, s9⟩ := hSw
          go_simp
          try with_reducible rfl
        try simp only [Act.put, List.setIfInBounds_toArray, List.set_cons_zero, List.set_cons_succ]
        refine anyT_take (i := 1) (v := ?v1) rfl (by kernel_rfl) (by kernel_rfl) (by kernel_rfl) (by kernel_rfl) (fun _ _ _ h => h) (Or.inl ⟨by rfl, ?hy1⟩) HS5.out ?rest1
        case hy1 =>
          intro W hSw
          (try dsimp only at hSw)
          obtain ⟨s0, s1, s2, s3, s4, s5, s6, s7, s8, s9⟩ := hSw
          go_simp
          try with_reducible rfl
        try simp only [Act.put, List.setIfInBounds_toArray, List.set_cons_zero, List.set_cons_succ]
        refine anyT_take (i := 2) (v := ?v2) rfl (by kernel_rfl) (by kernel_rfl) (by kernel_rfl) (by kernel_rfl) (fun _ _ _ h => h) (Or.inl ⟨by rfl, ?hy2⟩) HS5.out ?rest2
        case hy2 =>
          intro W hSw
          (try dsimp only at hSw)
          obtain ⟨s0, s1, s2, s3, s4, s5, s6, s7, s8, s9⟩ := hSw
          go_simp
          try with_reducible rfl
        try simp only [Act.put, List.setIfInBounds_toArray, List.set_cons_zero, List.set_cons_succ]
        refine anyT_take (i := 3) (v := ?v3) rfl (by kernel_rfl) (by kernel_rfl) (by kernel_rfl) (by kernel_rfl) (fun _ _ _ h => h) (Or.inl ⟨by rfl, ?hy3⟩) HS5.out ?rest3
        case hy3 =>
          intro W hSw
          (try dsimp only at hSw)
          obtain ⟨s0, s1, s2, s3, s4, s5, s6, s7, s8, s9⟩ := hSw
          go_simp
          try with_reducible rfl
        try simp only [Act.put, List.setIfInBounds_toArray, List.set_cons_zero, List.set_cons_succ]
        refine anyT_take (i := 4) (v := ?v4) rfl (by kernel_rfl) (by kernel_rfl) (by kernel_rfl) (by kernel_rfl) (fun _ _ _ h => h) (Or.inl ⟨by rfl, ?hy4⟩) HS5.out ?rest4
        case hy4 =>
          intro W hSw
          (try dsimp only at hSw)
          obtain ⟨s0, s1, s2, s3, s4, s5, s6, s7, s8, s9⟩ := hSw
          go_simp
          try with_reducible rfl
        try simp only [Act.put, List.setIfInBounds_toArray, List.set_cons_zero, List.set_cons_succ]
        refine anyT_take (i := 5) (v := ?v5) rfl (by kernel_rfl) (by kernel_rfl) (by kernel_rfl) (by kernel_rfl) (fun _ _ _ h => h) (Or.inl ⟨by rfl, ?hy5⟩) HS5.out ?rest5
        case hy5 =>
          intro W hSw
          (try dsimp only at hSw)
          obtain ⟨s0, s1, s2, s3, s4, s5, s6, s7, s8, s9⟩ := hSw
          go_simp
          try with_reducible rfl
        try simp only [Act.put, List.setIfInBounds_toArray, List.set_cons_zero, List.set_cons_succ]
        refine anyT_take (i := 6) (v := ?v6) rfl (by kernel_rfl) (by kernel_rfl) (by kernel_rfl) (by kernel_rfl) (fun _ _ _ h => h) (Or.inl ⟨by rfl, ?hy6⟩) HS5.out ?rest6
        case hy6 =>
          intro W hSw
          (try dsimp only at hSw)
          obtain ⟨s0, s1, s2, s3, s4, s5, s6, s7, s8, s9⟩ := hSw
          go_simp
          try with_reducible rfl
        try simp only [Act.put, List.setIfInBounds_toArray, List.set_cons_zero, List.set_cons_succ]
        refine anyT_take (i := 7) (v := ?v7) rfl (by kernel_rfl) (by kernel_rfl) (by kernel_rfl) (by kernel_rfl) (fun _ _ _ h => h) (Or.inl ⟨by rfl, ?hy7⟩) HS5.out ?rest7
        case hy7 =>
          intro W hSw
          (try dsimp only at hSw)
          obtain ⟨s0, s1, s2, s3, s4, s5, s6, s7, s8, s9⟩ := hSw
          go_simp
          try with_reducible rfl
        try simp only [Act.put, List.setIfInBounds_toArray, List.set_cons_zero, List.set_cons_succ]
        refine anyT_take (i := 8) (v := ?v8) rfl (by kernel_rfl) (by kernel_rfl) (by kernel_rfl) (by kernel_rfl) (fun _ _ _ h => h) (Or.inl ⟨by rfl, ?hy8⟩) HS5.out ?rest8
        case hy8 =>
          intro W hSw
          (try dsimp only at hSw)
          obtain ⟨s0, s1, s2, s3, s4, s5, s6, s7, s8, s9⟩ := hSw
          go_simp
          try with_reducible rfl
        try simp only [Act.put, List.setIfInBounds_toArray, List.set_cons_zero, List.set_cons_succ]
        refine anyT_take (i := 9) (v := ?v9) rfl (by kernel_rfl) (by kernel_rfl) (by kernel_rfl) (by kernel_rfl) (fun _ _ _ h => h) (Or.inl ⟨by rfl, ?hy9⟩) HS5.out ?rest9
        case hy9 =>
          intro W hSw
          (try dsimp only at hSw)
          obtain ⟨s0, s1, s2, s3, s4, s5, s6, s7, s8, s9⟩ := hSw
          go_simp
          try with_reducible rfl
        try simp only [Act.put, List.setIfInBounds_toArray, List.set_cons_zero, List.set_cons_succ]
        refine anyT_take (i := 10) (v := ?v10) rfl (by kernel_rfl) (by kernel_rfl) (by kernel_rfl) (by kernel_rfl) (fun _ _ _ h => h) (Or.inl ⟨by rfl, ?hy10⟩) HS5.out ?rest10
        case hy10 =>
          intro W hSw
          (try dsimp only at hSw)
          obtain ⟨s0, s1, s2, s3, s4, s5, s6, s7, s8, s9⟩ := hSw
          go_simp
          try with_reducible rfl
        try simp only [Act.put, List.setIfInBounds_toArray, List.set_cons_zero, List.set_cons_succ]
        refine anyT_take (i := 11) (v := ?v11) rfl (by kernel_rfl) (by kernel_rfl) (by kernel_rfl) (by kernel_rfl) (fun _ _ _ h => h) (Or.inl ⟨by rfl, ?hy11⟩) HS5.out ?rest11
        case hy11 =>
          intro W hSw
          (try dsimp only at hSw)
          obtain ⟨s0, s1, s2, s3, s4, s5, s6, s7, s8, s9⟩ := hSw
          go_simp
          try with_reducible rfl
        try simp only [Act.put, List.setIfInBounds_toArray, List.set_cons_zero, List.set_cons_succ]
        refine anyT_take (i := 12) (v := ?v12) rfl (by kernel_rfl) (by kernel_rfl) (by kernel_rfl) (by kernel_rfl) (fun _ _ _ h => h) (Or.inl ⟨by rfl, ?hy12⟩) HS5.out ?rest12
        case hy12 =>
          intro W hSw
          (try dsimp only at hSw)
          obtain ⟨s0, s1, s2, s3, s4, s5, s6, s7, s8, s9⟩ := hSw
          go_simp
          try with_reducible rfl
        try simp only [Act.put, List.setIfInBounds_toArray, List.set_cons_zero, List.set_cons_succ]
        refine anyT_take (i := 13) (v := ?v13) rfl (by kernel_rfl) (by kernel_rfl) (by kernel_rfl) (by kernel_rfl) (fun _ _ _ h => h) (Or.inl ⟨by rfl, ?hy13⟩) HS5.out ?rest13
        case hy13 =>
          intro W hSw
          (try dsimp only at hSw)
          obtain ⟨s0, s1, s2, s3, s4, s5, s6, s7, s8, s9⟩ := hSw
          go_simp
          try with_reducible rfl
        try simp only [Act.put, List.setIfInBounds_toArray, List.set_cons_zero, List.set_cons_succ]
        refine anyT_take (i := 14) (v := ?v14) rfl (by kernel_rfl) (by kernel_rfl) (by kernel_rfl) (by kernel_rfl) (fun _ _ _ h => h) (Or.inl ⟨by rfl, ?hy14⟩) HS5.out ?rest14
        case hy14 =>
          intro W hSw
          (try dsimp only at hSw)
          obtain ⟨s0, s1, s2, s3, s4, s5, s6, s7, s8, s9⟩ := hSw
          go_simp
          try with_reducible rfl
        try simp only [Act.put, List.setIfInBounds_toArray, List.set_cons_zero, List.set_cons_succ]
        refine anyT_take (i := 15) (v := ?v15) rfl (by kernel_rfl) (by kernel_rfl) (by kernel_rfl) (by kernel_rfl) (fun _ _ _ h => h) (Or.inl ⟨by rfl, ?hy15⟩) HS5.out ?rest15
        case hy15 =>
          intro W hSw
          (try dsimp only at hSw)
          obtain ⟨s0, s1, s2, s3, s4, s5, s6, s7, s8, s9⟩ := hSw
          go_simp
          try with_reducible rfl
        try simp only [Act.put, List.setIfInBounds_toArray, List.set_cons_zero, List.set_cons_succ]
        refine anyT_one (i := 16) (by kernel_rfl) rfl (fun K hK => ?_)
        go_simp
        refine hK _ _ (fun _ => HS6.out) ?_
        clear hK K
        refine anyT_one (i := 17) (by kernel_rfl) rfl (fun K hK => ?_)
        refine step_of_wp rfl (wp_app_arcs ((w5.alloc (.cells #[.int .i64 y1, .int .i64 y2, .int .i64 y3, .int .i64 z1, .int .i64 z2, .int .i64 z3] 55)).drew) (.tmp 26) (.tmp 41) rfl w1.heap.size _ _ _ rfl HD6.out.o _ _ _ _ rfl HS2.out (by omega) (by omega) ?_)
        intro v7 w7 ho hg hn
        have f := (HD6.out.grownB hg).frozen 2
        have r := (HD6.out.grownB hg).c2
        have E := Lib.hid (HD6.out.pushed ho rfl hg hn)
        have F := Lib.hid (HD6.out.belowP HB6.out hg (by omega) v7)
        have s6 := HS6.out
        have HS7 := Lib.hid (show w7.cell? ⟨b, 2, none⟩ = some (.slice aa (prn xs p).length ca) ∧ w7.cell? ⟨w.heap.size, 2, none⟩ = some (.slice (some ⟨ba, oa, none⟩) n cap) ∧ w7.cell? ⟨g5, 0, none⟩ = some (.int .i64 (t1 : Int)) ∧ w7.cell? ⟨g5, 1, none⟩ = some (.int .i64 (t2 : Int)) ∧ w7.cell? ⟨ba, oa + t1 * 3, none⟩ = some (.int .i64 y1) ∧ w7.cell? ⟨ba, oa + t1 * 3 + 1, none⟩ = some (.int .i64 y2) ∧ w7.cell? ⟨ba, oa + t1 * 3 + 2, none⟩ = some (.int .i64 y3) ∧ w7.cell? ⟨ba, oa + t2 * 3, none⟩ = some (.int .i64 z1) ∧ w7.cell? ⟨ba, oa + t2 * 3 + 1, none⟩ = some (.int .i64 z2) ∧ w7.cell? ⟨ba, oa + t2 * 3 + 2, none⟩ = some (.int .i64 z3) from ⟨(HD6.out.grownB hg).c2, hg.cell s6.2.1 (HNE.out _ (.inl HKQ.out)), hg.cell s6.2.2.1 (HNE.out _ (.inr rfl)), hg.cell s6.2.2.2.1 (HNE.out _ (.inr rfl)), hg.cell s6.2.2.2.2.1 (HNE.out _ (.inl HBQ.out)), hg.cell s6.2.2.2.2.2.1 (HNE.out _ (.inl HBQ.out)), hg.cell s6.2.2.2.2.2.2.1 (HNE.out _ (.inl HBQ.out)), hg.cell s6.2.2.2.2.2.2.2.1 (HNE.out _ (.inl HBQ.out)), hg.cell s6.2.2.2.2.2.2.2.2.1 (HNE.out _ (.inl HBQ.out)), hg.cell s6.2.2.2.2.2.2.2.2.2 (HNE.out _ (.inl HBQ.out))⟩)
        obtain ⟨a7, c7, rfl, _⟩ := ho.form
        clear ho hg hn s6
        refine hK _ _ (fun _ => HS7.out) ?_
        clear hK K
        try simp only [Act.put, List.setIfInBounds_toArray, List.set_cons_zero, List.set_cons_succ]
        refine anyT_take (i := 18) (v := ?v18) rfl (by kernel_rfl) (by kernel_rfl) (by kernel_rfl) (by kernel_rfl) (fun _ _ _ h => h) (Or.inl ⟨by rfl, ?hy18⟩) HS7.out ?rest18
        case hy18 =>
          intro W hSw
          clear hSw
          go_simp
          try with_reducible rfl
        try simp only [Act.put, List.setIfInBounds_toArray, List.set_cons_zero, List.set_cons_succ]
        refine anyT_one (i := 19) (by kernel_rfl) rfl (fun K hK => ?_)
        go_simp
        refine hK _ _ (fun h => absurd rfl h) ?_
        clear hK K
        refine anyT_done (by kernel_rfl) ?_
        go_wp2_with fail
        go_roundw
        case rel => exact ⟨p + 1, _, hlt, by go_num, by rw [HT.out]; exact E.out, F.out⟩
        case measure => simp [intOf]; omega
      · have hpm : p = m := by omega
        have HX : Hid (Bld wr w1.heap.size (w.heap.size + 1) b L m (.slice aa (prn xs p).length ca) (prn xs m)) := by have h := HD1.out; rw [hpm] at h ⊢; exact h
        rw [hpm] at HX
        clear HD1
        have k1 := HK.out.c1
        have a0 := HX.out.kb.c0
        have a1 := HX.out.kb.c1
        have a2 := HX.out.kb.c2
        have b0 := HX.out.kr.c0
        have b1 := HX.out.kr.c1
        have b2 := HX.out.kr.c2
        have f0 := HX.out.kr.frozen 0
        have f1 := HX.out.kr.frozen 1
        have f2 := HX.out.kr.frozen 2
        go_wp2_with fail
        refine bodyPost_ret (v := .tuple #[.agg #[.int .i64 L, .int .i64 m, .slice aa (prn xs m).length ca], .bool true]) (by simp [results, Try.results13, go_sem, *]) rfl ?_
        exact ⟨_, rfl, (((HX.out.o.setFar HX.out.nr _).setFar HX.out.nr _).setFar HX.out.nr _).mono HB1.out.size, below_lab (step2 HB1.out HB.out) (Nat.le_succ _) _ _ _⟩
end Go.Proofs.Ytmkodbkbgpjgoaa

namespace Go.Proofs.Ytmkodbkbgpjgoaa
open Go.RowKit
set_option linter.all false
def cntT (S k : Nat) (xs : List Ar) : List Int := sumsL S (xs.take k)
theorem cnt_zero (S : Nat) (xs : List Ar) : cntT S 0 xs = List.replicate S 0 := by
  apply List.ext_getElem?
  intro i
  by_cases h : i < S <;> simp [cntT, sumsL, fromL, h]
theorem fromL_app (p : Int) : ∀ (xs : List Ar) (x : Ar), fromL p (xs ++ [x]) = fromL p xs ++ (if x.1 = p then [x] else [])
  | [], x => by by_cases h : x.1 = p <;> simp [fromL, h]
  | y :: r, x => by
    rw [List.cons_append, fromL, fromL, fromL_app p r x]
    by_cases h : y.1 = p <;> simp [h]
theorem cnt_step {S k : Nat} {xs : List Ar} {a : Nat} {y z : Int} (hx : xs[k]? = some ((a : Int), y, z)) (ha : a < S) : (cntT S k xs).set a (((fromL (a : Nat) (xs.take k)).length : Int) + 1) = cntT S (k + 1) xs := by
  apply List.ext_getElem?
  intro i
  rw [cntT, cntT, ← push_take hx, List.getElem?_set]
  by_cases hi : i < S
  · by_cases e : a = i
    · subst e
      rw [if_pos rfl, if_pos (by rw [sumsL_len]; exact hi), sumsL_get hi, fromL_app]
      simp
    · rw [if_neg e, sumsL_get hi, sumsL_get hi, fromL_app]
      have e2 : ¬ (a : Int) = (i : Int) := by omega
      simp [e2]
  · have h1 : (sumsL S (xs.take k)).length ≤ i := by rw [sumsL_len]; omega
    have h2 : (sumsL S (xs.take k ++ [((a : Int), y, z)])).length ≤ i := by rw [sumsL_len]; omega
    rw [List.getElem?_eq_none h1, List.getElem?_eq_none h2]
    split
    · simp [sumsL_len] at *; omega
    · rfl
set_option maxRecDepth 20000 in
set_option maxHeartbeats 3200000 in
theorem iStateSums_any (L S : Int) (ao : Option Addr) (n cap : Nat) (xs : List Ar) (w : World) (h : Arcs w ao n xs) :
    Calls Try.prog 21 #[.agg #[.int .i64 L, .int .i64 S, .slice ao n cap]] w fun e w' => ∃ v, e = .returned v ∧ OInts w' w.heap.size v (stSums L S xs).length (stSums L S xs) ∧ Below w.heap.size w w' := by
  have hm := h.2.1
  have HL := Lib.hid h.1
  have HB1 := Lib.hid (below1 w (.cells #[.int .i64 L, .int .i64 S, .slice ao n cap] 26))
  have H := Lib.hid (h.keep HB1.out)
  have HK := Lib.hid (Blk.new w 26 #[.int .i64 L, .int .i64 S, .slice ao n cap])
  clear h
  cases b1 : isLab L S xs
  · have HR : Hid (stSums L S xs = []) := by show _ = _; simp [stSums, b1]
    have B1 := Lib.hid b1
    clear b1
    go_enter Try.func21, Try.ntmps21
    go_wp2_with fail
    generalize w.alloc (.cells #[.int .i64 L, .int .i64 S, .slice ao n cap] 26) = w1 at HB1 H HK ⊢
    refine (iIsLabels_any _ _ _ _ _ xs _ H.out).mono ?_
    rw [B1.out]
    rintro e w2 ⟨rfl, hb2⟩
    go_wp2_with fail
    go_ret
    rw [HR.out]
    exact ⟨_, rfl, OInts.none_ _ _, step2 HB1.out hb2⟩
  · obtain ⟨_, hSr, hok⟩ := isLab_get b1
    have HOK := Lib.hid (okFrom_all hok)
    obtain ⟨m, rfl⟩ : ∃ m : Nat, S = m := ⟨S.toNat, by omega⟩
    have HR : Hid (stSums L m xs = sumsL m xs) := by show _ = _; simp [stSums, b1]
    have B1 := Lib.hid b1
    have hm12 : m ≤ 12 := by omega
    clear b1 hok
    have hmk := make_ints m (by omega)
    have HMa := Lib.hid (fun (W : World) => OInts.made W m (by omega))
    go_enter Try.func21, Try.ntmps21
    go_wp2_with fail
    generalize w.alloc (.cells #[.int .i64 L, .int .i64 m, .slice ao n cap] 26) = w1 at HB1 H HK ⊢
    refine (iIsLabels_any _ _ _ _ _ xs _ H.out).mono ?_
    rw [B1.out]
    rintro e w2 ⟨rfl, hb2⟩
    have HB2 := Lib.hid hb2
    have q := HK.out.keep hb2
    have q0 := q.c0
    have q1 := q.c1
    have q2 := q.c2
    have H2 := Lib.hid (H.out.keep hb2)
    have HO := Lib.hid (HMa.out w2)
    have HB3 := Lib.hid (below1 w2 (.cells (madeCells #[.int .i64 0] m) 3))
    have H3 := Lib.hid (H2.out.keep HB3.out)
    have HK3 := Lib.hid ((HK.out.keep hb2).keep HB3.out)
    have r2 := HK3.out.c2
    clear q hb2
    go_wp2_with fail
    clear q0 q1 q2 r2
    obtain ⟨g, hg⟩ : ∃ g, w2.heap.size = g := ⟨_, rfl⟩
    rw [hg] at HO
    simp only [hg]
    generalize w2.alloc (.cells (madeCells #[.int .i64 0] m) 3) = w3 at HO HB3 H3 HK3 ⊢
    go_loopw [15] (fun x wr => ∃ k : Nat, k ≤ n ∧ x = .int .i64 k ∧ OInts wr g (.slice (some ⟨g, 0, none⟩) m m) m (cntT m k xs) ∧ Below w2.heap.size w2 wr) (fun x _ => n - (intOf x).toNat)
    case atStart => exact ⟨0, Nat.zero_le _, rfl, by rw [cnt_zero]; exact HO.out, HB3.out⟩
    case round =>
      obtain ⟨k, hk, rfl, ho, hbl⟩ := hrel
      have HOw := Lib.hid ho
      have HB := Lib.hid hbl
      have hsz := hbl.size
      clear hbl ho HO
      by_cases hlt : k < n
      · obtain ⟨b, o, x, y, z, rfl, c1, c2, c3, hx⟩ := (H2.out.keep HB.out).at_ hlt
        have hxr := arcB_get (HOK.out _ (List.mem_of_getElem? hx.out))
        obtain ⟨a, rfl⟩ : ∃ a : Nat, x = a := ⟨x.toNat, by omega⟩
        have ham : a < m := by omega
        have HST := Lib.hid (cnt_step (S := m) hx.out ham)
        have HG : Hid ((cntT m k xs).getD a 0 = ((fromL (a : Nat) (xs.take k)).length : Int)) := by show _ = _; rw [cntT, List.getD, sumsL_get ham]; rfl
        have hle := fromL_le (a : Nat) (xs.take k)
        have hle2 : (xs.take k).length ≤ 1099511627776 := by simp; omega
        have HO5 := Lib.hid (HOw.out.alloc (.cells #[.int .i64 (a : Int), .int .i64 y, .int .i64 z] 55))
        have HA := Lib.hid (Blk.new wr 55 #[.int .i64 (a : Int), .int .i64 y, .int .i64 z])
        have HB5 := Lib.hid (HB.out.trans ((below1 wr (.cells #[.int .i64 (a : Int), .int .i64 y, .int .i64 z] 55)).mono hsz))
        have cc := HO5.out.cell a ham
        rw [HG.out] at cc
        have ff := HO5.out.frozen a
        have a0 := HA.out.c0
        have HS := Lib.hid (HO5.out.set a (((fromL (a : Nat) (xs.take k)).length : Int) + 1))
        have HB6 := Lib.hid (HB5.out.setCell (p := ⟨g, a, none⟩) (by rw [hg]; exact Nat.le_refl _) (.int .i64 (((fromL (a : Nat) (xs.take k)).length : Int) + 1)))
        clear hx
        generalize (fromL (a : Nat) (xs.take k)).length = cn at cc hle HS HB6 HST HG
        go_wp2_with fail
        go_roundw
        case rel =>
          have h6 := HS.out
          rw [HST.out] at h6
          exact ⟨k + 1, hlt, by go_num, h6, HB6.out⟩
        case measure => simp [intOf]; omega
      · have hkn : k = n := by omega
        have HT : Hid (cntT m k xs = stSums L m xs) := by show _ = _; rw [HR.out, cntT, List.take_of_length_le (by have := HL.out; omega)]
        have HN : Hid ((stSums L m xs).length = m) := by show _ = _; rw [HR.out, sumsL_len]
        go_wp2_with fail
        go_ret
        have h5 := HOw.out
        rw [HT.out] at h5
        exact ⟨_, rfl, by rw [HN.out]; exact h5.mono (by rw [← hg]; exact Nat.le_trans HB1.out.size HB2.out.size), step2 HB1.out (step2 HB2.out HB.out)⟩
end Go.Proofs.Ytmkodbkbgpjgoaa
