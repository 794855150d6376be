/- SReadSame: a part of the proofs of this seat. -/
import Derived.Deep.RegionLaw
import Derived.BigQuiet
import Derived.Test.YtmkodbkbgpjgoaaProg
import Derived.Test.YtmkodbkbgpjgoaaEG1a
import Derived.Test.YtmkodbkbgpjgoaaEG0a
namespace Go.Proofs.Ytmkodbkbgpjgoaa
open Go.RowKit
set_option linter.all false
theorem lab_bnd {L S : Int} {xs : List Ar} (h : isLab L S xs = true) : ∀ x ∈ xs, (0 ≤ x.1 ∧ x.1 < 12) ∧ (0 ≤ x.2.1 ∧ x.2.1 < 12) := fun x hx => by
  obtain ⟨x1, x2, x3⟩ := x
  have h1 := arcB_get (okFrom_all (isLab_get h).2.2 _ hx)
  have h2 := (isLab_get h).2.1
  simp only
  omega
theorem apart_symm {u v : Value} (h : Apart u v) : Apart v u := fun b hb e => h b e hb
theorem OInts.litS (W : World) (lo : Nat) (x : Int) (h : lo ≤ W.heap.size) : OInts (W.alloc (.cells #[.int .i64 x] 3)) lo (.slice (some ⟨W.heap.size, 0, none⟩) 1 1) 1 [x] := by
  refine ⟨by omega, ?_⟩
  have h := World.ownsRow_lit (base := lo) (e := 3) (size := 1) W #[.int .i64 x] 1 h (by unfold maxLen; omega) rfl
  simpa using h
theorem shl_nat {S : Nat} (h : S ≤ 12) : wrap64 ((2 : Int) ^ S) = ((2 ^ S : Nat) : Int) ∧ wrap64 (wrap64 ((2 : Int) ^ S) - 1) = ((2 ^ S - 1 : Nat) : Int) := by
  have hp := pow_lt13 h
  have h0 : 0 < 2 ^ S := Nat.two_pow_pos S
  have e : ((2 : Int) ^ S) = ((2 ^ S : Nat) : Int) := by simp
  rw [e]
  generalize 2 ^ S = k at *
  have e2 : wrap64 ((k : Nat) : Int) = k := wrap_nat hp
  rw [e2]
  refine ⟨rfl, ?_⟩
  rw [wrap_id (by omega)]
  omega
set_option maxRecDepth 20000 in
set_option maxHeartbeats 3200000 in
theorem sReadFrom_in (L : Int) (S : Nat) (ao : Option Addr) (n cap : Nat) (xs : List Ar) (T : Nat) (s : ByteArray) (w : World) (h : Arcs w ao n xs) (hlab : isLab L (S : Int) xs = true) (hT : T < 2 ^ S) (hwd : isWd L s = true) :
    Calls Try.prog 23 #[.agg #[.int .i64 L, .int .i64 (S : Int), .slice ao n cap], .int .i64 (T : Int), .string s] w fun e w' => e = .returned (.int .i64 (readW xs s 0 s.size (T : Int))) ∧ Below w.heap.size w w' := by
  have HB1 := Lib.hid (below1 w (.cells #[.int .i64 L, .int .i64 (S : Int), .slice ao n cap] 26))
  have HA1 := Lib.hid (h.keep HB1.out)
  have HK1 := Lib.hid (Blk.new w 26 #[.int .i64 L, .int .i64 (S : Int), .slice ao n cap])
  have k0 := HK1.out.c0
  have k1 := HK1.out.c1
  have k2 := HK1.out.c2
  have hs : s.size ≤ 1048576 := by have := (isWd_get hwd).1; omega
  have HW := Lib.hid hwd
  have HLAB := Lib.hid hlab
  have hS12 : S ≤ 12 := by have := (isLab_get hlab).2.1; omega
  have hbd := Lib.hid (lab_bnd hlab)
  have hin : inR (T : Int) 0 (wrap64 (wrap64 ((2 : Int) ^ S) - 1)) = true := by
    rw [(shl_nat hS12).2]
    exact inR_mk ⟨by omega, by omega⟩
  have HIN := Lib.hid hin
  clear h hlab hwd hin hT
  go_enter Try.func23, Try.ntmps23
  go_wp2_with fail
  generalize w.alloc (.cells #[.int .i64 L, .int .i64 (S : Int), .slice ao n cap] 26) = w1 at HB1 HA1 HK1 k0 k1 k2 ⊢
  refine (sIsLabels_any _ _ _ _ _ xs _ HA1.out).mono ?_
  rw [HLAB.out]
  rintro e w2 ⟨rfl, hb2⟩
  have HB2 := Lib.hid (step2 HB1.out hb2)
  have q := HK1.out.keep hb2
  have k0 := q.c0
  have k1 := q.c1
  have k2 := q.c2
  have HA2 := Lib.hid (HA1.out.keep hb2)
  clear q hb2
  go_wp2_with fail
  refine (l1In_any _ _ _ _).mono ?_
  rw [HIN.out]
  rintro e w' ⟨rfl, rfl⟩
  go_wp2_with fail
  refine (sIsWord_any _ _ _ hs).mono ?_
  rw [HW.out]
  rintro e w' ⟨rfl, rfl⟩
  go_wp2_with fail
  refine (l14Read_any _ _ _ _ _ xs _ s _ HA2.out hs hbd.out).mono ?_
  rintro e w3 ⟨rfl, hb3⟩
  have HB3 := Lib.hid (step2 HB2.out hb3)
  clear hb3 k0 k1 k2
  go_wp2_with fail
  go_ret
  exact ⟨rfl, HB3.out⟩
/-- One graph is another one, a state of which was split: what the sets of states are. -/
structure SameH (L : Int) (S S' : Nat) (ys xs : List Ar) (lf : Nat → Nat) : Prop where
  ly : isLab L (S' : Int) ys = true
  lx : isLab L (S : Int) xs = true
  step : ∀ (T : Nat) (l : Int), T < 2 ^ S → stepN (lf T) l ys 0 = lf (stepN T l xs 0)
  zero : ∀ T, lf T = 0 ↔ T = 0
  full : lf (2 ^ S - 1) = 2 ^ S' - 1
  lt : ∀ T, T < 2 ^ S → lf T < 2 ^ S'
theorem SameH.next {L : Int} {S S' : Nat} {ys xs : List Ar} {lf : Nat → Nat} (h : SameH L S S' ys xs lf) {T : Nat} (hT : T < 2 ^ S) (l : Int) :
    ∃ t : Nat, t < 2 ^ S ∧ stepL (T : Int) l xs 0 = (t : Int) ∧ stepL ((lf T : Nat) : Int) l ys 0 = ((lf t : Nat) : Int) ∧ lf t < 8192 := by
  have a := isLab_get h.ly
  have b := isLab_get h.lx
  have bx := lab_bnd h.lx
  have by_ := lab_bnd h.ly
  have p1 : 2 ^ S ≤ 2 ^ 12 := Nat.pow_le_pow_right (by omega) (by omega)
  have p2 : 2 ^ S' ≤ 2 ^ 12 := Nat.pow_le_pow_right (by omega) (by omega)
  have e1 := (stepL_nat (set := T) (l := l) (by omega) xs 0 (fun x hx => by have := bx x hx; omega) (by omega)).1
  have l1 := h.lt T hT
  have e2 := (stepL_nat (set := lf T) (l := l) (by omega) ys 0 (fun x hx => by have := by_ x hx; omega) (by omega)).1
  have hb := okFrom_all b.2.2
  have lt : stepN T l xs 0 < 2 ^ S := stepN_lt (fun x hx => by
    obtain ⟨x1, x2, x3⟩ := x
    have := arcB_get (hb _ hx)
    simp only
    omega)
  have l2 := h.lt _ lt
  refine ⟨stepN T l xs 0, lt, e1, ?_, by omega⟩
  rw [← h.step T l hT]
  exact e2
theorem take_mem {rs : List Nat} {i t : Nat} {r : Nat} (h : rs[i]? = some r) : (t ∈ rs.take (i + 1)) ↔ (t ∈ rs.take i ∨ r = t) := by
  rw [← push_take h, List.mem_append, List.mem_singleton]
  constructor
  · rintro (h | h)
    · exact .inl h
    · exact .inr h.symm
  · rintro (h | h)
    · exact .inl h
    · exact .inr h.symm
theorem pow_facts : ∀ {S : Nat}, S ≤ 12 → ∃ P : Nat, 2 ^ S - 1 = P ∧ P + 1 = 2 ^ S ∧ wrap64 (wrap64 (2 ^ S) - 1) = (P : Int) ∧ P ≤ 4095 := by
  intro S h
  have : S = 0 ∨ S = 1 ∨ S = 2 ∨ S = 3 ∨ S = 4 ∨ S = 5 ∨ S = 6 ∨ S = 7 ∨ S = 8 ∨ S = 9 ∨ S = 10 ∨ S = 11 ∨ S = 12 := by omega
  rcases this with rfl | rfl | rfl | rfl | rfl | rfl | rfl | rfl | rfl | rfl | rfl | rfl | rfl <;> (refine ⟨_, rfl, ?_, ?_, ?_⟩ <;> first | decide | rfl | (unfold wrap64; omega) | simp [wrap64])
theorem OInts.readAllS {w : World} {lo n c : Nat} {ao : Option Addr} {xs : List Int} (h : OInts w lo (.slice ao n c) n xs) : Ints w ao n xs := by
  obtain ⟨_, _, e, h2⟩ := h.form
  injection e with e
  subst e
  exact h2
def natL (rs : List Nat) : List Int := rs.map fun (r : Nat) => (r : Int)
theorem natL_len (rs : List Nat) : (natL rs).length = rs.length := by simp [natL]
theorem natL_get {rs : List Nat} {k r : Nat} (h : rs[k]? = some r) : (natL rs)[k]? = some (r : Int) := by simp [natL, h]
theorem natL_push (rs : List Nat) (r : Nat) : natL rs ++ [(r : Int)] = natL (rs ++ [r]) := by simp [natL]
theorem nodup_push {rs : List Nat} {t : Nat} (h : rs.Nodup) (ht : t ∉ rs) : (rs ++ [t]).Nodup := by
  simp only [List.Nodup, List.pairwise_append]
  exact ⟨h, by simp, fun a ha b hb => by simp at hb; subst hb; exact fun e => ht (e ▸ ha)⟩
set_option maxRecDepth 20000 in
set_option maxHeartbeats 12800000 in
theorem sReadSame_in (L : Int) (S S' : Nat) (ay : Option Addr) (ny cy : Nat) (ys : List Ar) (ax : Option Addr) (nx cx : Nat) (xs : List Ar) (lf : Nat → Nat) (w : World) (hy : Arcs w ay ny ys) (hx : Arcs w ax nx xs) (hh : SameH L S S' ys xs lf) :
    Calls Try.prog 25 #[.agg #[.int .i64 L, .int .i64 (S' : Int), .slice ay ny cy], .agg #[.int .i64 L, .int .i64 (S : Int), .slice ax nx cx]] w fun e w' => e = .returned (.bool true) ∧ Below w.heap.size w w' := by
  have HB0 := Lib.hid (below1 w (.cells #[.int .i64 L, .int .i64 (S' : Int), .slice ay ny cy] 26))
  have HK0 := Lib.hid (Blk.new w 26 #[.int .i64 L, .int .i64 (S' : Int), .slice ay ny cy])
  have HB1' := Lib.hid (below1 (w.alloc (.cells #[.int .i64 L, .int .i64 (S' : Int), .slice ay ny cy] 26)) (.cells #[.int .i64 L, .int .i64 (S : Int), .slice ax nx cx] 26))
  have HK1 := Lib.hid (Blk.new (w.alloc (.cells #[.int .i64 L, .int .i64 (S' : Int), .slice ay ny cy] 26)) 26 #[.int .i64 L, .int .i64 (S : Int), .slice ax nx cx])
  have HB1 := Lib.hid (step2 HB0.out HB1'.out)
  have HY1 := Lib.hid (hy.keep HB1.out)
  have HX1 := Lib.hid (hx.keep HB1.out)
  have HK0' := Lib.hid (HK0.out.keep HB1'.out)
  have hszw : (w.alloc (.cells #[.int .i64 L, .int .i64 (S' : Int), .slice ay ny cy] 26)).heap.size = w.heap.size + 1 := by simp
  have HK1b := HK1.out
  rw [hszw] at HK1b
  have HK1 := Lib.hid HK1b
  clear HK1b hszw
  have HH := Lib.hid hh
  have hS := (isLab_get hh.lx).2.1
  have hS' := (isLab_get hh.ly).2.1
  have hL := (isLab_get hh.lx).1
  have hs12 : S ≤ 12 := by omega
  have hs12' : S' ≤ 12 := by omega
  have bx := lab_bnd hh.lx
  have bY := lab_bnd hh.ly
  have hfull := hh.full
  obtain ⟨P, hP, hPS, e1, hP2⟩ := pow_facts hs12
  obtain ⟨P', hP', hPS', e2, hP2'⟩ := pow_facts hs12'
  rw [hP, hP'] at hfull
  have HFL : Hid (lf P = P') := hfull
  have HFS : Hid (P + 1 = 2 ^ S) := hPS
  have HPLT : Hid (P < 2 ^ S) := by show _ < _; rw [← hPS]; exact Nat.lt_succ_self _
  clear hfull hP hP' hPS hPS' hP2'
  have hLL : (L != L) = false := by simp
  obtain ⟨l0, rfl⟩ := Int.eq_ofNat_of_zero_le (show 0 ≤ L by omega)
  have k0 := HK0'.out.c0
  have k1 := HK0'.out.c1
  have k2 := HK0'.out.c2
  have m0 := HK1.out.c0
  have m1 := HK1.out.c1
  have m2 := HK1.out.c2
  have HLY := Lib.hid hh.ly
  have HLX := Lib.hid hh.lx
  have hl3 : l0 ≤ 3 := by omega
  clear hy hx hh hS hS' hL HB0 HB1'
  go_enter Try.func25, Try.ntmps25
  go_wp2_with fail
  generalize (w.alloc (.cells #[.int .i64 (l0 : Int), .int .i64 (S' : Int), .slice ay ny cy] 26)).alloc (.cells #[.int .i64 (l0 : Int), .int .i64 (S : Int), .slice ax nx cx] 26) = w1 at HB1 HY1 HX1 HK0' HK1 k0 k1 k2 m0 m1 m2 ⊢
  refine (sIsLabels_any _ _ _ _ _ ys _ HY1.out).mono ?_
  rw [HLY.out]
  rintro e w2 ⟨rfl, hb2⟩
  have HB2 := Lib.hid (step2 HB1.out hb2)
  have HX2 := Lib.hid (HX1.out.keep hb2)
  have HY2 := Lib.hid (HY1.out.keep hb2)
  have HKY2 := Lib.hid (HK0'.out.keep hb2)
  have HKX2 := Lib.hid (HK1.out.keep hb2)
  clear hb2 k0 k1 k2 m0 m1 m2 HB1 HX1 HY1 HK0' HK1
  have k0 := HKY2.out.c0
  have k1 := HKY2.out.c1
  have k2 := HKY2.out.c2
  have m0 := HKX2.out.c0
  have m1 := HKX2.out.c1
  have m2 := HKX2.out.c2
  go_wp2_with fail
  refine (sIsLabels_any _ _ _ _ _ xs _ HX2.out).mono ?_
  rw [HLX.out]
  rintro e w3 ⟨rfl, hb3⟩
  have HB3 := Lib.hid (step2 HB2.out hb3)
  have HX3 := Lib.hid (HX2.out.keep hb3)
  have HY3 := Lib.hid (HY2.out.keep hb3)
  have HKY3 := Lib.hid (HKY2.out.keep hb3)
  have HKX3 := Lib.hid (HKX2.out.keep hb3)
  clear hb3 k0 k1 k2 m0 m1 m2 HB2 HX2 HY2 HKY2 HKX2
  have k0 := HKY3.out.c0
  have k1 := HKY3.out.c1
  have k2 := HKY3.out.c2
  have m0 := HKX3.out.c0
  have m1 := HKX3.out.c1
  have m2 := HKX3.out.c2
  have HL0 := Lib.hid (OInts.litS w3 w3.heap.size (P' : Int) (Nat.le_refl _))
  have HR0' := OInts.litS (w3.alloc (.cells #[.int .i64 (P' : Int)] 3)) w3.heap.size (P : Int) (by simp)
  rw [show (w3.alloc (.cells #[.int .i64 (P' : Int)] 3)).heap.size = w3.heap.size + 1 by simp] at HR0'
  have HR0 := Lib.hid HR0'
  have hb4 := (Below.refl w3.heap.size w3).alloc (Nat.le_refl _) (.cells #[.int .i64 (P' : Int)] 3)
  have q := HKX3.out.keep hb4
  have m0' := q.c0
  have m1' := q.c1
  have m2' := q.c2
  have hb5 := hb4.alloc (by simp) (.cells #[.int .i64 (P : Int)] 3)
  have HB5 := Lib.hid hb5
  have HL1 := Lib.hid (HL0.out.alloc (.cells #[.int .i64 (P : Int)] 3))
  clear HR0' hb4 hb5 q HL0
  go_wp2_with fail
  clear k0 k1 k2 m0 m1 m2 m0' m1' m2' e1 e2
  go_loopw [5, 6, 7] (fun v u x wr => ∃ (rs : List Nat) (k : Nat), k ≤ rs.length ∧ x = .int .i64 k ∧ OInts wr w3.heap.size v rs.length (natL (rs.map lf)) ∧ OInts wr w3.heap.size u rs.length (natL rs) ∧ Apart v u ∧ Hid (rs.Nodup ∧ ∀ t ∈ rs, t < 2 ^ S) ∧ Below w3.heap.size w3 wr) (fun _ _ x _ => 4097 - (intOf x).toNat)
  case atStart =>
    refine ⟨[P], 0, Nat.zero_le _, rfl, ?_, HR0.out, ?_, ⟨by simp, by simpa using HPLT.out⟩, HB5.out⟩
    · have := HL1.out
      simpa [natL, HFL.out] using this
    · intro b hb e
      injection hb with hb
      injection e with e
      simp at hb e
      omega
  case round =>
    clear HR0 HL1 HB5
    obtain ⟨rs, k, hk, rfl, hol, hor, hap, hrs, hbl⟩ := hrel
    obtain ⟨ao1, cp1, ev1, _⟩ := hol.form
    obtain ⟨ao2, cp2, ev2, _⟩ := hor.form
    subst ev1
    subst ev2
    have hn : rs.length ≤ 4096 := Nat.le_trans (nodup_le _ rs hrs.out.1 hrs.out.2) (by rw [← HFS.out]; omega)
    have Hol := Lib.hid hol
    have Hor := Lib.hid hor
    have Hap := Lib.hid hap
    have Hbl := Lib.hid hbl
    clear hol hor hap hbl
    have HRS := Lib.hid hrs.out
    clear hrs
    by_cases hlt : k < rs.length
    · have q := HKY3.out.keep Hbl.out
      go_wp2_with fail
      clear q
      go_loopw [5, 6, 8] (fun v u x wr => ∃ (rs2 : List Nat) (l : Nat), l ≤ l0 ∧ k < rs2.length ∧ x = .int .i64 l ∧ OInts wr w3.heap.size v rs2.length (natL (rs2.map lf)) ∧ OInts wr w3.heap.size u rs2.length (natL rs2) ∧ Apart v u ∧ Hid (rs2.Nodup ∧ ∀ t ∈ rs2, t < 2 ^ S) ∧ Below w3.heap.size w3 wr) (fun _ _ x _ => l0 - (intOf x).toNat)
      case atStart => exact ⟨rs, 0, Nat.zero_le _, hlt, rfl, Hol.out, Hor.out, Hap.out, HRS.out, Hbl.out⟩
      case round =>
        clear Hol Hor Hap Hbl HRS hk hlt
        obtain ⟨rs2, l, hl, hk2, rfl, hol, hor, hap, hrs, hbl⟩ := hrel
        obtain ⟨ao1, cp1, ev1, _⟩ := hol.form
        obtain ⟨ao2, cp2, ev2, _⟩ := hor.form
        subst ev1
        subst ev2
        have hn2 : rs2.length ≤ 4096 := Nat.le_trans (nodup_le _ rs2 hrs.out.1 hrs.out.2) (by rw [← HFS.out]; omega)
        have Hol := Lib.hid hol
        have Hor := Lib.hid hor
        have Hap := Lib.hid hap
        have Hbl := Lib.hid hbl
        have HRS := Lib.hid hrs.out
        have q := HKY3.out.keep hbl
        have qx := HKX3.out.keep hbl
        have k0 := q.c0
        have k1 := q.c1
        have k2 := q.c2
        clear hol hor hap hbl hrs
        obtain ⟨wo, rfl⟩ : ∃ wo : World, wo = wr := ⟨_, rfl⟩
        by_cases hll : l < l0
        · have HLE := Lib.hid (show l + 1 ≤ l0 from hll)
          obtain ⟨r, hr⟩ : ∃ r, rs2[k]? = some r := ⟨rs2[k], by simp [hk2]⟩
          have hrlt : r < 2 ^ S := HRS.out.2 r (List.mem_of_getElem? hr)
          obtain ⟨b5, o5, x5, e5, hc5, hg5⟩ := (OInts.readAllS Hol.out).at_ (k := k) hk2
          subst e5
          obtain ⟨b6, o6, x6, e6, hc6, hg6⟩ := (OInts.readAllS Hor.out).at_ (k := k) hk2
          subst e6
          have hx6 : x6 = (r : Int) := by
            have h1 := hg6.out
            rw [natL_get hr] at h1
            injection h1 with h1
            exact h1.symm
          have hx5 : x5 = ((lf r : Nat) : Int) := by
            have h1 := hg5.out
            rw [natL_get (rs := rs2.map lf) (k := k) (r := lf r) (by simp [hr])] at h1
            injection h1 with h1
            exact h1.symm
          obtain ⟨t, htS, ht1, ht2, _⟩ := HH.out.next hrlt (l : Int)
          obtain ⟨A, hA⟩ : ∃ A : Int, ((lf t : Nat) : Int) = A := ⟨_, rfl⟩
          obtain ⟨B, hB⟩ : ∃ B : Int, (t : Int) = B := ⟨_, rfl⟩
          rw [← hx6, hB] at ht1
          rw [← hx5, hA] at ht2
          have HT1 := Lib.hid ht1
          have HT2 := Lib.hid ht2
          have HA := Lib.hid hA
          have HB := Lib.hid hB
          have HTS := Lib.hid htS
          have HLZ : Hid (lf t = 0 ↔ t = 0) := HH.out.zero t
          clear hr hrlt hg5 hg6 hx5 hx6 ht1 ht2 hA hB htS
          go_wp2_with fail
          go_cut [9] (fun v wx => v = .int .i64 A ∧ Below wo.heap.size wo wx)
          case first =>
            go_region_with (first
              | (go_at_call 46; refine (l14Step_any _ _ _ _ _ ys _ _ _ ((HY3.out.keep Hbl.out).drewN 1) bY).mono ?_; rw [HT2.out]; rintro e w5 ⟨rfl, hb5⟩; have HB5 := Lib.hid ((below_drewN (Below.refl _ wo) 1).trans (hb5.mono (Nat.le_refl _))); clear hb5))
            all_goals (go_wp2_with fail; go_meet; exact ⟨rfl, HB5.out⟩)
          case rest =>
          obtain ⟨rfl, hb5⟩ := hcut
          have HB5 := Lib.hid (step2 Hbl.out hb5)
          have Hol5 := Lib.hid (Hol.out.keep hb5)
          have Hor5 := Lib.hid (Hor.out.keep hb5)
          have qx5 := qx.keep hb5
          have m0 := qx5.c0
          have m1 := qx5.c1
          have m2 := qx5.c2
          have hc6' := (hb5.cell (World.block_lt_of_cell? _ _ hc6)).trans hc6
          clear hb5 Hol Hor Hbl q qx k0 k1 k2 hc5 hc6 qx5
          go_wp2_with fail
          obtain ⟨wp, rfl⟩ : ∃ wp : World, wp = wc := ⟨_, rfl⟩
          go_cut [10] (fun v wx => v = .int .i64 B ∧ Below wp.heap.size wp wx)
          case first =>
            go_region_with (first
              | (go_at_call 46; refine (l14Step_any _ _ _ _ _ xs _ _ _ ((HX3.out.keep HB5.out).drewN 1) bx).mono ?_; rw [HT1.out]; rintro e w6 ⟨rfl, hb6⟩; have HB6 := Lib.hid ((below_drewN (Below.refl _ wp) 1).trans (hb6.mono (Nat.le_refl _))); clear hb6))
            all_goals (go_wp2_with fail; go_meet; exact ⟨rfl, HB6.out⟩)
          case rest =>
          obtain ⟨rfl, hb6⟩ := hcut
          have HB6 := Lib.hid (step2 HB5.out hb6)
          have Hol6 := Lib.hid (Hol5.out.keep hb6)
          have Hor6 := Lib.hid (Hor5.out.keep hb6)
          clear hb6 Hol5 Hor5 HB5 m0 m1 m2 hc6' HX3 HY3 HKX3 HKY3 HT1 HT2 HH HLX HLY
          by_cases ht0 : t = 0
          · have hA0 : A = 0 := by
              have h1 := HLZ.out.2 ht0
              have h2 := HA.out
              omega
            have hB0 : B = 0 := by
              have h2 := HB.out
              omega
            subst hA0
            subst hB0
            clear HA HB HLZ HTS ht0
            go_wp2_with fail
            go_loop [11, 12] (fun kn x => ∃ i : Nat, i ≤ rs2.length ∧ x = .int .i64 i ∧ kn = .bool true) (fun _ x => rs2.length - (intOf x).toNat)
            case atStart => exact ⟨0, Nat.zero_le _, rfl, rfl⟩
            case round =>
              obtain ⟨i, hi, rfl, rfl⟩ := hrel
              by_cases hil : i < rs2.length
              · go_wp2_with fail
                go_round
                case rel => exact ⟨i + 1, hil, by go_num, rfl⟩
                case measure => simp [intOf]; omega
              · go_wp2_with fail
                go_roundw
                case rel => exact ⟨rs2, l + 1, HLE.out, hk2, by go_num, Hol6.out, Hor6.out, Hap.out, HRS.out, HB6.out⟩
                case measure => have := HLE.out; (simp [intOf] <;> omega)
          · have hA1 : 0 < A := by
              have h1 : lf t ≠ 0 := fun e => ht0 (HLZ.out.1 e)
              have h2 := HA.out
              omega
            have hB1 : 0 < B := by
              have h2 := HB.out
              omega
            have dA : decide (0 < A) = true := decide_eq_true hA1
            have dB : decide (0 < B) = true := decide_eq_true hB1
            have dA0 : (A == 0) = false := beq_eq_false_iff_ne.2 (by omega)
            clear HLZ ht0 hA1 hB1
            go_wp2_with fail
            clear dA dB dA0
            go_loop [11, 12] (fun kn x => ∃ (i : Nat) (kb : Bool), i ≤ rs2.length ∧ x = .int .i64 i ∧ kn = .bool kb ∧ Hid (kb = true ↔ t ∈ rs2.take i)) (fun _ x => rs2.length - (intOf x).toNat)
            case atStart => exact ⟨0, false, Nat.zero_le _, rfl, rfl, (by show _ ↔ _; simp)⟩
            case round =>
              obtain ⟨i, kb, hi, rfl, rfl, hkb⟩ := hrel
              by_cases hil : i < rs2.length
              · obtain ⟨q, hq⟩ : ∃ q, rs2[i]? = some q := ⟨rs2[i], by simp [hil]⟩
                have HTM := Lib.hid (take_mem (t := t) hq)
                cases kb
                · obtain ⟨b7, o7, x7, e7, hc7, hg7⟩ := (OInts.readAllS Hol6.out).at_ (k := i) hil
                  injection e7 with e7
                  injection e7 with e71 e72
                  subst e71
                  subst e72
                  obtain ⟨b8, o8, x8, e8, hc8, hg8⟩ := (OInts.readAllS Hor6.out).at_ (k := i) hil
                  injection e8 with e8
                  injection e8 with e81 e82
                  subst e81
                  subst e82
                  have hx8 : x8 = (q : Int) := by
                    have h1 := hg8.out
                    rw [natL_get hq] at h1
                    injection h1 with h1
                    exact h1.symm
                  have hx7 : x7 = ((lf q : Nat) : Int) := by
                    have h1 := hg7.out
                    rw [natL_get (rs := rs2.map lf) (k := i) (r := lf q) (by simp [hq])] at h1
                    injection h1 with h1
                    exact h1.symm
                  by_cases hqt : q = t
                  · have hA7 : (x7 == A) = true := by rw [hx7, hqt, HA.out]; exact beq_self_eq_true _
                    have hB8 : (x8 == B) = true := by rw [hx8, hqt, HB.out]; exact beq_self_eq_true _
                    have HK : Hid (true = true ↔ t ∈ rs2.take (i + 1)) := ⟨fun _ => HTM.out.2 (.inr hqt), fun _ => rfl⟩
                    clear hx7 hx8 hqt hg7 hg8 hq hkb
                    go_wp2_with fail
                    go_round
                    case rel => exact ⟨i + 1, true, hil, by go_num, rfl, HK.out⟩
                    case measure => simp [intOf]; omega
                  · have hB8 : (x8 == B) = false := beq_eq_false_iff_ne.2 (by have := HB.out; omega)
                    have HK : Hid (false = true ↔ t ∈ rs2.take (i + 1)) := ⟨(fun e => by cases e), fun h => by
                      rcases HTM.out.1 h with h | h
                      · exact hkb.out.2 h
                      · exact absurd h hqt⟩
                    clear hx7 hx8 hqt hg7 hg8 hq hkb
                    cases hA7 : (x7 == A)
                    · go_wp2_with fail
                      go_round
                      case rel => exact ⟨i + 1, false, hil, by go_num, rfl, HK.out⟩
                      case measure => simp [intOf]; omega
                    · go_wp2_with fail
                      go_round
                      case rel => exact ⟨i + 1, false, hil, by go_num, rfl, HK.out⟩
                      case measure => simp [intOf]; omega
                · have HK : Hid (true = true ↔ t ∈ rs2.take (i + 1)) := ⟨fun _ => HTM.out.2 (.inl (hkb.out.1 rfl)), fun _ => rfl⟩
                  clear hq hkb
                  go_wp2_with fail
                  go_round
                  case rel => exact ⟨i + 1, true, hil, by go_num, rfl, HK.out⟩
                  case measure => simp [intOf]; omega
              · have hall : rs2.take i = rs2 := List.take_of_length_le (by omega)
                cases kb
                · have HNM : Hid (t ∉ rs2) := by
                    show _
                    intro h
                    rw [← hall] at h
                    have := hkb.out.2 h
                    cases this
                  clear hall hkb
                  go_wp2_with (first
                    | (at_builtin; refine wpList_push_at w7 _ rfl (.tmp 102) (.tmp 104) rfl w3.heap.size _ _ _ rfl HR7.out (by omega) (by exact HB7.out.size) _ rfl rfl ?_; intro v8 w8 ho8 hg8 hn8; have HR8 := Lib.hid ho8; have HL8 := Lib.hid (HL7.out.far hg8 (apart_symm HAP7.out)); have HAP8 := Lib.hid (hn8.apart (apart_symm HAP7.out) (fun b hb => (HL7.out.ltAll b hb).2)); have HB8 := Lib.hid (HB7.out.grown hg8 HB7.out.size (fun b hb => (HR7.out.ltAll b hb).1)); clear ho8 hg8 hn8)
                    | (at_builtin; refine wpList_push_at wc _ rfl (.tmp 98) (.tmp 100) rfl w3.heap.size _ _ _ rfl Hol6.out (by omega) (by exact HB6.out.size) _ rfl rfl ?_; intro v7 w7 ho7 hg7 hn7; have HL7 := Lib.hid ho7; have HR7 := Lib.hid (Hor6.out.far hg7 (apart_symm Hap.out)); have HAP7 := Lib.hid (hn7.apart (apart_symm Hap.out) (fun b hb => (Hor6.out.ltAll b hb).2)); have HB7 := Lib.hid (HB6.out.grown hg7 HB6.out.size (fun b hb => (Hol6.out.ltAll b hb).1)); clear ho7 hg7 hn7))
                  go_roundw
                  case rel => exact ⟨rs2 ++ [t], l + 1, HLE.out, by simp; omega, by go_num, (by have h := HL8.out; rw [← HA.out, natL_push] at h; simpa using h), (by have h := HR8.out; rw [← HB.out, natL_push] at h; simpa using h), HAP8.out, ⟨nodup_push HRS.out.1 HNM.out, fun r hr => (by rcases List.mem_append.1 hr with h | h; (· exact HRS.out.2 r h); (· rw [List.mem_singleton] at h; subst h; exact HTS.out))⟩, HB8.out⟩
                  case measure => have := HLE.out; (simp [intOf] <;> omega)
                · clear hall hkb
                  go_wp2_with fail
                  go_roundw
                  case rel => exact ⟨rs2, l + 1, HLE.out, hk2, by go_num, Hol6.out, Hor6.out, Hap.out, HRS.out, HB6.out⟩
                  case measure => have := HLE.out; (simp [intOf] <;> omega)
        · have hdl : decide ((l : Int) < (l0 : Int)) = false := decide_eq_false (by omega)
          go_wp2_with fail
          go_roundw
          case rel => exact ⟨rs2, k + 1, hk2, by go_num, Hol.out, Hor.out, Hap.out, HRS.out, Hbl.out⟩
          case measure => simp [intOf]; omega
    · go_wp2_with fail
      go_ret
      exact ⟨rfl, step2 HB3.out Hbl.out⟩
end Go.Proofs.Ytmkodbkbgpjgoaa
