/- SDec: a part of the proofs of this seat. -/
import Derived.Test.YtmkodbkbgpjgoaaProg
import Derived.Test.YtmkodbkbgpjgoaaEG0b
import Derived.Test.YtmkodbkbgpjgoaaEG1a
import Derived.Test.YtmkodbkbgpjgoaaEG0c
import Derived.Test.YtmkodbkbgpjgoaaEG0a
namespace Go.Proofs.Ytmkodbkbgpjgoaa
open Go.RowKit
set_option linter.all false
def fnd (A0 A1 : Bool) : Nat → Int
  | 0 => -1
  | 1 => if A0 then 0 else -1
  | _ => if A1 then 1 else if A0 then 0 else -1
set_option maxRecDepth 40000 in
set_option maxHeartbeats 12800000 in
theorem sDecodeWord_any (L S : Int) (ao : Option Addr) (n cap : Nat) (xs : List Ar) (p : Int) (s : ByteArray) (w : World) (h : Arcs w ao n xs) (hs : s.size ≤ 1048576) :
    Calls Try.prog 10 #[.agg #[.int .i64 L, .int .i64 S, .slice ao n cap], .int .i64 p, .string s] w fun e w' => e = .returned (.tuple #[.string (decS L S xs p s), .bool (decOk L S xs p s)]) ∧ Below w.heap.size w w' := by
  have hm := h.2.1
  have HB1 := Lib.hid (below1 w (.cells #[.int .i64 L, .int .i64 S, .slice ao n cap] 26))
  have HA1 := Lib.hid (h.keep HB1.out)
  have HK1 := Lib.hid (Blk.new w 26 #[.int .i64 L, .int .i64 S, .slice ao n cap])
  clear h
  cases b1 : isEnc L S xs
  · have B1 := Lib.hid b1
    have HO : Hid (decOk L S xs p s = false) := by show _ = _; simp [decOk, b1]
    have HE : Hid (decS L S xs p s = ByteArray.empty) := by show _ = _; simp [decS, HO.out]
    rw [HO.out, HE.out]
    clear b1
    go_enter Try.func10, Try.ntmps10
    go_wp2_with fail
    generalize w.alloc (.cells #[.int .i64 L, .int .i64 S, .slice ao n cap] 26) = w1 at HB1 HA1 HK1 ⊢
    refine (sIsEncoder_any _ _ _ _ _ xs _ HA1.out).mono ?_
    rw [B1.out]
    rintro e w2 ⟨rfl, hb2⟩
    go_wp2_with fail
    go_ret2
    exact ⟨rfl, step2 HB1.out hb2⟩
  have B1 := Lib.hid b1
  obtain ⟨hlab, hres, hmany⟩ := isEnc_get b1
  obtain ⟨hLr, hSr, hok⟩ := isLab_get hlab
  obtain ⟨m, rfl⟩ : ∃ m : Nat, S = m := ⟨S.toNat, by omega⟩
  have hm12 : m ≤ 12 := by omega
  have HM := Lib.hid hmany
  have HOA := Lib.hid (okFrom_all hok)
  have HTD : Hid (∀ (q : Nat) (a b : Ar), (fromL (q : Nat) xs)[0]? = some a → (fromL (q : Nat) xs)[1]? = some b → a.2.2 ≠ b.2.2) := by
    show ∀ q, _
    intro q a b h0 h1
    exact two_differ hok hres h0 h1
  have HLr := Lib.hid hLr
  have HE1 := Lib.hid b1
  clear hlab hres hmany hok hLr b1
  cases b2 : inR p 0 ((m : Int) - 1)
  · have B2 := Lib.hid b2
    have HO : Hid (decOk L m xs p s = false) := by show _ = _; simp [decOk, b2]
    have HE : Hid (decS L m xs p s = ByteArray.empty) := by show _ = _; simp [decS, HO.out]
    rw [HO.out, HE.out]
    clear b2
    go_enter Try.func10, Try.ntmps10
    go_wp2_with fail
    generalize w.alloc (.cells #[.int .i64 L, .int .i64 m, .slice ao n cap] 26) = w1 at HB1 HA1 HK1 ⊢
    refine (sIsEncoder_any _ _ _ _ _ xs _ HA1.out).mono ?_
    rw [B1.out]
    rintro e w2 ⟨rfl, hb2⟩
    have q := HK1.out.keep hb2
    have q0 := q.c0
    have q1 := q.c1
    have q2 := q.c2
    clear q
    go_wp2_with fail
    refine (l1In_any _ _ _ _).mono ?_
    rw [B2.out]
    rintro e w' ⟨rfl, rfl⟩
    go_wp2_with fail
    go_ret2
    exact ⟨rfl, step2 HB1.out hb2⟩
  have B2 := Lib.hid b2
  have hpr := inR_true b2
  cases b3 : isWd L s
  · have B3 := Lib.hid b3
    have HO : Hid (decOk L m xs p s = false) := by
      show _ = _
      cases hd : decOk L m xs p s
      · rfl
      · simp only [decOk, Bool.and_eq_true, decide_eq_true_eq] at hd
        have hw := dec_word (L := L) (m := m) (xs := xs) (s := s) (fun q c hq hc => by
          have hg := arm_get (HM.out q (by omega)) hc
          obtain ⟨t, _, ht⟩ := ix_get q xs 0 c _ hg
          have := arcB_get (s := (m : Int) - 1) (l := L - 1) (x := (armA xs q c).1) (y := (armA xs q c).2.1) (z := (armA xs q c).2.2) (HOA.out _ (List.mem_of_getElem? ht))
          omega) s.size 0 p.toNat (by omega) (by rw [Int.toNat_of_nonneg hpr.1]; exact hd.2.2.2)
        have hL := HLr.out
        have : isWd L s = true := by simp only [isWd, inR_mk hL, hw, Bool.and_self, Bool.and_true, Bool.true_and, decide_eq_true_eq]; exact hd.2.2.1
        rw [b3] at this
        cases this
    have HE : Hid (decS L m xs p s = ByteArray.empty) := by show _ = _; simp [decS, HO.out]
    rw [HO.out, HE.out]
    clear b2 b3 hpr
    go_enter Try.func10, Try.ntmps10
    go_wp2_with fail
    generalize w.alloc (.cells #[.int .i64 L, .int .i64 m, .slice ao n cap] 26) = w1 at HB1 HA1 HK1 ⊢
    refine (sIsEncoder_any _ _ _ _ _ xs _ HA1.out).mono ?_
    rw [B1.out]
    rintro e w2 ⟨rfl, hb2⟩
    have q := HK1.out.keep hb2
    have q0 := q.c0
    have q1 := q.c1
    have q2 := q.c2
    clear q
    go_wp2_with fail
    refine (l1In_any _ _ _ _).mono ?_
    rw [B2.out]
    rintro e w' ⟨rfl, rfl⟩
    go_wp2_with fail
    refine (sIsWord_any _ _ _ hs).mono ?_
    rw [B3.out]
    rintro e w' ⟨rfl, rfl⟩
    go_wp2_with fail
    go_ret2
    exact ⟨rfl, step2 HB1.out hb2⟩
  have B3 := Lib.hid b3
  have HW := Lib.hid (isWd_get b3)
  have hs16 : s.size ≤ 16 := HW.out.1
  clear b3
  obtain ⟨R, hR⟩ : ∃ R, decF xs s 0 s.size p = R := ⟨_, rfl⟩
  have HDR : Hid (Dr xs s 0 p [] R) := by rw [← hR]; exact dec_start xs s p
  have HO : Hid (decOk L m xs p s = R.isSome) := by show _ = _; simp [decOk, HE1.out, b2, hs16, hR]
  have HS : Hid (decS L m xs p s = resS R) := by show _ = _; rw [decS, HO.out, hR]; cases R <;> rfl
  rw [HO.out, HS.out]
  clear HO HS hR b2
  go_enter Try.func10, Try.ntmps10
  go_wp2_with fail
  generalize w.alloc (.cells #[.int .i64 L, .int .i64 m, .slice ao n cap] 26) = w1 at HB1 HA1 HK1 ⊢
  refine (sIsEncoder_any _ _ _ _ _ xs _ HA1.out).mono ?_
  rw [B1.out]
  rintro e w2 ⟨rfl, hb2⟩
  have HB2 := Lib.hid hb2
  have q := HK1.out.keep hb2
  have q0 := q.c0
  have q1 := q.c1
  have q2 := q.c2
  clear q hb2
  go_wp2_with fail
  refine (l1In_any _ _ _ _).mono ?_
  rw [B2.out]
  rintro e w' ⟨rfl, rfl⟩
  go_wp2_with fail
  refine (sIsWord_any _ _ _ hs).mono ?_
  rw [B3.out]
  rintro e w' ⟨rfl, rfl⟩
  go_wp2_with fail
  clear q0 q1 q2
  go_loopw [1, 8, 9] (fun pv sv iv wr => ∃ (i pn : Nat) (acc : List Int), i ≤ s.size ∧ pn < m ∧ Hid (acc.length = i) ∧ pv = .int .i64 pn ∧ sv = .string (strOf acc) ∧ iv = .int .i64 i ∧ Hid (Dr xs s i pn acc R) ∧ Below w1.heap.size w1 wr) (fun _ _ x _ => s.size - (intOf x).toNat)
  case atStart => exact ⟨0, p.toNat, [], Nat.zero_le _, by omega, rfl, by rw [Int.toNat_of_nonneg hpr.1], rfl, rfl, by rw [Int.toNat_of_nonneg hpr.1]; exact HDR.out, HB2.out⟩
  case round =>
      obtain ⟨i, pn, acc, hi, hpn, hal, rfl, rfl, rfl, hr, hbl⟩ := hrel
      have HB := Lib.hid hbl
      have HAr := Lib.hid (HA1.out.keep hbl)
      have HK := Lib.hid (HK1.out.keep hbl)
      have hsz := hbl.size
      clear hbl
      by_cases hlt : i < s.size
      · skip
        have hwi := HW.out.2 i hlt
        obtain ⟨c, hc⟩ : ∃ c : Nat, s[i].toNat = 97 + c := ⟨s[i].toNat - 97, by have := bl_get hlt; omega⟩
        have hcb : bl s i = 97 + c := (bl_get hlt).trans hc
        have hc2 : c < 159 := by have := bl_lt s i; omega
        have HCB := Lib.hid hcb
        have h2 := HM.out pn (by omega)
        have hag0 := arm_get h2 (show 0 < 2 by omega)
        have hag1 := arm_get h2 (show 1 < 2 by omega)
        obtain ⟨⟨x1, x2, x3⟩, hx⟩ : ∃ a, armA xs pn 0 = a := ⟨_, rfl⟩
        obtain ⟨⟨y1, y2, y3⟩, hy⟩ : ∃ a, armA xs pn 1 = a := ⟨_, rfl⟩
        rw [hx] at hag0
        rw [hy] at hag1
        have HX := Lib.hid hx
        have HY := Lib.hid hy
        obtain ⟨t0, g0, k0⟩ := ix_get pn xs 0 0 _ hag0
        obtain ⟨t1, g1, k1⟩ := ix_get pn xs 0 1 _ hag1
        rw [Nat.zero_add] at g0 g1
        have hxr := arcB_get (HOA.out _ (List.mem_of_getElem? k0))
        have hyr := arcB_get (HOA.out _ (List.mem_of_getElem? k1))
        obtain ⟨x2, rfl⟩ : ∃ q : Nat, x2 = q := ⟨x2.toNat, by omega⟩
        obtain ⟨y2, rfl⟩ : ∃ q : Nat, y2 = q := ⟨y2.toNat, by omega⟩
        have hx2 : x2 < m := by omega
        have hy2 : y2 < m := by omega
        have hx3 : 0 ≤ x3 ∧ x3 ≤ 2 := by have := HLr.out; omega
        have hy3 : 0 ≤ y3 ∧ y3 ≤ 2 := by have := HLr.out; omega
        have hne := HTD.out pn _ _ hag0 hag1
        have HNE : Hid (x3 ≠ y3) := hne
        have HG0 := Lib.hid g0
        have HG1 := Lib.hid g1
        have HK0 := Lib.hid k0
        have HK1' := Lib.hid k1
        have HA0 := Lib.hid hag0
        have HAy := Lib.hid hag1
        clear g0 g1 k0 k1 hag0 hag1 hx hy hwi hcb hxr hyr hne
        have q0 := HK.out.c0
        have q1 := HK.out.c1
        have q2 := HK.out.c2
        go_wp2_with fail
        clear q0 q1 q2
        refine (sArcs_any _ _ _ _ _ xs pn _ HAr.out).mono ?_
        rintro e w5 ⟨v5, rfl, ho5, hb5⟩
        have hil := ix_len pn xs 0
        obtain ⟨g5, c5, rfl⟩ := ho5.head (by omega)
        have i0 := ho5.cell 0 (by omega)
        have i1 := ho5.cell 1 (by omega)
        have ei0 : (ixFrom (pn : Int) 0 xs).getD 0 0 = (t0 : Int) := by simp [List.getD, HG0.out]
        have ei1 : (ixFrom (pn : Int) 0 xs).getD 1 0 = (t1 : Int) := by simp [List.getD, HG1.out]
        rw [ei0] at i0
        rw [ei1] at i1
        rw [hil]
        have HAr5 := Lib.hid (HAr.out.keep hb5)
        have q2 := (HK.out.keep hb5).c2
        have HB5 := Lib.hid (HB.out.trans (hb5.mono hsz))
        obtain ⟨ba, oa, rfl, c1, c2, c3⟩ := HAr5.out.get HK0.out
        obtain ⟨ba2, oa2, ea, d1, d2, d3⟩ := HAr5.out.get HK1'.out
        simp only [Option.some.injEq, Addr.mk.injEq, and_true] at ea
        obtain ⟨rfl, rfl⟩ := ea
        have hn0 : t0 < n := by rw [← HAr5.out.1]; exact (List.getElem?_eq_some_iff.1 HK0.out).1
        have hn1 : t1 < n := by rw [← HAr5.out.1]; exact (List.getElem?_eq_some_iff.1 HK1'.out).1
        have hf0 : (0 : Int) < ((fromL (pn : Nat) xs).length : Int) := by omega
        have hf1 : (1 : Int) < ((fromL (pn : Nat) xs).length : Int) := by omega
        have hf2 : 1 < (fromL (pn : Nat) xs).length := by omega
        have hf3 : 0 < (fromL (pn : Nat) xs).length := by omega
        have hcv : IntKind.i64.wrap (97 + (c : Int)) = 97 + (c : Int) := by rw [IntKind.wrap_i64]; omega
        have hcs : IntKind.i64.wrap (97 + (c : Int) - 97) = (c : Int) := by rw [IntKind.wrap_i64]; omega
        have hcw : IntKind.i64.wrap (c : Int) = (c : Int) := by rw [IntKind.wrap_i64]; omega
        clear ho5 hb5 ei0 ei1 hil
        generalize (fromL (pn : Nat) xs).length = fl at h2 hf0 hf1 hf2 hf3 ⊢
        go_wp2_with fail
        obtain ⟨A0, hA0⟩ : ∃ A : Bool, (x3 == (c : Int)) = A := ⟨_, rfl⟩
        obtain ⟨A1, hA1⟩ : ∃ A : Bool, (y3 == (c : Int)) = A := ⟨_, rfl⟩
        go_loopw [11, 12] (fun fv kv wq => ∃ k : Nat, k ≤ 2 ∧ kv = .int .i64 k ∧ fv = .int .i64 (fnd A0 A1 k) ∧ Drew w5 wq) (fun _ k _ => 2 - (intOf k).toNat)
        case atStart => exact ⟨0, by omega, rfl, rfl, Drew.refl _⟩
        case round =>
          obtain ⟨k, hk, rfl, rfl, q, rfl⟩ := hrel
          have hk3 : k = 0 ∨ k = 1 ∨ k = 2 := by omega
          rcases hk3 with rfl | rfl | rfl
          · go_wp2_with fail
            go_quiet (fail)
            cases A0
            · go_wp2_with fail
              go_roundw
              case rel => exact ⟨1, by omega, by rfl, by rfl, (by first | exact Drew.refl _ | exact Drew.mk _ _ | exact (Drew.mk _ _).drewN _)⟩
              case measure => simp [intOf]
            · go_wp2_with fail
              go_roundw
              case rel => exact ⟨1, by omega, by rfl, by rfl, (by first | exact Drew.refl _ | exact Drew.mk _ _ | exact (Drew.mk _ _).drewN _)⟩
              case measure => simp [intOf]
          · go_wp2_with fail
            go_quiet (fail)
            cases A1
            · go_wp2_with fail
              go_roundw
              case rel => exact ⟨2, by omega, by rfl, by rfl, (by first | exact Drew.refl _ | exact Drew.mk _ _ | exact (Drew.mk _ _).drewN _)⟩
              case measure => simp [intOf]
            · go_wp2_with fail
              go_roundw
              case rel => exact ⟨2, by omega, by rfl, by rfl, (by first | exact Drew.refl _ | exact Drew.mk _ _ | exact (Drew.mk _ _).drewN _)⟩
              case measure => simp [intOf]
          · have HBq := Lib.hid (below_drewN HB5.out q)
            have hov : ¬ (9223372036854775807 < (strOf acc).size + 1) := by rw [strOf_size, hal.out]; omega
            have hov2 : ¬ (9223372036854775807 ≤ (strOf acc).size) := by rw [strOf_size, hal.out]; omega
            have hov3 : (strOf acc).size < 9223372036854775807 := by rw [strOf_size, hal.out]; omega
            have hov4 : (strOf acc).size + 1 ≤ 9223372036854775807 := by rw [strOf_size, hal.out]; omega
            cases A0
            · cases A1
              · have HN := Lib.hid (dec_no hlt HX.out (by have := HCB.out; simp at hA0; omega) HY.out (by have := HCB.out; simp at hA1; omega) hr.out)
                clear hA0 hA1 hr
                have hfn : fnd false false 2 = -1 := rfl
                go_wp2_with fail
                go_ret2
                exact ⟨by rw [HN.out]; rfl, step2 HB1.out (by first | exact HBq.out | exact below_drewN HB5.out _)⟩
              · have HN := Lib.hid (dec_1 hlt HX.out (by have := HCB.out; simp at hA0; omega) HY.out (by have := HCB.out; simp at hA1; omega) hr.out)
                clear hA0 hA1 hr
                have hfn : fnd false true 2 = 1 := rfl
                go_wp2_with fail
                go_quiet (fail)
                go_wp2_with fail
                go_roundw
                case rel =>
                  refine ⟨i + 1, y2, acc ++ [1], hlt, hy2, (by show _ = _; rw [List.length_append, hal.out]; rfl), rfl, ?_, by go_num, HN.out, (by first | exact below_drewN HB5.out _ | exact below_drewN (below_drewN HB5.out _) _)⟩
                  exact congrArg Value.string (strOf_ab1 acc)
                case measure => simp [intOf]; omega
            · have HN := Lib.hid (dec_0 hlt HX.out (by have := HCB.out; simp at hA0; omega) hr.out)
              have hA1f : A1 = false := by
                cases A1
                · rfl
                · exact absurd (by simp at hA0 hA1; omega) HNE.out
              subst hA1f
              clear hA0 hA1 hr
              have hfn : fnd true false 2 = 0 := rfl
              go_wp2_with fail
              go_quiet (fail)
              go_wp2_with fail
              go_roundw
              case rel =>
                refine ⟨i + 1, x2, acc ++ [0], hlt, hx2, (by show _ = _; rw [List.length_append, hal.out]; rfl), rfl, ?_, by go_num, HN.out, (by first | exact below_drewN HB5.out _ | exact below_drewN (below_drewN HB5.out _) _)⟩
                exact congrArg Value.string (strOf_ab0 acc)
              case measure => simp [intOf]; omega
      · have HE := Lib.hid (dec_end (by omega) hr.out)
        clear hr
        go_wp2_with fail
        go_ret2
        exact ⟨by rw [HE.out]; rfl, step2 HB1.out HB.out⟩
end Go.Proofs.Ytmkodbkbgpjgoaa
