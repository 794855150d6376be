/- SEnc: a part of the proofs of this seat. -/
import Derived.Test.YtmkodbkbgpjgoaaProg
import Derived.Test.YtmkodbkbgpjgoaaEG0b
import Derived.Test.YtmkodbkbgpjgoaaEG1a
import Derived.Test.YtmkodbkbgpjgoaaEG0c
import Derived.Test.YtmkodbkbgpjgoaaEG0a
namespace Go.Proofs.Ytmkodbkbgpjgoaa
open Go.RowKit
set_option linter.all false
set_option maxRecDepth 40000 in
set_option maxHeartbeats 12800000 in
theorem sEncodeBits_any (L S : Int) (ao : Option Addr) (n cap : Nat) (xs : List Ar) (p : Int) (s : ByteArray) (w : World) (h : Arcs w ao n xs) (hs : s.size ≤ 1048576) :
    Calls Try.prog 7 #[.agg #[.int .i64 L, .int .i64 S, .slice ao n cap], .int .i64 p, .string s] w fun e w' => e = .returned (.tuple #[.string (encS L S xs p s), .int .i64 (encQ L S xs p s), .bool (encOk L S xs p s)]) ∧ Below w.heap.size w w' := by
  have hm := h.2.1
  have HB1 := Lib.hid (below1 w (.cells #[.int .i64 L, .int .i64 S, .slice ao n cap] 26))
  have HA1 := Lib.hid (h.keep HB1.out)
  have HK1 := Lib.hid (Blk.new w 26 #[.int .i64 L, .int .i64 S, .slice ao n cap])
  clear h
  cases b0 : encOk L S xs p s
  · have e1 : encS L S xs p s = ByteArray.empty := by simp [encS, b0]
    have e2 : encQ L S xs p s = 0 := by simp [encQ, b0]
    rw [e1, e2]
    clear e1 e2
    cases b1 : isEnc L S xs
    · have B1 := Lib.hid b1
      clear b0 b1
      go_enter Try.func7, Try.ntmps7
      go_wp2_with fail
      generalize w.alloc (.cells #[.int .i64 L, .int .i64 S, .slice ao n cap] 26) = w1 at HB1 HA1 HK1 ⊢
      refine (sIsEncoder_any _ _ _ _ _ xs _ HA1.out).mono ?_
      rw [B1.out]
      rintro e w2 ⟨rfl, hb2⟩
      go_wp2_with fail
      go_ret3
      exact ⟨rfl, step2 HB1.out hb2⟩
    · have B1 := Lib.hid b1
      obtain ⟨_, hSr, _⟩ := isLab_get (isEnc_get b1).1
      obtain ⟨m, rfl⟩ : ∃ m : Nat, S = m := ⟨S.toNat, by omega⟩
      have hm12 : m ≤ 12 := by omega
      have HOK := Lib.hid b0
      have HE := Lib.hid b1
      clear b0 b1
      cases b2 : inR p 0 ((m : Int) - 1)
      · have B2 := Lib.hid b2
        clear b2
        go_enter Try.func7, Try.ntmps7
        go_wp2_with fail
        generalize w.alloc (.cells #[.int .i64 L, .int .i64 m, .slice ao n cap] 26) = w1 at HB1 HA1 HK1 ⊢
        refine (sIsEncoder_any _ _ _ _ _ xs _ HA1.out).mono ?_
        rw [B1.out]
        rintro e w2 ⟨rfl, hb2⟩
        have q := HK1.out.keep hb2
        have q0 := q.c0
        have q1 := q.c1
        have q2 := q.c2
        clear q
        go_wp2_with fail
        refine (l1In_any _ _ _ _).mono ?_
        rw [B2.out]
        rintro e w' ⟨rfl, rfl⟩
        go_wp2_with fail
        go_ret3
        exact ⟨rfl, step2 HB1.out hb2⟩
      · have B2 := Lib.hid b2
        have b3 : isWd 2 s = false := by
          have h := HOK.out
          rw [encOk, HE.out, b2] at h
          simpa using h
        have B3 := Lib.hid b3
        clear b2 b3
        go_enter Try.func7, Try.ntmps7
        go_wp2_with fail
        generalize w.alloc (.cells #[.int .i64 L, .int .i64 m, .slice ao n cap] 26) = w1 at HB1 HA1 HK1 ⊢
        refine (sIsEncoder_any _ _ _ _ _ xs _ HA1.out).mono ?_
        rw [B1.out]
        rintro e w2 ⟨rfl, hb2⟩
        have q := HK1.out.keep hb2
        have q0 := q.c0
        have q1 := q.c1
        have q2 := q.c2
        clear q
        go_wp2_with fail
        refine (l1In_any _ _ _ _).mono ?_
        rw [B2.out]
        rintro e w' ⟨rfl, rfl⟩
        go_wp2_with fail
        refine (sIsWord_any _ _ _ hs).mono ?_
        rw [B3.out]
        rintro e w' ⟨rfl, rfl⟩
        go_wp2_with fail
        go_ret3
        exact ⟨rfl, step2 HB1.out hb2⟩
  · have hb0 := b0
    simp only [encOk, Bool.and_eq_true] at hb0
    obtain ⟨b1, b2, b3⟩ := hb0
    obtain ⟨hlab, _, hmany⟩ := isEnc_get b1
    obtain ⟨hLr, hSr, hok⟩ := isLab_get hlab
    obtain ⟨m, rfl⟩ : ∃ m : Nat, S = m := ⟨S.toNat, by omega⟩
    have hm12 : m ≤ 12 := by omega
    have hpr := inR_true b2
    have hw := isWd_get b3
    have e1 : encS L m xs p s = strOf (encF xs s 0 s.size p).1 := by simp [encS, b0]
    have e2 : encQ L m xs p s = (encF xs s 0 s.size p).2 := by simp [encQ, b0]
    rw [e1, e2]
    have B1 := Lib.hid b1
    have B2 := Lib.hid b2
    have B3 := Lib.hid b3
    have HM := Lib.hid hmany
    have HW := Lib.hid hw
    have HOA := Lib.hid (okFrom_all hok)
    have HLr := Lib.hid hLr
    have hs16 : s.size ≤ 16 := hw.1
    clear b0 b1 b2 b3 e1 e2 hlab hmany hok hw hLr
    go_enter Try.func7, Try.ntmps7
    go_wp2_with fail
    generalize w.alloc (.cells #[.int .i64 L, .int .i64 m, .slice ao n cap] 26) = w1 at HB1 HA1 HK1 ⊢
    refine (sIsEncoder_any _ _ _ _ _ xs _ HA1.out).mono ?_
    rw [B1.out]
    rintro e w2 ⟨rfl, hb2⟩
    have HB2 := Lib.hid hb2
    have q := HK1.out.keep hb2
    have q0 := q.c0
    have q1 := q.c1
    have q2 := q.c2
    clear q hb2
    go_wp2_with fail
    refine (l1In_any _ _ _ _).mono ?_
    rw [B2.out]
    rintro e w' ⟨rfl, rfl⟩
    go_wp2_with fail
    refine (sIsWord_any _ _ _ hs).mono ?_
    rw [B3.out]
    rintro e w' ⟨rfl, rfl⟩
    go_wp2_with fail
    clear q0 q1 q2
    go_loopw [1, 9, 10] (fun pv sv iv wr => ∃ (i pn : Nat) (acc : List Int), i ≤ s.size ∧ pn < m ∧ Hid (acc.length = i) ∧ pv = .int .i64 pn ∧ sv = .string (strOf acc) ∧ iv = .int .i64 i ∧ Hid (acc ++ (encF xs s i (s.size - i) pn).1 = (encF xs s 0 s.size p).1 ∧ (encF xs s i (s.size - i) pn).2 = (encF xs s 0 s.size p).2) ∧ Below w1.heap.size w1 wr) (fun _ _ x _ => s.size - (intOf x).toNat)
    case atStart => exact ⟨0, p.toNat, [], Nat.zero_le _, by omega, rfl, by rw [Int.toNat_of_nonneg hpr.1], rfl, rfl, by rw [Int.toNat_of_nonneg hpr.1]; exact ⟨rfl, rfl⟩, HB2.out⟩
    case round =>
      obtain ⟨i, pn, acc, hi, hpn, hal, rfl, rfl, rfl, hr, hbl⟩ := hrel
      have HB := Lib.hid hbl
      have HAr := Lib.hid (HA1.out.keep hbl)
      have HK := Lib.hid (HK1.out.keep hbl)
      have hsz := hbl.size
      clear hbl
      by_cases hlt : i < s.size
      · have hwi := HW.out.2 i hlt
        obtain ⟨c, hc⟩ : ∃ c : Nat, s[i].toNat = 97 + c := ⟨s[i].toNat - 97, by have := bl_get hlt; omega⟩
        have hcb : bl s i - 97 = c := by have := bl_get hlt; omega
        have hc2 : c < 2 := by have := bl_get hlt; omega
        have h2 := HM.out pn (by omega)
        have hag := arm_get h2 hc2
        obtain ⟨t1, g1, k1⟩ := ix_get pn xs 0 c _ hag
        rw [Nat.zero_add] at g1
        obtain ⟨⟨y1, y2, y3⟩, hy⟩ : ∃ a, armA xs pn c = a := ⟨_, rfl⟩
        rw [hy] at k1 hag
        have hxr := arcB_get (HOA.out _ (List.mem_of_getElem? k1))
        have HST := Lib.hid (enc_step (x := y1) (y := y2) (z := y3) hlt (by rw [hcb]; exact hy) hr.out)
        have HG1 := Lib.hid g1
        have HK1' := Lib.hid k1
        have HXR := Lib.hid hxr
        have HLr2 := HLr.out
        obtain ⟨y2, rfl⟩ : ∃ q : Nat, y2 = q := ⟨y2.toNat, by omega⟩
        have hy2 : y2 < m := by omega
        have hy3 : 0 ≤ y3 ∧ y3 ≤ 2 := by omega
        clear g1 k1 hag hy hwi hcb hr HLr2 hxr
        have hcv : IntKind.i64.wrap (97 + (c : Int)) = 97 + (c : Int) := by rw [IntKind.wrap_i64]; omega
        have hcs : IntKind.i64.wrap (97 + (c : Int) - 97) = (c : Int) := by rw [IntKind.wrap_i64]; omega
        have hcw : IntKind.i64.wrap (c : Int) = (c : Int) := by rw [IntKind.wrap_i64]; omega
        have q0 := HK.out.c0
        have q1 := HK.out.c1
        have q2 := HK.out.c2
        go_wp2_with fail
        clear q0 q1 q2
        obtain ⟨ba, oa, rfl, c1, c2, c3⟩ := HAr.out.get HK1'.out
        have hn1 : t1 < n := by rw [← HAr.out.1]; exact (List.getElem?_eq_some_iff.1 HK1'.out).1
        have hSall : ∀ W, Below wr.heap.size wr W → (W.cell? ⟨w.heap.size, 0, none⟩ = some (.int .i64 L) ∧ W.cell? ⟨w.heap.size, 1, none⟩ = some (.int .i64 (m : Int)) ∧ W.cell? ⟨w.heap.size, 2, none⟩ = some (.slice (some ⟨ba, oa, none⟩) n cap) ∧ W.cell? ⟨ba, oa + t1 * 3, none⟩ = some (.int .i64 y1) ∧ W.cell? ⟨ba, oa + t1 * 3 + 1, none⟩ = some (.int .i64 (y2 : Int)) ∧ W.cell? ⟨ba, oa + t1 * 3 + 2, none⟩ = some (.int .i64 y3)) := by
          intro W hW
          have hK := HK.out.keep hW
          obtain ⟨ba', oa', e, d1, d2, d3⟩ := (HAr.out.keep hW).get HK1'.out
          simp only [Option.some.injEq, Addr.mk.injEq, and_true] at e
          obtain ⟨rfl, rfl⟩ := e
          exact ⟨hK.c0, hK.c1, hK.c2, d1, d2, d3⟩
        have HSA := Lib.hid hSall
        have HBw := Lib.hid HB.out
        have HBd : Hid (Below wr.heap.size wr wr.drew) := below_drewN (Below.refl _ wr) 1
        have HS0 := Lib.hid (HSA.out _ HBd.out)
        have HIL := Lib.hid (ix_len pn xs 0)
        have HH2 := Lib.hid h2
        have hcl : c < (fromL (pn : Nat) xs).length := by omega
        have hcl2 : (c : Int) < ((fromL (pn : Nat) xs).length : Int) := by omega
        have hc0 : (0 : Int) ≤ (c : Int) := by omega
        clear hSall c1 c2 c3 h2
        go_cut [11] (fun v wx => ∃ g, v = .pointer (some ⟨g, 0, none⟩) ∧ Blk wx g 55 #[.int .i64 y1, .int .i64 (y2 : Int), .int .i64 y3] ∧ Below w1.heap.size w1 wx)
        case first =>
          refine region_T (S := fun W => W.cell? ⟨w.heap.size, 0, none⟩ = some (.int .i64 L) ∧ W.cell? ⟨w.heap.size, 1, none⟩ = some (.int .i64 (m : Int)) ∧ W.cell? ⟨w.heap.size, 2, none⟩ = some (.slice (some ⟨ba, oa, none⟩) n cap) ∧ W.cell? ⟨ba, oa + t1 * 3, none⟩ = some (.int .i64 y1) ∧ W.cell? ⟨ba, oa + t1 * 3 + 1, none⟩ = some (.int .i64 (y2 : Int)) ∧ W.cell? ⟨ba, oa + t1 * 3 + 2, none⟩ = some (.int .i64 y3)) (t := 15) (by kernel_rfl) ?_
          refine anyT_take (i := 0) (v := ?v0) rfl (by kernel_rfl) (by kernel_rfl) (by kernel_rfl) (by kernel_rfl) (fun _ _ _ h => h) (Or.inl ⟨by rfl, ?hy0⟩) HS0.out ?rest0
          case hy0 =>
            intro W hSw
            (try dsimp only at hSw)
            obtain ⟨s0, s1, s2, s3, s4, s5⟩ := hSw
            go_simp
            try with_reducible rfl
          try simp only [Act.put, List.setIfInBounds_toArray, List.set_cons_zero, List.set_cons_succ]
          refine anyT_take (i := 1) (v := ?v1) rfl (by kernel_rfl) (by kernel_rfl) (by kernel_rfl) (by kernel_rfl) (fun _ _ _ h => h) (Or.inl ⟨by rfl, ?hy1⟩) HS0.out ?rest1
          case hy1 =>
            intro W hSw
            (try dsimp only at hSw)
            obtain ⟨s0, s1, s2, s3, s4, s5⟩ := hSw
            go_simp
            try with_reducible rfl
          try simp only [Act.put, List.setIfInBounds_toArray, List.set_cons_zero, List.set_cons_succ]
          refine anyT_take (i := 2) (v := ?v2) rfl (by kernel_rfl) (by kernel_rfl) (by kernel_rfl) (by kernel_rfl) (fun _ _ _ h => h) (Or.inl ⟨by rfl, ?hy2⟩) HS0.out ?rest2
          case hy2 =>
            intro W hSw
            (try dsimp only at hSw)
            obtain ⟨s0, s1, s2, s3, s4, s5⟩ := hSw
            go_simp
            try with_reducible rfl
          try simp only [Act.put, List.setIfInBounds_toArray, List.set_cons_zero, List.set_cons_succ]
          refine anyT_take (i := 3) (v := ?v3) rfl (by kernel_rfl) (by kernel_rfl) (by kernel_rfl) (by kernel_rfl) (fun _ _ _ h => h) (Or.inl ⟨by rfl, ?hy3⟩) HS0.out ?rest3
          case hy3 =>
            intro W hSw
            (try dsimp only at hSw)
            obtain ⟨s0, s1, s2, s3, s4, s5⟩ := hSw
            go_simp
            try with_reducible rfl
          try simp only [Act.put, List.setIfInBounds_toArray, List.set_cons_zero, List.set_cons_succ]
          refine anyT_take (i := 5) (v := ?v5) rfl (by kernel_rfl) (by kernel_rfl) (by kernel_rfl) (by kernel_rfl) (fun _ _ _ h => h) (Or.inl ⟨by rfl, ?hy5⟩) HS0.out ?rest5
          case hy5 =>
            intro W hSw
            (try dsimp only at hSw)
            obtain ⟨s0, s1, s2, s3, s4, s5⟩ := hSw
            go_simp
            try with_reducible rfl
          try simp only [Act.put, List.setIfInBounds_toArray, List.set_cons_zero, List.set_cons_succ]
          refine anyT_take (i := 6) (v := ?v6) rfl (by kernel_rfl) (by kernel_rfl) (by kernel_rfl) (by kernel_rfl) (fun _ _ _ h => h) (Or.inl ⟨by rfl, ?hy6⟩) HS0.out ?rest6
          case hy6 =>
            intro W hSw
            (try dsimp only at hSw)
            obtain ⟨s0, s1, s2, s3, s4, s5⟩ := hSw
            go_simp
            try with_reducible rfl
          try simp only [Act.put, List.setIfInBounds_toArray, List.set_cons_zero, List.set_cons_succ]
          refine anyT_take (i := 7) (v := ?v7) rfl (by kernel_rfl) (by kernel_rfl) (by kernel_rfl) (by kernel_rfl) (fun _ _ _ h => h) (Or.inl ⟨by rfl, ?hy7⟩) HS0.out ?rest7
          case hy7 =>
            intro W hSw
            (try dsimp only at hSw)
            obtain ⟨s0, s1, s2, s3, s4, s5⟩ := hSw
            go_simp
            try with_reducible rfl
          try simp only [Act.put, List.setIfInBounds_toArray, List.set_cons_zero, List.set_cons_succ]
          refine anyT_take (i := 8) (v := ?v8) rfl (by kernel_rfl) (by kernel_rfl) (by kernel_rfl) (by kernel_rfl) (fun _ _ _ h => h) (Or.inl ⟨by rfl, ?hy8⟩) HS0.out ?rest8
          case hy8 =>
            intro W hSw
            (try dsimp only at hSw)
            obtain ⟨s0, s1, s2, s3, s4, s5⟩ := hSw
            go_simp
            try with_reducible rfl
          try simp only [Act.put, List.setIfInBounds_toArray, List.set_cons_zero, List.set_cons_succ]
          refine anyT_take (i := 9) (v := ?v9) rfl (by kernel_rfl) (by kernel_rfl) (by kernel_rfl) (by kernel_rfl) (fun _ _ _ h => h) (Or.inl ⟨by rfl, ?hy9⟩) HS0.out ?rest9
          case hy9 =>
            intro W hSw
            (try dsimp only at hSw)
            obtain ⟨s0, s1, s2, s3, s4, s5⟩ := hSw
            go_simp
            try with_reducible rfl
          try simp only [Act.put, List.setIfInBounds_toArray, List.set_cons_zero, List.set_cons_succ]
          refine anyT_two (i := 4) (k := 14) (by kernel_rfl) rfl rfl (fun K hK => ?_) (fun K hK => ?_)
          · go_simp
            go_at_call 36
            refine (sArcs_any _ _ _ _ _ xs pn _ (HAr.out.keep HBd.out)).mono ?_
            rintro e w5 ⟨v5, rfl, ho5, hb5⟩
            obtain ⟨g5, c5, rfl⟩ := ho5.head (by have := HIL.out; omega)
            have i1 := ho5.cell c (by have := HIL.out; omega)
            have ei1 : (ixFrom (pn : Int) 0 xs).getD c 0 = (t1 : Int) := by simp [List.getD, HG1.out]
            rw [ei1] at i1
            rw [HIL.out]
            have Hi1 := Lib.hid i1
            have HB5 := Lib.hid (HBd.out.trans (hb5.mono HBd.out.size))
            have HS5 := Lib.hid (HSA.out _ HB5.out)
            clear ho5 hb5 ei1
            refine hK _ _ (fun _ => HS5.out) ?_
            clear hK K
            try simp only [Act.put, List.setIfInBounds_toArray, List.set_cons_zero, List.set_cons_succ]
            refine anyT_take (i := 10) (v := ?v101) rfl (by kernel_rfl) (by kernel_rfl) (by kernel_rfl) (by kernel_rfl) (fun _ _ _ h => h) (Or.inl ⟨by rfl, ?hy101⟩) HS5.out ?rest101
            case hy101 =>
              intro W hSw
              (try dsimp only at hSw)
              obtain ⟨s0, s1, s2, s3, s4, s5⟩ := hSw
              go_simp
              try with_reducible rfl
            try simp only [Act.put, List.setIfInBounds_toArray, List.set_cons_zero, List.set_cons_succ]
            have HBz := Lib.hid (HB5.out.alloc HB5.out.size (.cells #[.int .i64 0, .int .i64 0, .int .i64 0] 55))
            have HSz := Lib.hid (HSA.out _ HBz.out)
            have i1z := (below1 w5 (.cells #[.int .i64 0, .int .i64 0, .int .i64 0] 55)).cell (World.block_lt_of_cell? _ _ i1)
            rw [i1] at i1z
            refine anyT_two (i := 11) (k := 14) (by kernel_rfl) rfl rfl (fun K hK => ?_) (fun K hK => ?_)
            · clear i1z
              go_simp
              refine hK _ _ (fun _ => HS5.out) ?_
              clear hK K
              try simp only [Act.put, List.setIfInBounds_toArray, List.set_cons_zero, List.set_cons_succ]
              refine anyT_take (i := 12) (v := ?v102) rfl (by kernel_rfl) (by kernel_rfl) (by kernel_rfl) (by kernel_rfl) (fun _ _ _ h => h) (Or.inl ⟨by rfl, ?hy102⟩) HS5.out ?rest102
              case hy102 =>
                intro W hSw
                (try dsimp only at hSw)
                obtain ⟨s0, s1, s2, s3, s4, s5⟩ := hSw
                go_simp
                try with_reducible rfl
              try simp only [Act.put, List.setIfInBounds_toArray, List.set_cons_zero, List.set_cons_succ]
              refine anyT_take (i := 13) (v := ?v103) rfl (by kernel_rfl) (by kernel_rfl) (by kernel_rfl) (by kernel_rfl) (fun _ _ _ h => h) (Or.inl ⟨by rfl, ?hy103⟩) HS5.out ?rest103
              case hy103 =>
                intro W hSw
                (try dsimp only at hSw)
                obtain ⟨s0, s1, s2, s3, s4, s5⟩ := hSw
                go_simp
                try with_reducible rfl
              try simp only [Act.put, List.setIfInBounds_toArray, List.set_cons_zero, List.set_cons_succ]
              refine anyT_one (i := 14) (by kernel_rfl) rfl (fun K hK => ?_)
              go_simp
              refine hK _ _ (fun _ => HSz.out) ?_
              clear hK K
              try simp only [Act.put, List.setIfInBounds_toArray, List.set_cons_zero, List.set_cons_succ]
              refine anyT_one (i := 15) (by kernel_rfl) rfl (fun K hK => ?_)
              go_simp
              refine hK _ _ (fun h => absurd rfl h) ?_
              clear hK K
              refine anyT_done (by kernel_rfl) ?_
              go_wp2_with fail
              go_meet
              exact ⟨_, rfl, Blk.new w5 _ _, HBw.out.trans ((HB5.out.alloc (Nat.le_trans HB5.out.size (Nat.le_refl _)) _).mono hsz)⟩
            · go_simp
              refine hK _ _ (fun _ => HSz.out) ?_
              clear hK K
              try simp only [Act.put, List.setIfInBounds_toArray, List.set_cons_zero, List.set_cons_succ]
              refine anyT_one (i := 11) (by kernel_rfl) rfl (fun K hK => ?_)
              go_simp
              refine hK _ _ (fun _ => HSz.out) ?_
              clear hK K
              try simp only [Act.put, List.setIfInBounds_toArray, List.set_cons_zero, List.set_cons_succ]
              refine anyT_take (i := 12) (v := ?v104) rfl (by kernel_rfl) (by kernel_rfl) (by kernel_rfl) (by kernel_rfl) (fun _ _ _ h => h) (Or.inl ⟨by rfl, ?hy104⟩) HSz.out ?rest104
              case hy104 =>
                intro W hSw
                (try dsimp only at hSw)
                obtain ⟨s0, s1, s2, s3, s4, s5⟩ := hSw
                go_simp
                try with_reducible rfl
              try simp only [Act.put, List.setIfInBounds_toArray, List.set_cons_zero, List.set_cons_succ]
              refine anyT_take (i := 13) (v := ?v105) rfl (by kernel_rfl) (by kernel_rfl) (by kernel_rfl) (by kernel_rfl) (fun _ _ _ h => h) (Or.inl ⟨by rfl, ?hy105⟩) HSz.out ?rest105
              case hy105 =>
                intro W hSw
                (try dsimp only at hSw)
                obtain ⟨s0, s1, s2, s3, s4, s5⟩ := hSw
                go_simp
                try with_reducible rfl
              try simp only [Act.put, List.setIfInBounds_toArray, List.set_cons_zero, List.set_cons_succ]
              refine anyT_one (i := 15) (by kernel_rfl) rfl (fun K hK => ?_)
              go_simp
              refine hK _ _ (fun h => absurd rfl h) ?_
              clear hK K
              refine anyT_done (by kernel_rfl) ?_
              go_wp2_with fail
              go_meet
              exact ⟨_, rfl, Blk.new w5 _ _, HBw.out.trans ((HB5.out.alloc (Nat.le_trans HB5.out.size (Nat.le_refl _)) _).mono hsz)⟩
          · have HBz : Hid (Below wr.heap.size wr (wr.drew.alloc (.cells #[.int .i64 0, .int .i64 0, .int .i64 0] 55))) := HBd.out.alloc (Nat.le_refl _) _
            have HKz : Hid (Blk (wr.drew.alloc (.cells #[.int .i64 0, .int .i64 0, .int .i64 0] 55)) wr.heap.size 55 #[.int .i64 0, .int .i64 0, .int .i64 0]) := Blk.new wr.drew _ _
            go_simp
            refine hK _ _ (fun _ => HSA.out _ HBz.out) ?_
            clear hK K
            refine anyT_at (fun W => Below wr.heap.size wr W ∧ Blk W wr.heap.size 55 #[.int .i64 0, .int .i64 0, .int .i64 0]) ⟨HBz.out, HKz.out⟩ ?_
            clear HBz HKz
            rintro wz ⟨hbz, hkz⟩
            have HBz := Lib.hid hbz
            have HKz := Lib.hid hkz
            clear hbz hkz
            try simp only [Act.put, List.setIfInBounds_toArray, List.set_cons_zero, List.set_cons_succ]
            refine anyT_one (i := 4) (by kernel_rfl) rfl (fun K hK => ?_)
            go_simp
            go_at_call 36
            refine (sArcs_any _ _ _ _ _ xs pn _ (HAr.out.keep HBz.out)).mono ?_
            rintro e w5 ⟨v5, rfl, ho5, hb5⟩
            obtain ⟨g5, c5, rfl⟩ := ho5.head (by have := HIL.out; omega)
            have i1 := ho5.cell c (by have := HIL.out; omega)
            have ei1 : (ixFrom (pn : Int) 0 xs).getD c 0 = (t1 : Int) := by simp [List.getD, HG1.out]
            rw [ei1] at i1
            rw [HIL.out]
            have Hi1 := Lib.hid i1
            have HB5 := Lib.hid (HBz.out.trans (hb5.mono HBz.out.size))
            have HS5 := Lib.hid (HSA.out _ HB5.out)
            have HK5 := Lib.hid (HKz.out.keep hb5)
            clear ho5 hb5 ei1
            refine hK _ _ (fun _ => HS5.out) ?_
            clear hK K
            try simp only [Act.put, List.setIfInBounds_toArray, List.set_cons_zero, List.set_cons_succ]
            refine anyT_take (i := 10) (v := ?v106) rfl (by kernel_rfl) (by kernel_rfl) (by kernel_rfl) (by kernel_rfl) (fun _ _ _ h => h) (Or.inl ⟨by rfl, ?hy106⟩) HS5.out ?rest106
            case hy106 =>
              intro W hSw
              (try dsimp only at hSw)
              obtain ⟨s0, s1, s2, s3, s4, s5⟩ := hSw
              go_simp
              try with_reducible rfl
            try simp only [Act.put, List.setIfInBounds_toArray, List.set_cons_zero, List.set_cons_succ]
            refine anyT_one (i := 11) (by kernel_rfl) rfl (fun K hK => ?_)
            go_simp
            refine hK _ _ (fun _ => HS5.out) ?_
            clear hK K
            try simp only [Act.put, List.setIfInBounds_toArray, List.set_cons_zero, List.set_cons_succ]
            refine anyT_take (i := 12) (v := ?v107) rfl (by kernel_rfl) (by kernel_rfl) (by kernel_rfl) (by kernel_rfl) (fun _ _ _ h => h) (Or.inl ⟨by rfl, ?hy107⟩) HS5.out ?rest107
            case hy107 =>
              intro W hSw
              (try dsimp only at hSw)
              obtain ⟨s0, s1, s2, s3, s4, s5⟩ := hSw
              go_simp
              try with_reducible rfl
            try simp only [Act.put, List.setIfInBounds_toArray, List.set_cons_zero, List.set_cons_succ]
            refine anyT_take (i := 13) (v := ?v108) rfl (by kernel_rfl) (by kernel_rfl) (by kernel_rfl) (by kernel_rfl) (fun _ _ _ h => h) (Or.inl ⟨by rfl, ?hy108⟩) HS5.out ?rest108
            case hy108 =>
              intro W hSw
              (try dsimp only at hSw)
              obtain ⟨s0, s1, s2, s3, s4, s5⟩ := hSw
              go_simp
              try with_reducible rfl
            try simp only [Act.put, List.setIfInBounds_toArray, List.set_cons_zero, List.set_cons_succ]
            have b0 := HK5.out.c0
            have b1 := HK5.out.c1
            have b2 := HK5.out.c2
            have f0 := HK5.out.frozen 0
            have f1 := HK5.out.frozen 1
            have f2 := HK5.out.frozen 2
            refine anyT_one (i := 15) (by kernel_rfl) rfl (fun K hK => ?_)
            go_simp
            refine hK _ _ (fun h => absurd rfl h) ?_
            clear hK K
            refine anyT_done (by kernel_rfl) ?_
            go_wp2_with fail
            go_meet
            exact ⟨_, rfl, ((HK5.out.set 0 _).set 1 _).set 2 _, below_lab (HBw.out.trans (HB5.out.mono hsz)) hsz _ _ _⟩
        case rest =>
        obtain ⟨g, rfl, hblk, hbw⟩ := hcut
        have r0 := hblk.c0
        have r1 := hblk.c1
        have r2 := hblk.c2
        have hov : ¬ (9223372036854775807 < (strOf acc).size + (min (y3 + 1).toNat 3 - y3.toNat)) := by rw [strOf_size, hal.out]; omega
        have HSN := Lib.hid (strOf_abc acc y3 hy3)
        have HAL : Hid ((acc ++ [y3]).length = i + 1) := by show _ = _; rw [List.length_append, hal.out]; rfl
        clear hcl hcl2 hc0
        go_wp2_with fail
        go_roundw
        case rel => exact ⟨i + 1, y2, acc ++ [y3], hlt, hy2, HAL.out, rfl, by rw [HSN.out], by go_num, HST.out, hbw⟩
        case measure => simp [intOf]; omega
      · have HE := Lib.hid (enc_end (by omega) hr.out)
        clear hr
        go_wp2_with fail
        go_ret3
        exact ⟨by have h1 := HE.out.1; have h2 := HE.out.2; rw [h1, h2]; rfl, step2 HB1.out HB.out⟩
end Go.Proofs.Ytmkodbkbgpjgoaa
