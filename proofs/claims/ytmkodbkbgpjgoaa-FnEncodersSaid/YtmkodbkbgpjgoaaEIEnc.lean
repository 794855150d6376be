/- IEnc: a part of the proofs of this seat. -/
import Derived.Test.YtmkodbkbgpjgoaaProg
import Derived.Test.YtmkodbkbgpjgoaaEG0b
import Derived.Test.YtmkodbkbgpjgoaaEG1a
import Derived.Test.YtmkodbkbgpjgoaaEG0c
import Derived.Test.YtmkodbkbgpjgoaaEG0a
namespace Go.Proofs.Ytmkodbkbgpjgoaa
open Go.RowKit
set_option linter.all false
set_option maxRecDepth 40000 in
set_option maxHeartbeats 12800000 in
theorem iEncodeBits_any (L S : Int) (ao : Option Addr) (n cap : Nat) (xs : List Ar) (p : Int) (s : ByteArray) (w : World) (h : Arcs w ao n xs) (hs : s.size ≤ 1048576) :
    Calls Try.prog 6 #[.agg #[.int .i64 L, .int .i64 S, .slice ao n cap], .int .i64 p, .string s] w fun e w' => e = .returned (.tuple #[.string (encS L S xs p s), .int .i64 (encQ L S xs p s), .bool (encOk L S xs p s)]) ∧ Below w.heap.size w w' := by
  have hm := h.2.1
  have HB1 := Lib.hid (below1 w (.cells #[.int .i64 L, .int .i64 S, .slice ao n cap] 26))
  have HA1 := Lib.hid (h.keep HB1.out)
  have HK1 := Lib.hid (Blk.new w 26 #[.int .i64 L, .int .i64 S, .slice ao n cap])
  clear h
  cases b0 : encOk L S xs p s
  · have e1 : encS L S xs p s = ByteArray.empty := by simp [encS, b0]
    have e2 : encQ L S xs p s = 0 := by simp [encQ, b0]
    rw [e1, e2]
    clear e1 e2
    cases b1 : isEnc L S xs
    · have B1 := Lib.hid b1
      clear b0 b1
      go_enter Try.func6, Try.ntmps6
      go_wp2_with fail
      generalize w.alloc (.cells #[.int .i64 L, .int .i64 S, .slice ao n cap] 26) = w1 at HB1 HA1 HK1 ⊢
      refine (iIsEncoder_any _ _ _ _ _ xs _ HA1.out).mono ?_
      rw [B1.out]
      rintro e w2 ⟨rfl, hb2⟩
      go_wp2_with fail
      go_ret3
      exact ⟨rfl, step2 HB1.out hb2⟩
    · have B1 := Lib.hid b1
      obtain ⟨_, hSr, _⟩ := isLab_get (isEnc_get b1).1
      obtain ⟨m, rfl⟩ : ∃ m : Nat, S = m := ⟨S.toNat, by omega⟩
      have hm12 : m ≤ 12 := by omega
      have HOK := Lib.hid b0
      have HE := Lib.hid b1
      clear b0 b1
      cases b2 : inR p 0 ((m : Int) - 1)
      · rcases inR_false b2 with hp | hp
        · have d1 : decide (p < 0) = true := decide_eq_true hp
          clear b2 hp
          go_enter Try.func6, Try.ntmps6
          go_wp2_with fail
          generalize w.alloc (.cells #[.int .i64 L, .int .i64 m, .slice ao n cap] 26) = w1 at HB1 HA1 HK1 ⊢
          refine (iIsEncoder_any _ _ _ _ _ xs _ HA1.out).mono ?_
          rw [B1.out]
          rintro e w2 ⟨rfl, hb2⟩
          have q := HK1.out.keep hb2
          have q0 := q.c0
          have q1 := q.c1
          have q2 := q.c2
          clear q
          go_wp2_with fail
          go_ret3
          exact ⟨rfl, step2 HB1.out hb2⟩
        · have d1 : decide (p < 0) = false := decide_eq_false (by omega)
          have d2 : decide ((m : Int) ≤ p) = true := decide_eq_true (by omega)
          clear b2 hp
          go_enter Try.func6, Try.ntmps6
          go_wp2_with fail
          generalize w.alloc (.cells #[.int .i64 L, .int .i64 m, .slice ao n cap] 26) = w1 at HB1 HA1 HK1 ⊢
          refine (iIsEncoder_any _ _ _ _ _ xs _ HA1.out).mono ?_
          rw [B1.out]
          rintro e w2 ⟨rfl, hb2⟩
          have q := HK1.out.keep hb2
          have q0 := q.c0
          have q1 := q.c1
          have q2 := q.c2
          clear q
          go_wp2_with fail
          go_ret3
          exact ⟨rfl, step2 HB1.out hb2⟩
      · have hpr := inR_true b2
        have d1 : decide (p < 0) = false := decide_eq_false (by omega)
        have d2 : decide ((m : Int) ≤ p) = false := decide_eq_false (by omega)
        have b3 : isWd 2 s = false := by
          have h := HOK.out
          rw [encOk, HE.out, b2] at h
          simpa using h
        have B3 := Lib.hid b3
        clear b2 b3 hpr
        go_enter Try.func6, Try.ntmps6
        go_wp2_with fail
        generalize w.alloc (.cells #[.int .i64 L, .int .i64 m, .slice ao n cap] 26) = w1 at HB1 HA1 HK1 ⊢
        refine (iIsEncoder_any _ _ _ _ _ xs _ HA1.out).mono ?_
        rw [B1.out]
        rintro e w2 ⟨rfl, hb2⟩
        have q := HK1.out.keep hb2
        have q0 := q.c0
        have q1 := q.c1
        have q2 := q.c2
        clear q
        go_wp2_with fail
        refine (iIsWord_any _ _ _ hs).mono ?_
        rw [B3.out]
        rintro e w' ⟨rfl, rfl⟩
        go_wp2_with fail
        go_ret3
        exact ⟨rfl, step2 HB1.out hb2⟩
  · have hb0 := b0
    simp only [encOk, Bool.and_eq_true] at hb0
    obtain ⟨b1, b2, b3⟩ := hb0
    obtain ⟨hlab, _, hmany⟩ := isEnc_get b1
    obtain ⟨hLr, hSr, hok⟩ := isLab_get hlab
    obtain ⟨m, rfl⟩ : ∃ m : Nat, S = m := ⟨S.toNat, by omega⟩
    have hm12 : m ≤ 12 := by omega
    have hpr := inR_true b2
    have hw := isWd_get b3
    have e1 : encS L m xs p s = strOf (encF xs s 0 s.size p).1 := by simp [encS, b0]
    have e2 : encQ L m xs p s = (encF xs s 0 s.size p).2 := by simp [encQ, b0]
    rw [e1, e2]
    have B1 := Lib.hid b1
    have B2 := Lib.hid b2
    have B3 := Lib.hid b3
    have HM := Lib.hid hmany
    have HW := Lib.hid hw
    have HOA := Lib.hid (okFrom_all hok)
    have HLr := Lib.hid hLr
    have hs16 : s.size ≤ 16 := hw.1
    clear b0 b1 b2 b3 e1 e2 hlab hmany hok hw hLr
    have d1 : decide (p < 0) = false := decide_eq_false (by omega)
    have d2 : decide ((m : Int) ≤ p) = false := decide_eq_false (by omega)
    go_enter Try.func6, Try.ntmps6
    go_wp2_with fail
    generalize w.alloc (.cells #[.int .i64 L, .int .i64 m, .slice ao n cap] 26) = w1 at HB1 HA1 HK1 ⊢
    refine (iIsEncoder_any _ _ _ _ _ xs _ HA1.out).mono ?_
    rw [B1.out]
    rintro e w2 ⟨rfl, hb2⟩
    have HB2 := Lib.hid hb2
    have q := HK1.out.keep hb2
    have q0 := q.c0
    have q1 := q.c1
    have q2 := q.c2
    have HO2 := Lib.hid (OBytes.empty w2 w1.heap.size hb2.size)
    have HB3 := Lib.hid (step2 hb2 (below1 w2 (.cells #[] 5)))
    clear q hb2
    go_wp2_with fail
    refine (iIsWord_any _ _ _ hs).mono ?_
    rw [B3.out]
    rintro e w' ⟨rfl, rfl⟩
    go_wp2_with fail
    clear q0 q1 q2
    go_loopw [1, 9, 33] (fun pv sv iv wr => ∃ (i pn : Nat) (acc : List Int), i ≤ s.size ∧ pn < m ∧ Hid (acc.length = i) ∧ Hid (∀ l ∈ acc, 0 ≤ l) ∧ pv = .int .i64 pn ∧ OBytes wr w1.heap.size sv i (acc.map (fun l => 97 + l)) ∧ iv = .int .i64 i ∧ Hid (acc ++ (encF xs s i (s.size - i) pn).1 = (encF xs s 0 s.size p).1 ∧ (encF xs s i (s.size - i) pn).2 = (encF xs s 0 s.size p).2) ∧ Below w1.heap.size w1 wr) (fun _ _ x _ => s.size - (intOf x).toNat)
    case atStart => exact ⟨0, p.toNat, [], Nat.zero_le _, by omega, rfl, (by show ∀ l, _; simp), by rw [Int.toNat_of_nonneg hpr.1], HO2.out, rfl, by rw [Int.toNat_of_nonneg hpr.1]; exact ⟨rfl, rfl⟩, HB3.out⟩
    case round =>
      obtain ⟨i, pn, acc, hi, hpn, hal, hnn, rfl, ho, rfl, hr, hbl⟩ := hrel
      obtain ⟨aa, ca, rfl⟩ := ho.form
      have HOb := Lib.hid ho
      have HB := Lib.hid hbl
      have HAr := Lib.hid (HA1.out.keep hbl)
      have HK := Lib.hid (HK1.out.keep hbl)
      have hsz := hbl.size
      clear hbl ho
      by_cases hlt : i < s.size
      · have hwi := HW.out.2 i hlt
        obtain ⟨c, hc⟩ : ∃ c : Nat, s[i].toNat = 97 + c := ⟨s[i].toNat - 97, by have := bl_get hlt; omega⟩
        have hcb : bl s i - 97 = c := by have := bl_get hlt; omega
        have hc2 : c < 2 := by have := bl_get hlt; omega
        have h2 := HM.out pn (by omega)
        have hag := arm_get h2 hc2
        obtain ⟨t1, _, k1⟩ := ix_get pn xs 0 c _ hag
        obtain ⟨⟨y1, y2, y3⟩, hy⟩ : ∃ a, armA xs pn c = a := ⟨_, rfl⟩
        rw [hy] at k1 hag
        have hxr := arcB_get (HOA.out _ (List.mem_of_getElem? k1))
        have HST := Lib.hid (enc_step (x := y1) (y := y2) (z := y3) hlt (by rw [hcb]; exact hy) hr.out)
        have HAG := Lib.hid hag
        have HLr2 := HLr.out
        obtain ⟨y2, rfl⟩ : ∃ q : Nat, y2 = q := ⟨y2.toNat, by omega⟩
        have hy2 : y2 < m := by omega
        have hy3 : 0 ≤ y3 ∧ y3 ≤ 2 := by omega
        clear k1 hag hy hwi hcb hr HLr2 hxr
        have hcs : IntKind.u8.wrap (97 + (c : Int) - 97) = (c : Int) := by rw [IntKind.wrap_u8]; omega
        have hcw : IntKind.u8.wrap (c : Int) = (c : Int) := by rw [IntKind.wrap_u8]; omega
        have q0 := HK.out.c0
        have q1 := HK.out.c1
        have q2 := HK.out.c2
        go_wp2_with fail
        clear q0 q1 q2
        have hSall : ∀ W, Below wr.heap.size wr W → (W.cell? ⟨w.heap.size, 0, none⟩ = some (.int .i64 L) ∧ W.cell? ⟨w.heap.size, 1, none⟩ = some (.int .i64 (m : Int)) ∧ W.cell? ⟨w.heap.size, 2, none⟩ = some (.slice ao n cap)) := by
          intro W hW
          have hK := HK.out.keep hW
          exact ⟨hK.c0, hK.c1, hK.c2⟩
        have HSA := Lib.hid hSall
        have HBw := Lib.hid HB.out
        have HBd : Hid (Below wr.heap.size wr wr.drew) := below_drewN (Below.refl _ wr) 1
        have HS0 := Lib.hid (HSA.out _ HBd.out)
        have HH2 := Lib.hid h2
        have hcl : c < (fromL (pn : Nat) xs).length := by omega
        have hcl2 : (c : Int) < ((fromL (pn : Nat) xs).length : Int) := by omega
        have hc0 : (0 : Int) ≤ (c : Int) := by omega
        clear hSall h2
        go_cut [11] (fun v wx => ∃ g, v = .pointer (some ⟨g, 0, none⟩) ∧ Blk wx g 55 #[.int .i64 y1, .int .i64 (y2 : Int), .int .i64 y3] ∧ Below wr.heap.size wr wx ∧ wr.heap.size ≤ g)
        case first =>
          refine region_T (S := fun W => W.cell? ⟨w.heap.size, 0, none⟩ = some (.int .i64 L) ∧ W.cell? ⟨w.heap.size, 1, none⟩ = some (.int .i64 (m : Int)) ∧ W.cell? ⟨w.heap.size, 2, none⟩ = some (.slice ao n cap)) (t := 10) (by kernel_rfl) ?_
          refine anyT_take (i := 0) (v := ?v111) rfl (by kernel_rfl) (by kernel_rfl) (by kernel_rfl) (by kernel_rfl) (fun _ _ _ h => h) (Or.inl ⟨by rfl, ?hy111⟩) HS0.out ?rest111
          case hy111 =>
            intro W hSw
            (try dsimp only at hSw)
            obtain ⟨s0, s1, s2⟩ := hSw
            go_simp
            try with_reducible rfl
          try simp only [Act.put, List.setIfInBounds_toArray, List.set_cons_zero, List.set_cons_succ]
          refine anyT_take (i := 1) (v := ?v112) rfl (by kernel_rfl) (by kernel_rfl) (by kernel_rfl) (by kernel_rfl) (fun _ _ _ h => h) (Or.inl ⟨by rfl, ?hy112⟩) HS0.out ?rest112
          case hy112 =>
            intro W hSw
            (try dsimp only at hSw)
            obtain ⟨s0, s1, s2⟩ := hSw
            go_simp
            try with_reducible rfl
          try simp only [Act.put, List.setIfInBounds_toArray, List.set_cons_zero, List.set_cons_succ]
          refine anyT_take (i := 3) (v := ?v113) rfl (by kernel_rfl) (by kernel_rfl) (by kernel_rfl) (by kernel_rfl) (fun _ _ _ h => h) (Or.inl ⟨by rfl, ?hy113⟩) HS0.out ?rest113
          case hy113 =>
            intro W hSw
            (try dsimp only at hSw)
            obtain ⟨s0, s1, s2⟩ := hSw
            go_simp
            try with_reducible rfl
          try simp only [Act.put, List.setIfInBounds_toArray, List.set_cons_zero, List.set_cons_succ]
          refine anyT_take (i := 4) (v := ?v114) rfl (by kernel_rfl) (by kernel_rfl) (by kernel_rfl) (by kernel_rfl) (fun _ _ _ h => h) (Or.inl ⟨by rfl, ?hy114⟩) HS0.out ?rest114
          case hy114 =>
            intro W hSw
            (try dsimp only at hSw)
            obtain ⟨s0, s1, s2⟩ := hSw
            go_simp
            try with_reducible rfl
          try simp only [Act.put, List.setIfInBounds_toArray, List.set_cons_zero, List.set_cons_succ]
          refine anyT_take (i := 5) (v := ?v115) rfl (by kernel_rfl) (by kernel_rfl) (by kernel_rfl) (by kernel_rfl) (fun _ _ _ h => h) (Or.inl ⟨by rfl, ?hy115⟩) HS0.out ?rest115
          case hy115 =>
            intro W hSw
            (try dsimp only at hSw)
            obtain ⟨s0, s1, s2⟩ := hSw
            go_simp
            try with_reducible rfl
          try simp only [Act.put, List.setIfInBounds_toArray, List.set_cons_zero, List.set_cons_succ]
          refine anyT_take (i := 6) (v := ?v116) rfl (by kernel_rfl) (by kernel_rfl) (by kernel_rfl) (by kernel_rfl) (fun _ _ _ h => h) (Or.inl ⟨by rfl, ?hy116⟩) HS0.out ?rest116
          case hy116 =>
            intro W hSw
            (try dsimp only at hSw)
            obtain ⟨s0, s1, s2⟩ := hSw
            go_simp
            try with_reducible rfl
          try simp only [Act.put, List.setIfInBounds_toArray, List.set_cons_zero, List.set_cons_succ]
          refine anyT_two (i := 2) (k := 9) (by kernel_rfl) rfl rfl (fun K hK => ?_) (fun K hK => ?_)
          · go_simp
            go_at_call 33
            refine (iFrom_any _ _ _ _ _ xs pn _ (HAr.out.keep HBd.out)).mono ?_
            rintro e w5 ⟨v5, rfl, ho5, hb5⟩
            obtain ⟨g5, c5, rfl⟩ := ho5.head (by have := HH2.out; omega)
            obtain ⟨i1, i2, i3⟩ := ho5.cells HAG.out
            have Hc1 := Lib.hid i1
            have Hc2 := Lib.hid i2
            have Hc3 := Lib.hid i3
            have HB5 := Lib.hid (HBd.out.trans (hb5.mono HBd.out.size))
            have HS5 := Lib.hid (HSA.out _ HB5.out)
            clear ho5 hb5
            refine hK _ _ (fun _ => HS5.out) ?_
            clear hK K
            try simp only [Act.put, List.setIfInBounds_toArray, List.set_cons_zero, List.set_cons_succ]
            refine anyT_take (i := 7) (v := ?v109) rfl (by kernel_rfl) (by kernel_rfl) (by kernel_rfl) (by kernel_rfl) (fun _ _ _ h => h) (Or.inl ⟨by rfl, ?hy109⟩) HS5.out ?rest109
            case hy109 =>
              intro W hSw
              (try dsimp only at hSw)
              obtain ⟨s0, s1, s2⟩ := hSw
              go_simp
              try with_reducible rfl
            try simp only [Act.put, List.setIfInBounds_toArray, List.set_cons_zero, List.set_cons_succ]
            have HBz := Lib.hid (HB5.out.alloc HB5.out.size (.cells #[.int .i64 0, .int .i64 0, .int .i64 0] 55))
            have HSz := Lib.hid (HSA.out _ HBz.out)
            have z1 := ((below1 w5 (.cells #[.int .i64 0, .int .i64 0, .int .i64 0] 55)).cell (World.block_lt_of_cell? _ _ i1)).trans i1
            have z2 := ((below1 w5 (.cells #[.int .i64 0, .int .i64 0, .int .i64 0] 55)).cell (World.block_lt_of_cell? _ _ i2)).trans i2
            have z3 := ((below1 w5 (.cells #[.int .i64 0, .int .i64 0, .int .i64 0] 55)).cell (World.block_lt_of_cell? _ _ i3)).trans i3
            refine anyT_two (i := 8) (k := 9) (by kernel_rfl) rfl rfl (fun K hK => ?_) (fun K hK => ?_)
            · clear z1 z2 z3
              go_simp
              refine hK _ _ (fun _ => HS5.out) ?_
              clear hK K
              try simp only [Act.put, List.setIfInBounds_toArray, List.set_cons_zero, List.set_cons_succ]
              refine anyT_one (i := 9) (by kernel_rfl) rfl (fun K hK => ?_)
              go_simp
              refine hK _ _ (fun _ => HSz.out) ?_
              clear hK K
              try simp only [Act.put, List.setIfInBounds_toArray, List.set_cons_zero, List.set_cons_succ]
              refine anyT_one (i := 10) (by kernel_rfl) rfl (fun K hK => ?_)
              go_simp
              refine hK _ _ (fun h => absurd rfl h) ?_
              clear hK K
              refine anyT_done (by kernel_rfl) ?_
              go_wp2_with fail
              go_meet
              exact ⟨_, rfl, Blk.new w5 _ _, HB5.out.alloc HB5.out.size _, HB5.out.size⟩
            · go_simp
              refine hK _ _ (fun _ => HSz.out) ?_
              clear hK K
              try simp only [Act.put, List.setIfInBounds_toArray, List.set_cons_zero, List.set_cons_succ]
              refine anyT_one (i := 8) (by kernel_rfl) rfl (fun K hK => ?_)
              go_simp
              refine hK _ _ (fun _ => HSz.out) ?_
              clear hK K
              try simp only [Act.put, List.setIfInBounds_toArray, List.set_cons_zero, List.set_cons_succ]
              refine anyT_one (i := 10) (by kernel_rfl) rfl (fun K hK => ?_)
              go_simp
              refine hK _ _ (fun h => absurd rfl h) ?_
              clear hK K
              refine anyT_done (by kernel_rfl) ?_
              go_wp2_with fail
              go_meet
              exact ⟨_, rfl, Blk.new w5 _ _, HB5.out.alloc HB5.out.size _, HB5.out.size⟩
          · have HBz : Hid (Below wr.heap.size wr (wr.drew.alloc (.cells #[.int .i64 0, .int .i64 0, .int .i64 0] 55))) := HBd.out.alloc (Nat.le_refl _) _
            have HKz : Hid (Blk (wr.drew.alloc (.cells #[.int .i64 0, .int .i64 0, .int .i64 0] 55)) wr.heap.size 55 #[.int .i64 0, .int .i64 0, .int .i64 0]) := Blk.new wr.drew _ _
            go_simp
            refine hK _ _ (fun _ => HSA.out _ HBz.out) ?_
            clear hK K
            refine anyT_at (fun W => Below wr.heap.size wr W ∧ Blk W wr.heap.size 55 #[.int .i64 0, .int .i64 0, .int .i64 0]) ⟨HBz.out, HKz.out⟩ ?_
            clear HBz HKz
            rintro wz ⟨hbz, hkz⟩
            have HBz := Lib.hid hbz
            have HKz := Lib.hid hkz
            clear hbz hkz
            try simp only [Act.put, List.setIfInBounds_toArray, List.set_cons_zero, List.set_cons_succ]
            refine anyT_one (i := 2) (by kernel_rfl) rfl (fun K hK => ?_)
            go_simp
            go_at_call 33
            refine (iFrom_any _ _ _ _ _ xs pn _ (HAr.out.keep HBz.out)).mono ?_
            rintro e w5 ⟨v5, rfl, ho5, hb5⟩
            obtain ⟨g5, c5, rfl⟩ := ho5.head (by have := HH2.out; omega)
            obtain ⟨i1, i2, i3⟩ := ho5.cells HAG.out
            have Hc1 := Lib.hid i1
            have Hc2 := Lib.hid i2
            have Hc3 := Lib.hid i3
            have HB5 := Lib.hid (HBz.out.trans (hb5.mono HBz.out.size))
            have HS5 := Lib.hid (HSA.out _ HB5.out)
            have HK5 := Lib.hid (HKz.out.keep hb5)
            clear ho5 hb5
            refine hK _ _ (fun _ => HS5.out) ?_
            clear hK K
            try simp only [Act.put, List.setIfInBounds_toArray, List.set_cons_zero, List.set_cons_succ]
            refine anyT_take (i := 7) (v := ?v110) rfl (by kernel_rfl) (by kernel_rfl) (by kernel_rfl) (by kernel_rfl) (fun _ _ _ h => h) (Or.inl ⟨by rfl, ?hy110⟩) HS5.out ?rest110
            case hy110 =>
              intro W hSw
              (try dsimp only at hSw)
              obtain ⟨s0, s1, s2⟩ := hSw
              go_simp
              try with_reducible rfl
            try simp only [Act.put, List.setIfInBounds_toArray, List.set_cons_zero, List.set_cons_succ]
            refine anyT_one (i := 8) (by kernel_rfl) rfl (fun K hK => ?_)
            go_simp
            refine hK _ _ (fun _ => HS5.out) ?_
            clear hK K
            try simp only [Act.put, List.setIfInBounds_toArray, List.set_cons_zero, List.set_cons_succ]
            have b0 := HK5.out.c0
            have b1 := HK5.out.c1
            have b2 := HK5.out.c2
            have f0 := HK5.out.frozen 0
            have f1 := HK5.out.frozen 1
            have f2 := HK5.out.frozen 2
            refine anyT_one (i := 10) (by kernel_rfl) rfl (fun K hK => ?_)
            go_simp
            refine hK _ _ (fun h => absurd rfl h) ?_
            clear hK K
            refine anyT_done (by kernel_rfl) ?_
            go_wp2_with fail
            go_meet
            exact ⟨_, rfl, ((HK5.out.set 0 _).set 1 _).set 2 _, below_lab HB5.out (Nat.le_refl _) _ _ _, Nat.le_refl _⟩
        case rest =>
        obtain ⟨g, rfl, hblk, hbw, hgr⟩ := hcut
        have r0 := hblk.c0
        have r1 := hblk.c1
        have r2 := hblk.c2
        have HOc := Lib.hid (HOb.out.keep hbw)
        have HBc := Lib.hid (HB.out.trans (hbw.mono hsz))
        have hsc := HBc.out.size
        have HAL : Hid ((acc ++ [y3]).length = i + 1) := by show _ = _; rw [List.length_append, hal.out]; rfl
        have HNN : Hid (∀ l ∈ acc ++ [y3], 0 ≤ l) := by
          show ∀ l, _
          intro l hl
          rcases List.mem_append.1 hl with h | h
          · exact hnn.out l h
          · simp at h; omega
        have HMP : Hid ((acc ++ [y3]).map (fun l => 97 + l) = acc.map (fun l => 97 + l) ++ [97 + y3]) := by show _ = _; simp
        have hw1 : IntKind.i64.wrap (97 + y3) = 97 + y3 := by rw [IntKind.wrap_i64]; omega
        have hw2 : IntKind.u8.wrap (97 + y3) = 97 + y3 := by rw [IntKind.wrap_u8]; omega
        have HNG : Hid (some g ≠ (Value.slice aa i ca).ownBlock) := by
          show _ ≠ _
          intro e
          have := (HOb.out.ownlt _ e.symm).2
          omega
        clear hcl hcl2 hc0 hcs hcw hbw hblk hgr
        go_wp2_with (refine wpList_push_byte wc (97 + y3) rfl (.tmp 45) (.tmp 50) rfl w1.heap.size _ _ _ rfl HOc.out (by omega) hsc _ rfl rfl ?_; intro v7 w7 ho7 hb7 hg7; obtain ⟨a7, c7, rfl⟩ := ho7.form; have HO7 := Lib.hid ho7; have HB7 := Lib.hid (HBc.out.trans hb7); have s1 := hg7.cell r1 (HNG.out); clear ho7 hb7 hg7)
        go_roundw
        case rel => exact ⟨i + 1, y2, acc ++ [y3], hlt, hy2, HAL.out, HNN.out, rfl, by rw [HMP.out]; exact HO7.out, by go_num, HST.out, HB7.out⟩
        case measure => simp [intOf]; omega
      · have HE := Lib.hid (enc_end (by omega) hr.out)
        have kc := conv_bytes wr _ _ _ acc HOb.out hnn.out
        clear hr
        go_wp2_with fail
        go_ret3
        exact ⟨by have h1 := HE.out.1; have h2 := HE.out.2; rw [h1, h2]; rfl, step2 HB1.out HB.out⟩
end Go.Proofs.Ytmkodbkbgpjgoaa
