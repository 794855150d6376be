/- IDec: a part of the proofs of this seat. -/
import Derived.Test.YtmkodbkbgpjgoaaProg
import Derived.Test.YtmkodbkbgpjgoaaEG0b
import Derived.Test.YtmkodbkbgpjgoaaEG1a
import Derived.Test.YtmkodbkbgpjgoaaEG0c
namespace Go.Proofs.Ytmkodbkbgpjgoaa
open Go.RowKit
set_option linter.all false
set_option maxRecDepth 40000 in
set_option maxHeartbeats 12800000 in
theorem iDecodeWord_any (L S : Int) (ao : Option Addr) (n cap : Nat) (xs : List Ar) (p : Int) (s : ByteArray) (w : World) (h : Arcs w ao n xs) (hs : s.size ≤ 1048576) :
    Calls Try.prog 9 #[.agg #[.int .i64 L, .int .i64 S, .slice ao n cap], .int .i64 p, .string s] w fun e w' => e = .returned (.tuple #[.string (decS L S xs p s), .bool (decOk L S xs p s)]) ∧ Below w.heap.size w w' := by
  have hm := h.2.1
  have HB1 := Lib.hid (below1 w (.cells #[.int .i64 L, .int .i64 S, .slice ao n cap] 26))
  have HA1 := Lib.hid (h.keep HB1.out)
  have HK1 := Lib.hid (Blk.new w 26 #[.int .i64 L, .int .i64 S, .slice ao n cap])
  clear h
  cases b1 : isEnc L S xs
  · have B1 := Lib.hid b1
    have HO : Hid (decOk L S xs p s = false) := by show _ = _; simp [decOk, b1]
    have HE : Hid (decS L S xs p s = ByteArray.empty) := by show _ = _; simp [decS, HO.out]
    rw [HO.out, HE.out]
    clear b1
    go_enter Try.func9, Try.ntmps9
    go_wp2_with fail
    generalize w.alloc (.cells #[.int .i64 L, .int .i64 S, .slice ao n cap] 26) = w1 at HB1 HA1 HK1 ⊢
    refine (iIsEncoder_any _ _ _ _ _ xs _ HA1.out).mono ?_
    rw [B1.out]
    rintro e w2 ⟨rfl, hb2⟩
    go_wp2_with fail
    go_ret2
    exact ⟨rfl, step2 HB1.out hb2⟩
  have B1 := Lib.hid b1
  obtain ⟨hlab, hres, hmany⟩ := isEnc_get b1
  obtain ⟨hLr, hSr, hok⟩ := isLab_get hlab
  obtain ⟨m, rfl⟩ : ∃ m : Nat, S = m := ⟨S.toNat, by omega⟩
  have hm12 : m ≤ 12 := by omega
  have HM := Lib.hid hmany
  have HOA := Lib.hid (okFrom_all hok)
  have HTD : Hid (∀ (q : Nat) (a b : Ar), (fromL (q : Nat) xs)[0]? = some a → (fromL (q : Nat) xs)[1]? = some b → a.2.2 ≠ b.2.2) := by
    show ∀ q, _
    intro q a b h0 h1
    exact two_differ hok hres h0 h1
  have HLr := Lib.hid hLr
  have HE1 := Lib.hid b1
  clear hlab hres hmany hok hLr b1
  cases b2 : inR p 0 ((m : Int) - 1)
  · have HO : Hid (decOk L m xs p s = false) := by show _ = _; simp [decOk, b2]
    have HE : Hid (decS L m xs p s = ByteArray.empty) := by show _ = _; simp [decS, HO.out]
    rw [HO.out, HE.out]
    rcases inR_false b2 with hp | hp
    · have d1 : decide (p < 0) = true := decide_eq_true hp
      clear b2 hp
      go_enter Try.func9, Try.ntmps9
      go_wp2_with fail
      generalize w.alloc (.cells #[.int .i64 L, .int .i64 m, .slice ao n cap] 26) = w1 at HB1 HA1 HK1 ⊢
      refine (iIsEncoder_any _ _ _ _ _ xs _ HA1.out).mono ?_
      rw [B1.out]
      rintro e w2 ⟨rfl, hb2⟩
      have q := HK1.out.keep hb2
      have q0 := q.c0
      have q1 := q.c1
      have q2 := q.c2
      clear q
      go_wp2_with fail
      go_ret2
      exact ⟨rfl, step2 HB1.out hb2⟩
    · have d1 : decide (p < 0) = false := decide_eq_false (by omega)
      have d2 : decide ((m : Int) ≤ p) = true := decide_eq_true (by omega)
      clear b2 hp
      go_enter Try.func9, Try.ntmps9
      go_wp2_with fail
      generalize w.alloc (.cells #[.int .i64 L, .int .i64 m, .slice ao n cap] 26) = w1 at HB1 HA1 HK1 ⊢
      refine (iIsEncoder_any _ _ _ _ _ xs _ HA1.out).mono ?_
      rw [B1.out]
      rintro e w2 ⟨rfl, hb2⟩
      have q := HK1.out.keep hb2
      have q0 := q.c0
      have q1 := q.c1
      have q2 := q.c2
      clear q
      go_wp2_with fail
      go_ret2
      exact ⟨rfl, step2 HB1.out hb2⟩
  have hpr := inR_true b2
  have d1 : decide (p < 0) = false := decide_eq_false (by omega)
  have d2 : decide ((m : Int) ≤ p) = false := decide_eq_false (by omega)
  by_cases hs16 : s.size ≤ 16
  rotate_left
  · have HO : Hid (decOk L m xs p s = false) := by show _ = _; simp [decOk, hs16]
    have HE : Hid (decS L m xs p s = ByteArray.empty) := by show _ = _; simp [decS, HO.out]
    have d3 : decide ((16 : Int) < (s.size : Int)) = true := decide_eq_true (by omega)
    rw [HO.out, HE.out]
    clear b2
    go_enter Try.func9, Try.ntmps9
    go_wp2_with fail
    generalize w.alloc (.cells #[.int .i64 L, .int .i64 m, .slice ao n cap] 26) = w1 at HB1 HA1 HK1 ⊢
    refine (iIsEncoder_any _ _ _ _ _ xs _ HA1.out).mono ?_
    rw [B1.out]
    rintro e w2 ⟨rfl, hb2⟩
    have q := HK1.out.keep hb2
    have q0 := q.c0
    have q1 := q.c1
    have q2 := q.c2
    clear q
    go_wp2_with fail
    go_ret2
    exact ⟨rfl, step2 HB1.out hb2⟩
  have d3 : decide ((16 : Int) < (s.size : Int)) = false := decide_eq_false (by omega)
  obtain ⟨R, hR⟩ : ∃ R, decF xs s 0 s.size p = R := ⟨_, rfl⟩
  have HDR : Hid (Dr xs s 0 p [] R) := by rw [← hR]; exact dec_start xs s p
  have HO : Hid (decOk L m xs p s = R.isSome) := by show _ = _; simp [decOk, HE1.out, b2, hs16, hR]
  have HS : Hid (decS L m xs p s = resS R) := by show _ = _; rw [decS, HO.out, hR]; cases R <;> rfl
  rw [HO.out, HS.out]
  clear HO HS hR b2
  go_enter Try.func9, Try.ntmps9
  go_wp2_with fail
  generalize w.alloc (.cells #[.int .i64 L, .int .i64 m, .slice ao n cap] 26) = w1 at HB1 HA1 HK1 ⊢
  refine (iIsEncoder_any _ _ _ _ _ xs _ HA1.out).mono ?_
  rw [B1.out]
  rintro e w2 ⟨rfl, hb2⟩
  have HO2 := Lib.hid (OBytes.empty w2 w1.heap.size hb2.size)
  have HB3 := Lib.hid (step2 hb2 (below1 w2 (.cells #[] 5)))
  have q := HK1.out.keep hb2
  have q0 := q.c0
  have q1 := q.c1
  have q2 := q.c2
  clear q hb2
  go_wp2_with fail
  clear q0 q1 q2
  go_loopw [1, 8, 34] (fun pv sv iv wr => ∃ (i pn : Nat) (acc : List Int), i ≤ s.size ∧ pn < m ∧ Hid (acc.length = i) ∧ Hid (∀ l ∈ acc, 0 ≤ l) ∧ pv = .int .i64 pn ∧ OBytes wr w1.heap.size sv i (acc.map (fun l => 97 + l)) ∧ iv = .int .i64 i ∧ Hid (Dr xs s i pn acc R) ∧ Below w1.heap.size w1 wr) (fun _ _ x _ => s.size - (intOf x).toNat)
  case atStart => exact ⟨0, p.toNat, [], Nat.zero_le _, by omega, rfl, (by show ∀ l, _; simp), by rw [Int.toNat_of_nonneg hpr.1], HO2.out, rfl, by rw [Int.toNat_of_nonneg hpr.1]; exact HDR.out, HB3.out⟩
  case round =>
      obtain ⟨i, pn, acc, hi, hpn, hal, hnn, rfl, ho, rfl, hr, hbl⟩ := hrel
      obtain ⟨aa, ca, rfl⟩ := ho.form
      have HOb := Lib.hid ho
      have HB := Lib.hid hbl
      have HAr := Lib.hid (HA1.out.keep hbl)
      have HK := Lib.hid (HK1.out.keep hbl)
      have hsz := hbl.size
      clear hbl ho
      by_cases hlt : i < s.size
      · obtain ⟨b, hc⟩ : ∃ b : Nat, s[i].toNat = b := ⟨_, rfl⟩
        have HBL : Hid (bl s i = b) := (bl_get hlt).trans hc
        have h2 := HM.out pn (by omega)
        have hag0 := arm_get h2 (show 0 < 2 by omega)
        have hag1 := arm_get h2 (show 1 < 2 by omega)
        obtain ⟨⟨x1, x2, x3⟩, hx⟩ : ∃ a, armA xs pn 0 = a := ⟨_, rfl⟩
        obtain ⟨⟨y1, y2, y3⟩, hy⟩ : ∃ a, armA xs pn 1 = a := ⟨_, rfl⟩
        rw [hx] at hag0
        rw [hy] at hag1
        have HX := Lib.hid hx
        have HY := Lib.hid hy
        obtain ⟨t0, _, k0⟩ := ix_get pn xs 0 0 _ hag0
        obtain ⟨t1, _, k1⟩ := ix_get pn xs 0 1 _ hag1
        have hxr := arcB_get (HOA.out _ (List.mem_of_getElem? k0))
        have hyr := arcB_get (HOA.out _ (List.mem_of_getElem? k1))
        obtain ⟨x2, rfl⟩ : ∃ q : Nat, x2 = q := ⟨x2.toNat, by omega⟩
        obtain ⟨y2, rfl⟩ : ∃ q : Nat, y2 = q := ⟨y2.toNat, by omega⟩
        have hx2 : x2 < m := by omega
        have hy2 : y2 < m := by omega
        have hx3 : 0 ≤ x3 ∧ x3 ≤ 2 := by have := HLr.out; omega
        have hy3 : 0 ≤ y3 ∧ y3 ≤ 2 := by have := HLr.out; omega
        have HA0 := Lib.hid hag0
        have HAy := Lib.hid hag1
        clear k0 k1 hag0 hag1 hx hy hxr hyr
        have q0 := HK.out.c0
        have q1 := HK.out.c1
        have q2 := HK.out.c2
        go_wp2_with fail
        clear q0 q1 q2
        refine (iFrom_any _ _ _ _ _ xs pn _ HAr.out).mono ?_
        rintro e w5 ⟨v5, rfl, ho5, hb5⟩
        have hcap := ho5.form
        obtain ⟨g5, c5, rfl⟩ := ho5.head (by omega)
        have hc5 := ho5.capLe rfl
        have hc6 : 2 ≤ c5 := by omega
        have hc7 : (2 : Int) ≤ (c5 : Int) := by omega
        have HO5 := Lib.hid ho5
        have HB5 := Lib.hid (HB.out.trans (hb5.mono hsz))
        have HOb5 := Lib.hid (HOb.out.keep hb5)
        clear ho5 hb5 hcap hc5
        generalize (fromL (pn : Nat) xs).length = fl at h2 HO5 ⊢
        go_wp2_with fail
        obtain ⟨A0, hA0⟩ : ∃ A : Bool, (97 + x3 == (b : Int)) = A := ⟨_, rfl⟩
        obtain ⟨A1, hA1⟩ : ∃ A : Bool, (97 + y3 == (b : Int)) = A := ⟨_, rfl⟩
        obtain ⟨wo, rfl⟩ : ∃ wo : World, wo = wr := ⟨_, rfl⟩
        go_loopw [1, 8, 10, 42] (fun pv ov fv kv wq => ∃ k : Nat, k ≤ 2 ∧ kv = .int .i64 k ∧ pv = .int .i64 pn ∧ ov = .slice aa i ca ∧ fv = .bool false ∧ Hid (0 < k → A0 = false) ∧ Hid (1 < k → A1 = false) ∧ Below w5.heap.size w5 wq) (fun _ _ _ k _ => 2 - (intOf k).toNat)
        case atStart => exact ⟨0, by omega, rfl, rfl, rfl, rfl, (by show _ → _; intro h; omega), (by show _ → _; intro h; omega), Below.refl _ _⟩
        case round =>
          obtain ⟨k, hk, rfl, rfl, rfl, rfl, hA0f, hA1f, hq⟩ := hrel
          obtain ⟨wq, rfl⟩ : ∃ wq : World, wq = wr := ⟨_, rfl⟩
          have Hq := Lib.hid hq
          clear hq
          have hk3 : k = 0 ∨ k = 1 ∨ k = 2 := by omega
          rcases hk3 with rfl | rfl | rfl
          · have hq2 := Hq.out
            obtain ⟨c1, c2, c3⟩ := (HO5.out.keep hq2).cells HA0.out
            simp only [Nat.zero_mul, Nat.zero_add] at c1 c2 c3
            have HOq := Lib.hid (HOb5.out.keep (hq2.mono (Nat.le_refl _)))
            have HOz := Lib.hid (HOq.out.alloc (.cells #[.int .i64 x1, .int .i64 (x2 : Int), .int .i64 x3] 55))
            have HKz := Lib.hid (Blk.new wq 55 #[.int .i64 x1, .int .i64 (x2 : Int), .int .i64 x3])
            have HBz := Lib.hid (below1 wq (.cells #[.int .i64 x1, .int .i64 (x2 : Int), .int .i64 x3] 55))
            have hszq := hq2.size
            have hw1 : IntKind.i64.wrap (97 + x3) = 97 + x3 := by rw [IntKind.wrap_i64]; omega
            have hw2 : IntKind.u8.wrap (97 + x3) = 97 + x3 := by rw [IntKind.wrap_u8]; omega
            clear hq2
            go_wp2_with fail
            generalize wq.alloc (.cells #[.int .i64 x1, .int .i64 (x2 : Int), .int .i64 x3] 55) = wz at HOz HKz HBz ⊢
            clear c1 c2 c3
            have r0 := HKz.out.c0
            have r1 := HKz.out.c1
            have r2 := HKz.out.c2
            have HBz5 := Lib.hid (Hq.out.trans (HBz.out.mono hszq))
            go_quiet (fail)
            have HOy := Lib.hid (show OBytes (wz.drewN nq) _ _ _ _ from HOz.out)
            have HKy : Hid (Blk (wz.drewN nq) wq.heap.size 55 #[.int .i64 x1, .int .i64 (x2 : Int), .int .i64 x3]) := HKz.out.drewN nq
            have HBy : Hid (Below w5.heap.size w5 (wz.drewN nq)) := below_drewN HBz5.out nq
            have HNG : Hid (some wq.heap.size ≠ (Value.slice aa i ca).ownBlock) := by
              show _ ≠ _
              intro e
              have := (HOq.out.ownlt _ e.symm).2
              omega
            generalize wz.drewN nq = wy at HOy HKy HBy ⊢
            clear r0 r1 r2
            cases A0
            · go_wp2_with fail
              go_roundw
              case rel => exact ⟨1, by omega, by rfl, rfl, rfl, rfl, (by first | exact Lib.hid (fun _ => trivial) | exact trivial | exact Lib.hid trivial | exact Lib.hid (fun _ => rfl) | exact Lib.hid (fun h => absurd h (by omega)) | exact Lib.hid (fun _ => hA0f.out (by omega))), (by first | exact Lib.hid (fun _ => trivial) | exact trivial | exact Lib.hid trivial | exact Lib.hid (fun _ => rfl) | exact Lib.hid (fun h => absurd h (by omega)) | exact Lib.hid (fun _ => hA0f.out (by omega))), HBy.out⟩
              case measure => simp [intOf]
            · have HN := Lib.hid (dec_0 hlt HX.out (by have := HBL.out; simp at hA0; omega) hr.out)
              have HW2 := Lib.hid (HB5.out.trans (HBy.out.mono HB5.out.size))
              have hszy : w1.heap.size ≤ wy.heap.size := HW2.out.size
              have r1 := HKy.out.c1
              have HMP : Hid ((acc ++ [0]).map (fun l => 97 + l) = acc.map (fun l => 97 + l) ++ [97]) := by show _ = _; simp
              have HNN : Hid (∀ l ∈ acc ++ [0], 0 ≤ l) := by
                show ∀ l, _
                intro l hl
                rcases List.mem_append.1 hl with h | h
                · exact hnn.out l h
                · simp at h; omega
              have HAL : Hid ((acc ++ [0]).length = i + 1) := by show _ = _; rw [List.length_append, hal.out]; rfl
              clear hr
              go_wp2_with (refine wpList_push_byte wy 97 rfl (.tmp 55) (.tmp 59) rfl w1.heap.size _ _ _ rfl HOy.out (by omega) hszy _ rfl rfl ?_; intro v7 w7 ho7 hb7 hg7; obtain ⟨a7, c7, rfl⟩ := ho7.form; have HO7 := Lib.hid ho7; have HB7 := Lib.hid (HW2.out.trans hb7); have s1 := hg7.cell r1 (HNG.out); clear ho7 hb7 hg7)
              go_roundw
              case rel => exact ⟨i + 1, x2, acc ++ [0], hlt, hx2, HAL.out, HNN.out, rfl, by rw [HMP.out]; exact HO7.out, by go_num, HN.out, HB7.out⟩
              case measure => simp [intOf]; omega
          · have hq2 := Hq.out
            obtain ⟨c1, c2, c3⟩ := (HO5.out.keep hq2).cells HAy.out
            simp only [Nat.one_mul] at c1 c2 c3
            have HOq := Lib.hid (HOb5.out.keep (hq2.mono (Nat.le_refl _)))
            have HOz := Lib.hid (HOq.out.alloc (.cells #[.int .i64 y1, .int .i64 (y2 : Int), .int .i64 y3] 55))
            have HKz := Lib.hid (Blk.new wq 55 #[.int .i64 y1, .int .i64 (y2 : Int), .int .i64 y3])
            have HBz := Lib.hid (below1 wq (.cells #[.int .i64 y1, .int .i64 (y2 : Int), .int .i64 y3] 55))
            have hszq := hq2.size
            have hw1 : IntKind.i64.wrap (97 + y3) = 97 + y3 := by rw [IntKind.wrap_i64]; omega
            have hw2 : IntKind.u8.wrap (97 + y3) = 97 + y3 := by rw [IntKind.wrap_u8]; omega
            clear hq2
            go_wp2_with fail
            generalize wq.alloc (.cells #[.int .i64 y1, .int .i64 (y2 : Int), .int .i64 y3] 55) = wz at HOz HKz HBz ⊢
            clear c1 c2 c3
            have r0 := HKz.out.c0
            have r1 := HKz.out.c1
            have r2 := HKz.out.c2
            have HBz5 := Lib.hid (Hq.out.trans (HBz.out.mono hszq))
            go_quiet (fail)
            have HOy := Lib.hid (show OBytes (wz.drewN nq) _ _ _ _ from HOz.out)
            have HKy : Hid (Blk (wz.drewN nq) wq.heap.size 55 #[.int .i64 y1, .int .i64 (y2 : Int), .int .i64 y3]) := HKz.out.drewN nq
            have HBy : Hid (Below w5.heap.size w5 (wz.drewN nq)) := below_drewN HBz5.out nq
            have HNG : Hid (some wq.heap.size ≠ (Value.slice aa i ca).ownBlock) := by
              show _ ≠ _
              intro e
              have := (HOq.out.ownlt _ e.symm).2
              omega
            generalize wz.drewN nq = wy at HOy HKy HBy ⊢
            clear r0 r1 r2
            cases A1
            · go_wp2_with fail
              go_roundw
              case rel => exact ⟨2, by omega, by rfl, rfl, rfl, rfl, (by first | exact Lib.hid (fun _ => trivial) | exact trivial | exact Lib.hid trivial | exact Lib.hid (fun _ => rfl) | exact Lib.hid (fun h => absurd h (by omega)) | exact Lib.hid (fun _ => hA0f.out (by omega))), (by first | exact Lib.hid (fun _ => trivial) | exact trivial | exact Lib.hid trivial | exact Lib.hid (fun _ => rfl) | exact Lib.hid (fun h => absurd h (by omega)) | exact Lib.hid (fun _ => hA0f.out (by omega))), HBy.out⟩
              case measure => simp [intOf]
            · have HN := Lib.hid (dec_1 hlt HX.out (by have := HBL.out; have h := hA0f.out (by omega); rw [h] at hA0; simp at hA0; omega) HY.out (by have := HBL.out; simp at hA1; omega) hr.out)
              have HW2 := Lib.hid (HB5.out.trans (HBy.out.mono HB5.out.size))
              have hszy : w1.heap.size ≤ wy.heap.size := HW2.out.size
              have r1 := HKy.out.c1
              have HMP : Hid ((acc ++ [1]).map (fun l => 97 + l) = acc.map (fun l => 97 + l) ++ [98]) := by show _ = _; simp
              have HNN : Hid (∀ l ∈ acc ++ [1], 0 ≤ l) := by
                show ∀ l, _
                intro l hl
                rcases List.mem_append.1 hl with h | h
                · exact hnn.out l h
                · simp at h; omega
              have HAL : Hid ((acc ++ [1]).length = i + 1) := by show _ = _; rw [List.length_append, hal.out]; rfl
              clear hr
              go_wp2_with (refine wpList_push_byte wy 98 rfl (.tmp 55) (.tmp 59) rfl w1.heap.size _ _ _ rfl HOy.out (by omega) hszy _ rfl rfl ?_; intro v7 w7 ho7 hb7 hg7; obtain ⟨a7, c7, rfl⟩ := ho7.form; have HO7 := Lib.hid ho7; have HB7 := Lib.hid (HW2.out.trans hb7); have s1 := hg7.cell r1 (HNG.out); clear ho7 hb7 hg7)
              go_roundw
              case rel => exact ⟨i + 1, y2, acc ++ [1], hlt, hy2, HAL.out, HNN.out, rfl, by rw [HMP.out]; exact HO7.out, by go_num, HN.out, HB7.out⟩
              case measure => simp [intOf]; omega
          · have h0 := hA0f.out (by omega)
            have h1 := hA1f.out (by omega)
            rw [h0] at hA0
            rw [h1] at hA1
            have HN := Lib.hid (dec_no hlt HX.out (by have := HBL.out; simp at hA0; omega) HY.out (by have := HBL.out; simp at hA1; omega) hr.out)
            clear hA0 hA1 hr h0 h1
            go_wp2_with fail
            go_ret2
            exact ⟨by rw [HN.out]; rfl, step2 HB1.out (HB5.out.trans (Hq.out.mono HB5.out.size))⟩
      · have HE := Lib.hid (dec_end (by omega) hr.out)
        have kc := conv_bytes wr _ _ _ acc HOb.out hnn.out
        clear hr
        go_wp2_with fail
        go_ret2
        exact ⟨by rw [HE.out]; rfl, step2 HB1.out HB.out⟩
end Go.Proofs.Ytmkodbkbgpjgoaa
