/- SSplitW: a part of the proofs of this seat. -/
import Derived.BigQuiet
import Derived.Test.YtmkodbkbgpjgoaaProg
import Derived.Test.YtmkodbkbgpjgoaaEG0b
import Derived.Test.YtmkodbkbgpjgoaaESInsort
import Derived.Test.YtmkodbkbgpjgoaaEG0c
import Derived.Test.YtmkodbkbgpjgoaaESIsLab
import Derived.Test.YtmkodbkbgpjgoaaEG0a
namespace Go.Proofs.Ytmkodbkbgpjgoaa
open Go.RowKit
set_option linter.all false
set_option maxRecDepth 20000 in
set_option maxHeartbeats 6400000 in
theorem sSplit_bad (L S : Int) (ao : Option Addr) (n cap : Nat) (xs : List Ar) (p set : Int) (w : World) (h : Arcs w ao n xs) (hno : splOk L S xs p set = false) :
    Calls Try.prog 16 #[.agg #[.int .i64 L, .int .i64 S, .slice ao n cap], .int .i64 p, .int .i64 set] w fun e w' => ∃ v, e = .returned (.tuple #[.agg #[.int .i64 (splL L S xs p set), .int .i64 (splS L S xs p set), v], .bool (splOk L S xs p set)]) ∧ OArcs w' w.heap.size v (splX L S xs p set).length (splX L S xs p set) ∧ Below w.heap.size w w' := by
  rw [show splL L S xs p set = 0 by simp [splL, hno], show splS L S xs p set = 0 by simp [splS, hno], show splX L S xs p set = [] by simp [splX, hno], hno]
  have hk0 := (Blk.new w 26 #[.int .i64 L, .int .i64 S, .slice ao n cap]).alloc (.cells #[.int .i64 0, .int .i64 0, .slice none 0 0] 26)
  have hk1 := Blk.new (w.alloc (.cells #[.int .i64 L, .int .i64 S, .slice ao n cap] 26)) 26 #[.int .i64 0, .int .i64 0, .slice none 0 0]
  have z1 : (w.alloc (.cells #[.int .i64 L, .int .i64 S, .slice ao n cap] 26)).heap.size = w.heap.size + 1 := by simp
  rw [z1] at hk1
  have HK := Lib.hid hk0
  have HR := Lib.hid hk1
  have HB := Lib.hid (below2 w (.cells #[.int .i64 L, .int .i64 S, .slice ao n cap] 26) (.cells #[.int .i64 0, .int .i64 0, .slice none 0 0] 26))
  have H := Lib.hid (h.keep HB.out)
  clear h z1
  have k0 := hk0.c0
  have k1 := hk0.c1
  have k2 := hk0.c2
  clear hk0 hk1
  have HNO := Lib.hid hno
  clear hno
  go_enter Try.func16, Try.ntmps16
  go_wp2_with fail
  generalize (w.alloc (.cells #[.int .i64 L, .int .i64 S, .slice ao n cap] 26)).alloc (.cells #[.int .i64 0, .int .i64 0, .slice none 0 0] 26) = w0 at HK HR HB H k0 k1 k2 ⊢
  refine (sIsLabels_any _ _ _ _ _ xs _ H.out).mono ?_
  rintro e w1 ⟨rfl, hb1⟩
  cases hlab : isLab L S xs
  · clear hlab
    have q := (HR.out.keep hb1)
    have q0 := q.c0
    have q1 := q.c1
    have q2 := q.c2
    have f0 := q.frozen 0
    have f1 := q.frozen 1
    have f2 := q.frozen 2
    clear q
    go_wp2_with fail
    refine bodyPost_ret (v := .tuple #[.agg #[.int .i64 0, .int .i64 0, .slice none 0 0], .bool false]) (by simp [results, Try.results16, go_sem, *]) rfl ?_
    exact ⟨_, rfl, OArcs.none_ _ _, below_lab (step2 HB.out hb1) (Nat.le_succ _) _ _ _⟩
  have HLAB := Lib.hid hlab
  have HB1 := Lib.hid hb1
  have q := HK.out.keep hb1
  have k0 := q.c0
  have k1 := q.c1
  have k2 := q.c2
  have H1 := Lib.hid (H.out.keep hb1)
  have hg := isLab_get hlab
  have hS1 : 1 ≤ S := hg.2.1.1
  have hS12 : S ≤ 12 := hg.2.1.2
  have H36 := fromL_36 (p := p) hlab
  have HIX := ix_len p xs 0
  clear hlab hg q hb1
  by_cases h12 : S = 12
  · subst h12
    have q := (HR.out.keep HB1.out)
    have q0 := q.c0
    have q1 := q.c1
    have q2 := q.c2
    have f0 := q.frozen 0
    have f1 := q.frozen 1
    have f2 := q.frozen 2
    clear q
    go_wp2_with fail
    refine bodyPost_ret (v := .tuple #[.agg #[.int .i64 0, .int .i64 0, .slice none 0 0], .bool false]) (by simp [results, Try.results16, go_sem, *]) rfl ?_
    exact ⟨_, rfl, OArcs.none_ _ _, below_lab (step2 HB.out HB1.out) (Nat.le_succ _) _ _ _⟩
  have d12 : (S == 12) = false := by simp [h12]
  have hwS : IntKind.i64.wrap (S - 1) = S - 1 := by rw [IntKind.wrap_i64]; omega
  go_wp2_with fail
  refine (l1In_any _ _ _ _).mono ?_
  rintro e w' ⟨rfl, rfl⟩
  cases hp : inR p 0 (S - 1)
  · clear hp
    have q := (HR.out.keep HB1.out)
    have q0 := q.c0
    have q1 := q.c1
    have q2 := q.c2
    have f0 := q.frozen 0
    have f1 := q.frozen 1
    have f2 := q.frozen 2
    clear q
    go_wp2_with fail
    refine bodyPost_ret (v := .tuple #[.agg #[.int .i64 0, .int .i64 0, .slice none 0 0], .bool false]) (by simp [results, Try.results16, go_sem, *]) rfl ?_
    exact ⟨_, rfl, OArcs.none_ _ _, below_lab (step2 HB.out HB1.out) (Nat.le_succ _) _ _ _⟩
  have HP := Lib.hid hp
  clear hp
  obtain ⟨m, hm⟩ : ∃ m, (fromL p xs).length = m := ⟨_, rfl⟩
  rw [hm] at H36 HIX
  have d36 : decide (36 < m) = false := decide_eq_false (by omega)
  go_wp2_with fail
  refine (sArcs_any _ _ _ _ _ xs p _ H1.out).mono ?_
  rintro e w2 ⟨v2, rfl, ho2, hb2⟩
  obtain ⟨a2, c2, rfl, _⟩ := ho2.form
  rw [HIX]
  have HB2 := Lib.hid (step2 HB1.out hb2)
  have HSET : Hid (inR set 1 (wrap64 (wrap64 (2 ^ m) - 2)) = false) := by
    show _ = _
    rw [← hm]
    have := HNO.out
    simpa [splOk, HLAB.out, d12, HP.out] using this
  clear k0 k1 k2 ho2 hb2
  go_wp2_with fail
  refine (l1In_any _ _ _ _).mono ?_
  rw [HSET.out]
  rintro e w' ⟨rfl, rfl⟩
  have q := (HR.out.keep HB2.out)
  have q0 := q.c0
  have q1 := q.c1
  have q2 := q.c2
  have f0 := q.frozen 0
  have f1 := q.frozen 1
  have f2 := q.frozen 2
  clear q
  go_wp2_with fail
  refine bodyPost_ret (v := .tuple #[.agg #[.int .i64 0, .int .i64 0, .slice none 0 0], .bool false]) (by simp [results, Try.results16, go_sem, *]) rfl ?_
  exact ⟨_, rfl, OArcs.none_ _ _, below_lab (step2 HB.out HB2.out) (Nat.le_succ _) _ _ _⟩
set_option maxRecDepth 20000 in
set_option maxHeartbeats 6400000 in
theorem sSplit_ok (L S : Int) (ao : Option Addr) (n cap : Nat) (xs : List Ar) (p set : Int) (w : World) (h : Arcs w ao n xs) (hok : splOk L S xs p set = true) :
    Calls Try.prog 16 #[.agg #[.int .i64 L, .int .i64 S, .slice ao n cap], .int .i64 p, .int .i64 set] w fun e w' => ∃ v, e = .returned (.tuple #[.agg #[.int .i64 (splL L S xs p set), .int .i64 (splS L S xs p set), v], .bool (splOk L S xs p set)]) ∧ OArcs w' w.heap.size v (splX L S xs p set).length (splX L S xs p set) ∧ Below w.heap.size w w' := by
  rw [show splL L S xs p set = L by simp [splL, hok], show splS L S xs p set = S + 1 by simp [splS, hok]]
  obtain ⟨hlab, h12, hp, hset⟩ := splOk_get hok
  have HSO := Lib.hid (splX_sorted hok).1
  rw [hok]
  clear hok
  have HL := Lib.hid h.1
  have hk0 := (Blk.new w 26 #[.int .i64 L, .int .i64 S, .slice ao n cap]).alloc (.cells #[.int .i64 0, .int .i64 0, .slice none 0 0] 26)
  have hk1 := Blk.new (w.alloc (.cells #[.int .i64 L, .int .i64 S, .slice ao n cap] 26)) 26 #[.int .i64 0, .int .i64 0, .slice none 0 0]
  have z1 : (w.alloc (.cells #[.int .i64 L, .int .i64 S, .slice ao n cap] 26)).heap.size = w.heap.size + 1 := by simp
  rw [z1] at hk1
  have HK := Lib.hid hk0
  have HR := Lib.hid hk1
  have HB := Lib.hid (below2 w (.cells #[.int .i64 L, .int .i64 S, .slice ao n cap] 26) (.cells #[.int .i64 0, .int .i64 0, .slice none 0 0] 26))
  have H := Lib.hid (h.keep HB.out)
  clear h z1
  have k0 := hk0.c0
  have k1 := hk0.c1
  have k2 := hk0.c2
  clear hk0 hk1
  have HI := Lib.hid hlab
  have hg := isLab_get hlab
  have hS1 : 1 ≤ S := hg.2.1.1
  have hS12 : S ≤ 12 := hg.2.1.2
  have H36 := fromL_36 (p := p) hlab
  have HIX := ix_len p xs 0
  have hn : n ≤ 432 := by rw [← HL.out]; exact isLab_432 hlab
  clear hlab hg
  have d12 : (S == 12) = false := by simp [h12]
  have hwS : IntKind.i64.wrap (S - 1) = S - 1 := by rw [IntKind.wrap_i64]; omega
  have HP := Lib.hid hp
  obtain ⟨m, hm⟩ : ∃ m, (fromL p xs).length = m := ⟨_, rfl⟩
  rw [hm] at H36 HIX
  have d36 : decide (36 < m) = false := decide_eq_false (by omega)
  go_enter Try.func16, Try.ntmps16
  go_wp2_with fail
  generalize (w.alloc (.cells #[.int .i64 L, .int .i64 S, .slice ao n cap] 26)).alloc (.cells #[.int .i64 0, .int .i64 0, .slice none 0 0] 26) = w0 at HK HR HB H k0 k1 k2 ⊢
  refine (sIsLabels_any _ _ _ _ _ xs _ H.out).mono ?_
  rw [HI.out]
  rintro e w1 ⟨rfl, hb1⟩
  have HB1 := Lib.hid hb1
  have q := HK.out.keep hb1
  have k0 := q.c0
  have k1 := q.c1
  have k2 := q.c2
  have H1 := Lib.hid (H.out.keep hb1)
  clear q hb1
  go_wp2_with fail
  refine (l1In_any _ _ _ _).mono ?_
  rw [HP.out]
  rintro e w' ⟨rfl, rfl⟩
  go_wp2_with fail
  refine (sArcs_any _ _ _ _ _ xs p _ H1.out).mono ?_
  rintro e w2 ⟨v2, rfl, ho2, hb2⟩
  obtain ⟨a2, c2, rfl, _⟩ := ho2.form
  rw [HIX]
  have HB2 := Lib.hid (step2 HB1.out hb2)
  have H2 := Lib.hid (H1.out.keep hb2)
  have HK2 := Lib.hid ((HK.out.keep HB1.out).keep hb2)
  have HR2 := Lib.hid ((HR.out.keep HB1.out).keep hb2)
  have HBW := Lib.hid (step2 HB.out (step2 HB1.out hb2))
  have k2 := HK2.out.c2
  clear k0 k1 ho2 hb2
  rw [hm] at hset
  have HSET := Lib.hid hset
  clear hset
  go_wp2_with fail
  refine (l1In_any _ _ _ _).mono ?_
  rw [HSET.out]
  rintro e w' ⟨rfl, rfl⟩
  have HE := Lib.hid (OArcs.empty w2 w2.heap.size (Nat.le_refl _))
  have HBE := Lib.hid (below1 w2 (.cells #[] 55))
  go_wp2_with fail
  clear k2 d12 d36
  go_loopw [9, 10, 11] (fun v a x wr => ∃ (k t : Nat) (acc : List Ar), k ≤ n ∧ a = .int .i64 t ∧ t ≤ k ∧ x = .int .i64 k ∧ acc.length ≤ k + k ∧ OArcs wr w2.heap.size v acc.length acc ∧ Hid (acc ++ splitL S p (bitS set) t (xs.drop k) = splitL S p (bitS set) 0 xs) ∧ Below w2.heap.size w2 wr) (fun _ _ x _ => n - (intOf x).toNat)
  case atStart => exact ⟨0, 0, [], Nat.zero_le _, rfl, Nat.le_refl _, rfl, Nat.zero_le _, HE.out, rfl, HBE.out⟩
  case round =>
    obtain ⟨k, t, acc, hk, rfl, htk, rfl, hacc, hown, heq, hbl⟩ := hrel
    obtain ⟨wo, rfl⟩ : ∃ wo : World, wo = wr := ⟨_, rfl⟩
    clear HE HBE
    have Hbl := Lib.hid hbl
    have k1 := (HK2.out.keep hbl).c1
    have k2 := (HK2.out.keep hbl).c2
    by_cases hlt : k < n
    · obtain ⟨b, o, x, y, z, rfl, c1, c2, c3, hx⟩ := (H2.out.keep hbl).at_ hlt
      have HST := Lib.hid (split_step hx.out heq.out)
      have HA0 := Lib.hid (Blk.new wo 55 #[.int .i64 x, .int .i64 y, .int .i64 z])
      have HBA := Lib.hid (fun f : Int => below1 wo (.cells #[.int .i64 f, .int .i64 y, .int .i64 z] 55))
      have HA := Lib.hid (fun f : Int => Blk.new wo 55 #[.int .i64 f, .int .i64 y, .int .i64 z])
      have HO3 := Lib.hid (fun f : Int => hown.keep (HBA.out f))
      have HOW : Hid (∀ g, u9.ownBlock = some g → g < wo.heap.size) := fun g e => (hown.ownlt g e).2
      have a0 := HA0.out.c0
      have a1 := HA0.out.c1
      have a2 := HA0.out.c2
      have j1 := ((HK2.out.keep hbl).keep (HBA.out x)).c1
      have hsz := hbl.size
      have htk2 : t ≤ 1048576 := by omega
      clear hx hown hbl heq HA0
      by_cases hxp : x = p
      · have h1 : (x == p) = true := by simp [hxp]
        cases hb : bitS set t
        · have h2 : (bits BinOp.and IntKind.i64 (set / 2 ^ min t 64) 1 == 0) = false := hb
          have HNX := Lib.hid (HST.out.2.1 hxp hb)
          clear hxp hb HST
          by_cases hyp : y = p
          · have h5 : (y == p) = true := by simp [hyp]
            have HQ : Hid ((acc ++ [(x, y, z)]) ++ [(x, S, z)] ++ splitL S p (bitS set) (t + 1) (xs.drop (k + 1)) = splitL S p (bitS set) 0 xs) := by show _ = _; rw [← HNX.out]; simp [splitOne, hyp]
            clear hyp
            go_wp2_with (at_builtin; first
              | (refine wpList_push_arc (w6.setCell ⟨wo.heap.size, 1, none⟩ (.int .i64 S)) (x, S, z) rfl (.tmp 86) (.tmp 88) rfl w2.heap.size _ (acc.length + 1) _ rfl (by exact HO6.out.setFar (fun e => HN6.out _ e rfl) _) (by omega) (by simp; have := HB6.out.size; omega) _ (by simp) rfl ?_; intro v8 w8 ho8 hg8 hn8; have HO8 := Lib.hid ho8; have HB8 : Hid (Below w2.heap.size w2 w8) := (HB6.out.setCell (p := ⟨wo.heap.size, 1, none⟩) (show w2.heap.size ≤ wo.heap.size from hsz) (.int .i64 S)).grown hg8 (by simp; exact HB6.out.size) (fun b hb => (HO6.out.ownlt b hb).1); clear ho8 hg8 hn8)
              | (refine wpList_push_arc (wo.alloc (.cells #[.int .i64 x, .int .i64 y, .int .i64 z] 55)) (x, y, z) rfl (.tmp 75) (.tmp 77) rfl w2.heap.size _ acc.length acc rfl (by exact HO3.out x) (by omega) (by simp; omega) _ (by simp) rfl ?_; intro v6 w6 ho6 hg6 hn6; have HO6 := Lib.hid ho6; have HA6 : Hid (Blk w6 wo.heap.size 55 #[.int .i64 x, .int .i64 y, .int .i64 z]) := (HA.out x).grown hg6 (fun e => by have := HOW.out _ e.symm; omega); have HB6 : Hid (Below w2.heap.size w2 w6) := (Hbl.out.trans ((HBA.out x).mono hsz)).grown hg6 (by simp; omega) (fun b hb => ((HO3.out x).ownlt b hb).1); have b0 := HA6.out.c0; have b1 := HA6.out.c1; have b2 := HA6.out.c2; have fz := HA6.out.frozen 1; have j6 := (HK2.out.keep HB6.out).c1; have HN6 : Hid (∀ g, v6.ownBlock = some g → g ≠ wo.heap.size) := (fun g e => by rcases hn6 with h6 | ⟨d, h6, hd⟩; (· have := HOW.out g (h6.symm.trans e); omega); (· rw [h6] at e; injection e with e; simp at hd; omega)); clear ho6 hg6 hn6))
            go_roundw
            case rel =>
              have h9 := HO8.out
              rw [show acc.length + 1 + 1 = ((acc ++ [(x, y, z)]) ++ [(x, S, z)]).length by simp] at h9
              first | exact ⟨k + 1, (t + 1), _, hlt, by go_num, by omega, by go_num, by simp; omega, h9, HQ, HB8.out⟩ | ((repeat apply Exists.intro); exact ⟨⟨k + 1, (t + 1), _, hlt, by go_num, by omega, by go_num, by simp; omega, h9, HQ, HB8.out⟩, rfl⟩)
            case measure => simp [intOf]; omega
          · have h5 : (y == p) = false := by simp [hyp]
            have HQ : Hid ((acc ++ [(x, y, z)]) ++ splitL S p (bitS set) (t + 1) (xs.drop (k + 1)) = splitL S p (bitS set) 0 xs) := by show _ = _; rw [← HNX.out]; simp [splitOne, hyp]
            clear hyp
            go_wp2_with (at_builtin; refine wpList_push_arc (wo.alloc (.cells #[.int .i64 x, .int .i64 y, .int .i64 z] 55)) (x, y, z) rfl (.tmp 75) (.tmp 77) rfl w2.heap.size _ acc.length acc rfl (by exact HO3.out x) (by omega) (by simp; omega) _ (by simp) rfl ?_; intro v6 w6 ho6 hg6 hn6; have HO6 := Lib.hid ho6; have HA6 : Hid (Blk w6 wo.heap.size 55 #[.int .i64 x, .int .i64 y, .int .i64 z]) := (HA.out x).grown hg6 (fun e => by have := HOW.out _ e.symm; omega); have HB6 : Hid (Below w2.heap.size w2 w6) := (Hbl.out.trans ((HBA.out x).mono hsz)).grown hg6 (by simp; omega) (fun b hb => ((HO3.out x).ownlt b hb).1); have b0 := HA6.out.c0; have b1 := HA6.out.c1; have b2 := HA6.out.c2; have fz := HA6.out.frozen 1; have j6 := (HK2.out.keep HB6.out).c1; have HN6 : Hid (∀ g, v6.ownBlock = some g → g ≠ wo.heap.size) := (fun g e => by rcases hn6 with h6 | ⟨d, h6, hd⟩; (· have := HOW.out g (h6.symm.trans e); omega); (· rw [h6] at e; injection e with e; simp at hd; omega)); clear ho6 hg6 hn6)
            go_roundw
            case rel =>
              have h9 := HO6.out
              rw [show acc.length + 1 = (acc ++ [(x, y, z)]).length by simp] at h9
              first | exact ⟨k + 1, (t + 1), _, hlt, by go_num, by omega, by go_num, by simp; omega, h9, HQ, HB6.out⟩ | ((repeat apply Exists.intro); exact ⟨⟨k + 1, (t + 1), _, hlt, by go_num, by omega, by go_num, by simp; omega, h9, HQ, HB6.out⟩, rfl⟩)
            case measure => simp [intOf]; omega
        · have h2 : (bits BinOp.and IntKind.i64 (set / 2 ^ min t 64) 1 == 0) = true := hb
          have HNX := Lib.hid (HST.out.1 hxp hb)
          clear hxp hb HST
          by_cases hyp : y = p
          · have h5 : (y == p) = true := by simp [hyp]
            have HQ : Hid ((acc ++ [(S, y, z)]) ++ [(S, S, z)] ++ splitL S p (bitS set) (t + 1) (xs.drop (k + 1)) = splitL S p (bitS set) 0 xs) := by show _ = _; rw [← HNX.out]; simp [splitOne, hyp]
            clear hyp
            go_wp2_with (at_builtin; first
              | (refine wpList_push_arc (w6.setCell ⟨wo.heap.size, 1, none⟩ (.int .i64 S)) (S, S, z) rfl (.tmp 86) (.tmp 88) rfl w2.heap.size _ (acc.length + 1) _ rfl (by exact HO6.out.setFar (fun e => HN6.out _ e rfl) _) (by omega) (by simp; have := HB6.out.size; omega) _ (by simp) rfl ?_; intro v8 w8 ho8 hg8 hn8; have HO8 := Lib.hid ho8; have HB8 : Hid (Below w2.heap.size w2 w8) := (HB6.out.setCell (p := ⟨wo.heap.size, 1, none⟩) (show w2.heap.size ≤ wo.heap.size from hsz) (.int .i64 S)).grown hg8 (by simp; exact HB6.out.size) (fun b hb => (HO6.out.ownlt b hb).1); clear ho8 hg8 hn8)
              | (refine wpList_push_arc (wo.alloc (.cells #[.int .i64 S, .int .i64 y, .int .i64 z] 55)) (S, y, z) rfl (.tmp 75) (.tmp 77) rfl w2.heap.size _ acc.length acc rfl (by exact HO3.out S) (by omega) (by simp; omega) _ (by simp) rfl ?_; intro v6 w6 ho6 hg6 hn6; have HO6 := Lib.hid ho6; have HA6 : Hid (Blk w6 wo.heap.size 55 #[.int .i64 S, .int .i64 y, .int .i64 z]) := (HA.out S).grown hg6 (fun e => by have := HOW.out _ e.symm; omega); have HB6 : Hid (Below w2.heap.size w2 w6) := (Hbl.out.trans ((HBA.out S).mono hsz)).grown hg6 (by simp; omega) (fun b hb => ((HO3.out S).ownlt b hb).1); have b0 := HA6.out.c0; have b1 := HA6.out.c1; have b2 := HA6.out.c2; have fz := HA6.out.frozen 1; have j6 := (HK2.out.keep HB6.out).c1; have HN6 : Hid (∀ g, v6.ownBlock = some g → g ≠ wo.heap.size) := (fun g e => by rcases hn6 with h6 | ⟨d, h6, hd⟩; (· have := HOW.out g (h6.symm.trans e); omega); (· rw [h6] at e; injection e with e; simp at hd; omega)); clear ho6 hg6 hn6))
            go_roundw
            case rel =>
              have h9 := HO8.out
              rw [show acc.length + 1 + 1 = ((acc ++ [(S, y, z)]) ++ [(S, S, z)]).length by simp] at h9
              first | exact ⟨k + 1, (t + 1), _, hlt, by go_num, by omega, by go_num, by simp; omega, h9, HQ, HB8.out⟩ | ((repeat apply Exists.intro); exact ⟨⟨k + 1, (t + 1), _, hlt, by go_num, by omega, by go_num, by simp; omega, h9, HQ, HB8.out⟩, rfl⟩)
            case measure => simp [intOf]; omega
          · have h5 : (y == p) = false := by simp [hyp]
            have HQ : Hid ((acc ++ [(S, y, z)]) ++ splitL S p (bitS set) (t + 1) (xs.drop (k + 1)) = splitL S p (bitS set) 0 xs) := by show _ = _; rw [← HNX.out]; simp [splitOne, hyp]
            clear hyp
            go_wp2_with (at_builtin; refine wpList_push_arc (wo.alloc (.cells #[.int .i64 S, .int .i64 y, .int .i64 z] 55)) (S, y, z) rfl (.tmp 75) (.tmp 77) rfl w2.heap.size _ acc.length acc rfl (by exact HO3.out S) (by omega) (by simp; omega) _ (by simp) rfl ?_; intro v6 w6 ho6 hg6 hn6; have HO6 := Lib.hid ho6; have HA6 : Hid (Blk w6 wo.heap.size 55 #[.int .i64 S, .int .i64 y, .int .i64 z]) := (HA.out S).grown hg6 (fun e => by have := HOW.out _ e.symm; omega); have HB6 : Hid (Below w2.heap.size w2 w6) := (Hbl.out.trans ((HBA.out S).mono hsz)).grown hg6 (by simp; omega) (fun b hb => ((HO3.out S).ownlt b hb).1); have b0 := HA6.out.c0; have b1 := HA6.out.c1; have b2 := HA6.out.c2; have fz := HA6.out.frozen 1; have j6 := (HK2.out.keep HB6.out).c1; have HN6 : Hid (∀ g, v6.ownBlock = some g → g ≠ wo.heap.size) := (fun g e => by rcases hn6 with h6 | ⟨d, h6, hd⟩; (· have := HOW.out g (h6.symm.trans e); omega); (· rw [h6] at e; injection e with e; simp at hd; omega)); clear ho6 hg6 hn6)
            go_roundw
            case rel =>
              have h9 := HO6.out
              rw [show acc.length + 1 = (acc ++ [(S, y, z)]).length by simp] at h9
              first | exact ⟨k + 1, (t + 1), _, hlt, by go_num, by omega, by go_num, by simp; omega, h9, HQ, HB6.out⟩ | ((repeat apply Exists.intro); exact ⟨⟨k + 1, (t + 1), _, hlt, by go_num, by omega, by go_num, by simp; omega, h9, HQ, HB6.out⟩, rfl⟩)
            case measure => simp [intOf]; omega
      · have h1 : (x == p) = false := by simp [hxp]
        have HNX := Lib.hid (HST.out.2.2 hxp)
        clear hxp HST
        by_cases hyp : y = p
        · have h5 : (y == p) = true := by simp [hyp]
          have HQ : Hid ((acc ++ [(x, y, z)]) ++ [(x, S, z)] ++ splitL S p (bitS set) t (xs.drop (k + 1)) = splitL S p (bitS set) 0 xs) := by show _ = _; rw [← HNX.out]; simp [splitOne, hyp]
          clear hyp
          go_wp2_with (at_builtin; first
            | (refine wpList_push_arc (w6.setCell ⟨wo.heap.size, 1, none⟩ (.int .i64 S)) (x, S, z) rfl (.tmp 86) (.tmp 88) rfl w2.heap.size _ (acc.length + 1) _ rfl (by exact HO6.out.setFar (fun e => HN6.out _ e rfl) _) (by omega) (by simp; have := HB6.out.size; omega) _ (by simp) rfl ?_; intro v8 w8 ho8 hg8 hn8; have HO8 := Lib.hid ho8; have HB8 : Hid (Below w2.heap.size w2 w8) := (HB6.out.setCell (p := ⟨wo.heap.size, 1, none⟩) (show w2.heap.size ≤ wo.heap.size from hsz) (.int .i64 S)).grown hg8 (by simp; exact HB6.out.size) (fun b hb => (HO6.out.ownlt b hb).1); clear ho8 hg8 hn8)
            | (refine wpList_push_arc (wo.alloc (.cells #[.int .i64 x, .int .i64 y, .int .i64 z] 55)) (x, y, z) rfl (.tmp 75) (.tmp 77) rfl w2.heap.size _ acc.length acc rfl (by exact HO3.out x) (by omega) (by simp; omega) _ (by simp) rfl ?_; intro v6 w6 ho6 hg6 hn6; have HO6 := Lib.hid ho6; have HA6 : Hid (Blk w6 wo.heap.size 55 #[.int .i64 x, .int .i64 y, .int .i64 z]) := (HA.out x).grown hg6 (fun e => by have := HOW.out _ e.symm; omega); have HB6 : Hid (Below w2.heap.size w2 w6) := (Hbl.out.trans ((HBA.out x).mono hsz)).grown hg6 (by simp; omega) (fun b hb => ((HO3.out x).ownlt b hb).1); have b0 := HA6.out.c0; have b1 := HA6.out.c1; have b2 := HA6.out.c2; have fz := HA6.out.frozen 1; have j6 := (HK2.out.keep HB6.out).c1; have HN6 : Hid (∀ g, v6.ownBlock = some g → g ≠ wo.heap.size) := (fun g e => by rcases hn6 with h6 | ⟨d, h6, hd⟩; (· have := HOW.out g (h6.symm.trans e); omega); (· rw [h6] at e; injection e with e; simp at hd; omega)); clear ho6 hg6 hn6))
          go_roundw
          case rel =>
            have h9 := HO8.out
            rw [show acc.length + 1 + 1 = ((acc ++ [(x, y, z)]) ++ [(x, S, z)]).length by simp] at h9
            first | exact ⟨k + 1, t, _, hlt, by go_num, by omega, by go_num, by simp; omega, h9, HQ, HB8.out⟩ | ((repeat apply Exists.intro); exact ⟨⟨k + 1, t, _, hlt, by go_num, by omega, by go_num, by simp; omega, h9, HQ, HB8.out⟩, rfl⟩)
          case measure => simp [intOf]; omega
        · have h5 : (y == p) = false := by simp [hyp]
          have HQ : Hid ((acc ++ [(x, y, z)]) ++ splitL S p (bitS set) t (xs.drop (k + 1)) = splitL S p (bitS set) 0 xs) := by show _ = _; rw [← HNX.out]; simp [splitOne, hyp]
          clear hyp
          go_wp2_with (at_builtin; refine wpList_push_arc (wo.alloc (.cells #[.int .i64 x, .int .i64 y, .int .i64 z] 55)) (x, y, z) rfl (.tmp 75) (.tmp 77) rfl w2.heap.size _ acc.length acc rfl (by exact HO3.out x) (by omega) (by simp; omega) _ (by simp) rfl ?_; intro v6 w6 ho6 hg6 hn6; have HO6 := Lib.hid ho6; have HA6 : Hid (Blk w6 wo.heap.size 55 #[.int .i64 x, .int .i64 y, .int .i64 z]) := (HA.out x).grown hg6 (fun e => by have := HOW.out _ e.symm; omega); have HB6 : Hid (Below w2.heap.size w2 w6) := (Hbl.out.trans ((HBA.out x).mono hsz)).grown hg6 (by simp; omega) (fun b hb => ((HO3.out x).ownlt b hb).1); have b0 := HA6.out.c0; have b1 := HA6.out.c1; have b2 := HA6.out.c2; have fz := HA6.out.frozen 1; have j6 := (HK2.out.keep HB6.out).c1; have HN6 : Hid (∀ g, v6.ownBlock = some g → g ≠ wo.heap.size) := (fun g e => by rcases hn6 with h6 | ⟨d, h6, hd⟩; (· have := HOW.out g (h6.symm.trans e); omega); (· rw [h6] at e; injection e with e; simp at hd; omega)); clear ho6 hg6 hn6)
          go_roundw
          case rel =>
            have h9 := HO6.out
            rw [show acc.length + 1 = (acc ++ [(x, y, z)]).length by simp] at h9
            first | exact ⟨k + 1, t, _, hlt, by go_num, by omega, by go_num, by simp; omega, h9, HQ, HB6.out⟩ | ((repeat apply Exists.intro); exact ⟨⟨k + 1, t, _, hlt, by go_num, by omega, by go_num, by simp; omega, h9, HQ, HB6.out⟩, rfl⟩)
          case measure => simp [intOf]; omega
    · have hkn : k = n := by omega
      have HEQ : Hid (acc = splitL S p (bitS set) 0 xs) := by
        show _ = _
        have := heq.out
        rw [hkn, List.drop_eq_nil_of_le (by have := HL.out; omega)] at this
        simpa [splitL] using this
      have HO := Lib.hid hown
      obtain ⟨ag, cg, rfl, hra⟩ := hown.form
      have HRA := Lib.hid hra
      have HRW := Lib.hid (HR2.out.keep hbl)
      have HKW := Lib.hid (HK2.out.keep hbl)
      have HS0 : Hid (wo.drew.cell? ⟨w.heap.size, 0, none⟩ = some (.int .i64 L) ∧ wo.drew.cell? ⟨w.heap.size, 1, none⟩ = some (.int .i64 S)) := ⟨HKW.out.c0, HKW.out.c1⟩
      have hacc2 : acc.length ≤ 1048576 := by omega
      have HBz := Lib.hid (step2 HBW.out hbl)
      have hwz : w.heap.size + 1 < wo.heap.size := HRW.out.lt
      have hwS1 : IntKind.i64.wrap (S + 1) = S + 1 := by rw [IntKind.wrap_i64]; omega
      clear heq hown hbl k1 hra
      go_wp2_with fail
      refine region_T (S := fun W => W.cell? ⟨w.heap.size, 0, none⟩ = some (.int .i64 L) ∧ W.cell? ⟨w.heap.size, 1, none⟩ = some (.int .i64 S)) (t := 8) (by kernel_rfl) ?_
      clear k2
      try simp only [Act.put, List.setIfInBounds_toArray, List.set_cons_zero, List.set_cons_succ]
      refine anyT_take (i := 0) (v := ?v0) rfl (by kernel_rfl) (by kernel_rfl) (by kernel_rfl) (by kernel_rfl) (fun _ _ _ h => h) (Or.inl ⟨by rfl, ?hy0⟩) HS0.out ?rest0
      case hy0 =>
        intro W hSw
        (try dsimp only at hSw)
        obtain ⟨s0, s1⟩ := hSw
        go_simp
        try with_reducible rfl
      try simp only [Act.put, List.setIfInBounds_toArray, List.set_cons_zero, List.set_cons_succ]
      refine anyT_take (i := 1) (v := ?v1) rfl (by kernel_rfl) (by kernel_rfl) (by kernel_rfl) (by kernel_rfl) (fun _ _ _ h => h) (Or.inl ⟨by rfl, ?hy1⟩) HS0.out ?rest1
      case hy1 =>
        intro W hSw
        (try dsimp only at hSw)
        obtain ⟨s0, s1⟩ := hSw
        go_simp
        try with_reducible rfl
      try simp only [Act.put, List.setIfInBounds_toArray, List.set_cons_zero, List.set_cons_succ]
      refine anyT_take (i := 2) (v := ?v2) rfl (by kernel_rfl) (by kernel_rfl) (by kernel_rfl) (by kernel_rfl) (fun _ _ _ h => h) (Or.inl ⟨by rfl, ?hy2⟩) HS0.out ?rest2
      case hy2 =>
        intro W hSw
        (try dsimp only at hSw)
        obtain ⟨s0, s1⟩ := hSw
        go_simp
        try with_reducible rfl
      try simp only [Act.put, List.setIfInBounds_toArray, List.set_cons_zero, List.set_cons_succ]
      refine anyT_take (i := 3) (v := ?v3) rfl (by kernel_rfl) (by kernel_rfl) (by kernel_rfl) (by kernel_rfl) (fun _ _ _ h => h) (Or.inl ⟨by rfl, ?hy3⟩) HS0.out ?rest3
      case hy3 =>
        intro W hSw
        (try dsimp only at hSw)
        obtain ⟨s0, s1⟩ := hSw
        go_simp
        try with_reducible rfl
      try simp only [Act.put, List.setIfInBounds_toArray, List.set_cons_zero, List.set_cons_succ]
      refine anyT_take (i := 4) (v := ?v4) rfl (by kernel_rfl) (by kernel_rfl) (by kernel_rfl) (by kernel_rfl) (fun _ _ _ h => h) (Or.inl ⟨by rfl, ?hy4⟩) HS0.out ?rest4
      case hy4 =>
        intro W hSw
        (try dsimp only at hSw)
        obtain ⟨s0, s1⟩ := hSw
        go_simp
        try with_reducible rfl
      try simp only [Act.put, List.setIfInBounds_toArray, List.set_cons_zero, List.set_cons_succ]
      refine anyT_take (i := 5) (v := ?v5) rfl (by kernel_rfl) (by kernel_rfl) (by kernel_rfl) (by kernel_rfl) (fun _ _ _ h => h) (Or.inl ⟨by rfl, ?hy5⟩) HS0.out ?rest5
      case hy5 =>
        intro W hSw
        (try dsimp only at hSw)
        obtain ⟨s0, s1⟩ := hSw
        go_simp
        try with_reducible rfl
      try simp only [Act.put, List.setIfInBounds_toArray, List.set_cons_zero, List.set_cons_succ]
      refine anyT_one (i := 6) (by kernel_rfl) rfl (fun K hK => ?_)
      go_simp
      go_at_call 41
      refine (sSort_any _ _ _ acc wo.drew (HRA.out.drewN 1) hacc2).mono ?_
      rintro e w5 ⟨v5, rfl, ho5, hb5⟩
      have HB5 : Hid (Below wo.heap.size wo w5) := (below_drewN (Below.refl _ wo) 1).trans (hb5.mono (Nat.le_refl _))
      have HS5 : Hid (w5.cell? ⟨w.heap.size, 0, none⟩ = some (.int .i64 L) ∧ w5.cell? ⟨w.heap.size, 1, none⟩ = some (.int .i64 S)) := ⟨(HKW.out.keep HB5.out).c0, (HKW.out.keep HB5.out).c1⟩
      have HR5 := Lib.hid (HRW.out.keep HB5.out)
      have ho5 := ho5.mono (lo' := wo.heap.size) (Nat.le_refl _)
      rw [HEQ.out, HSO.out] at ho5
      obtain ⟨a5, c5, rfl, _⟩ := ho5.form
      have HO5 := Lib.hid ho5
      clear ho5 hb5
      refine hK _ _ (fun _ => HS5.out) ?_
      clear hK K
      try simp only [Act.put, List.setIfInBounds_toArray, List.set_cons_zero, List.set_cons_succ]
      refine anyT_take (i := 7) (v := ?v7) rfl (by kernel_rfl) (by kernel_rfl) (by kernel_rfl) (by kernel_rfl) (fun _ _ _ h => h) (Or.inl ⟨by rfl, ?hy7⟩) HS5.out ?rest7
      case hy7 =>
        intro W hSw
        (try dsimp only at hSw)
        obtain ⟨s0, s1⟩ := hSw
        go_simp
        try with_reducible rfl
      have b0 := HR5.out.c0
      have b1 := HR5.out.c1
      have b2 := HR5.out.c2
      have f0 := HR5.out.frozen 0
      have f1 := HR5.out.frozen 1
      have f2 := HR5.out.frozen 2
      try simp only [Act.put, List.setIfInBounds_toArray, List.set_cons_zero, List.set_cons_succ]
      refine anyT_one (i := 8) (by kernel_rfl) rfl (fun K hK => ?_)
      go_simp
      refine hK _ _ (fun h => absurd rfl h) ?_
      clear hK K
      refine anyT_one (i := 9) (by kernel_rfl) rfl (fun K hK => ?_)
      go_simp
      refine hK _ _ (fun _ => ?_) ?_
      · have q := (((HKW.out.keep HB5.out).other (p := ⟨w.heap.size + 1, 0, none⟩) (Nat.ne_of_lt (Nat.lt_succ_self _)) (.int .i64 L)).other (p := ⟨w.heap.size + 1, 1, none⟩) (Nat.ne_of_lt (Nat.lt_succ_self _)) (.int .i64 (S + 1))).other (p := ⟨w.heap.size + 1, 2, none⟩) (Nat.ne_of_lt (Nat.lt_succ_self _)) (.slice a5 (splX L S xs p set).length c5)
        exact ⟨q.c0, q.c1⟩
      clear hK K
      refine anyT_done (by kernel_rfl) ?_
      go_wp2_with fail
      refine bodyPost_ret (v := .tuple #[.agg #[.int .i64 L, .int .i64 (S + 1), .slice a5 (splX L S xs p set).length c5], .bool true]) (by simp [results, Try.results16, go_sem, *]) rfl ?_
      have hne : (Value.slice a5 (splX L S xs p set).length c5).ownBlock ≠ some (w.heap.size + 1) := fun e => by have := (HO5.out.ownlt _ e).1; omega
      exact ⟨_, rfl, (((HO5.out.setFar (p := ⟨w.heap.size + 1, 0, none⟩) hne _).setFar (p := ⟨w.heap.size + 1, 1, none⟩) hne _).setFar (p := ⟨w.heap.size + 1, 2, none⟩) hne _).mono (by omega), below_lab (HBz.out.trans (HB5.out.mono (by omega))) (Nat.le_succ _) _ _ _⟩
theorem sSplitState_any (L S : Int) (ao : Option Addr) (n cap : Nat) (xs : List Ar) (p set : Int) (w : World) (h : Arcs w ao n xs) :
    Calls Try.prog 16 #[.agg #[.int .i64 L, .int .i64 S, .slice ao n cap], .int .i64 p, .int .i64 set] w fun e w' => ∃ v, e = .returned (.tuple #[.agg #[.int .i64 (splL L S xs p set), .int .i64 (splS L S xs p set), v], .bool (splOk L S xs p set)]) ∧ OArcs w' w.heap.size v (splX L S xs p set).length (splX L S xs p set) ∧ Below w.heap.size w w' := by
  cases hok : splOk L S xs p set
  · have := sSplit_bad L S ao n cap xs p set w h hok
    rwa [hok] at this
  · have := sSplit_ok L S ao n cap xs p set w h hok
    rwa [hok] at this
end Go.Proofs.Ytmkodbkbgpjgoaa
