/- SInsort: a part of the proofs of this seat. -/
import Derived.StillTailTactics
import Derived.BigQuiet
import Derived.Test.YtmkodbkbgpjgoaaProg
import Derived.Test.YtmkodbkbgpjgoaaEG0b
import Derived.Test.YtmkodbkbgpjgoaaEG0c
namespace Go.Proofs.Ytmkodbkbgpjgoaa
open Go.RowKit
set_option linter.all false
/- spec.l14Sort inserts. -/
theorem ins_step {xs out R : List Ar} {k : Nat} {x : Ar} (hx : xs[k]? = some x) (h : (xs.drop k).foldl insS out = R) : (xs.drop (k + 1)).foldl insS (insS out x) = R := by
  rw [drop_of_get hx, List.foldl_cons] at h
  exact h
theorem ins_end {xs out R : List Ar} {k : Nat} (hk : xs.length ≤ k) (h : (xs.drop k).foldl insS out = R) : out = R := by
  rw [drop_all xs k hk] at h
  exact h
theorem pos_down {out : List Ar} {x y : Ar} {q P : Nat} (hy : out[q]? = some y) (h : posG out x (q + 1) = P) : (ltA x y = true → posG out x q = P) ∧ (ltA x y = false → P = q + 1) := by
  have e : out.getD q (0, 0, 0) = y := by simp [List.getD, hy]
  unfold posG at h
  rw [e] at h
  constructor
  · intro hl; rw [if_pos hl] at h; exact h
  · intro hl; rw [if_neg (by simp [hl])] at h; exact h.symm
theorem OArcs.cutTo {w : World} {lo n i : Nat} {ao : Option Addr} {cap : Nat} {ys : List Ar} (h : OArcs w lo (.slice ao n cap) n ys) (hi : i ≤ n) : OArcs w lo (.slice ao i cap) i (ys.take i) := by
  have hl := h.len
  refine ⟨by have := h.1; omega, by rw [arCells_len]; simp [hl]; omega, ?_⟩
  rcases h.2.2 with ⟨e, hn⟩ | ⟨g', c, cur, e, hg, hh, hnc, hcm, hs, ht⟩
  · left
    have hz : i = 0 := by omega
    subst hz
    injection e with e1 e2 e3
    subst e1
    subst e3
    exact ⟨rfl, rfl⟩
  · right
    injection e with e1 e2 e3
    subst e1
    subst e3
    refine ⟨g', cap, cur, rfl, hg, hh, by omega, hcm, hs, ?_⟩
    have e5 : arCells (ys.take i) = (arCells ys).take (i * 3) := by
      have h6 := arCells_app (ys.take i) (ys.drop i)
      rw [List.take_append_drop] at h6
      have h7 : (arCells (ys.take i)).length = i * 3 := by rw [arCells_len]; simp [hl]; omega
      rw [h6, ← h7, List.take_left]
    rw [e5, ← ht, List.take_take]
    congr 1
    omega
theorem OArcs.dropped {w : World} {lo n i g cap : Nat} {ys : List Ar} (h : OArcs w lo (.slice (some ⟨g, 0, none⟩) n cap) n ys) (hi : i ≤ n) : Arcs w (some ⟨g, i * 3, none⟩) (n - i) (ys.drop i) := by
  have hl := h.len
  refine ⟨by simp [hl], by have := h.1; omega, fun j x hj => ⟨g, i * 3, rfl, ?_⟩⟩
  rw [List.getElem?_drop] at hj
  obtain ⟨c1, c2, c3⟩ := h.cells hj
  rw [show i * 3 + j * 3 = (i + j) * 3 by omega]
  exact ⟨c1, c2, c3⟩
theorem sizeOf_arc (w : World) : (sizeOf 55).run Try.prog w = .ok 3 w := Try.sizeOf55 w
theorem elem_arcs : Try.prog.elem 24 = 55 := by kernel_rfl
theorem slice_toA (a : Option Addr) (len cap j : Nat) (hj : j ≤ cap) (w : World) :
    (Instr.slice 24 (.slice a len cap) none (some (.int .i64 (j : Int))) none).run Try.prog w = .ok (.slice a j cap) w := by
  rw [run_slice_h (P := Try.prog) w 24 a len cap (by rw [elem_arcs]; exact Try.underlying24) .i64 (j : Int) (by omega) (by omega), elem_arcs, sizeOf_arc]
  cases a <;> simp [sliced, Result.andThen, Addr.add]
theorem slice_fromA (g len cap j : Nat) (hj : j ≤ len) (w : World) :
    (Instr.slice 24 (.slice (some ⟨g, 0, none⟩) len cap) (some (.int .i64 (j : Int))) none none).run Try.prog w = .ok (.slice (if cap = j then some ⟨g, 0, none⟩ else some ⟨g, j * 3, none⟩) (len - j) (cap - j)) w := by
  rw [run_slice_l (P := Try.prog) w 24 (some ⟨g, 0, none⟩) len cap (by rw [elem_arcs]; exact Try.underlying24) .i64 (j : Int) (by omega) (by omega), elem_arcs, sizeOf_arc]
  by_cases e : j = 0
  · subst e
    simp [sliced, Result.andThen, Addr.add]
  · have e3 : ¬ j * 3 = 0 := by omega
    simp [sliced, Result.andThen, Addr.add, e3]
theorem OArcs.dropped2 {w : World} {lo n i g cap : Nat} {ys : List Ar} (h : OArcs w lo (.slice (some ⟨g, 0, none⟩) n cap) n ys) (hi : i ≤ n) : Arcs w (if cap = i then some ⟨g, 0, none⟩ else some ⟨g, i * 3, none⟩) (n - i) (ys.drop i) := by
  by_cases e : cap = i
  · rw [if_pos e]
    have hc := h.capLe rfl
    have hl := h.len
    have hz : n - i = 0 := by omega
    rw [hz, List.drop_of_length_le (by omega)]
    exact ⟨rfl, by omega, fun j x hj => by simp at hj⟩
  · rw [if_neg e]; exact h.dropped hi
theorem ins_at {out : List Ar} {x : Ar} {p : Nat} (h : posG out x out.length = p) (hne : p = 0 ∨ ∃ y, out[p - 1]? = some y ∧ y ≠ x) : insS out x = out.take p ++ x :: out.drop p := by
  unfold insS
  simp only [h]
  rw [if_neg]
  rintro ⟨h1, h2⟩
  rcases hne with h3 | ⟨y, h3, h4⟩
  · omega
  · apply h4
    rw [← h2, List.getD, h3]
    rfl
theorem ins_dup {out : List Ar} {x : Ar} {p : Nat} (h : posG out x out.length = p) (h0 : 0 < p) (h1 : out[p - 1]? = some x) : insS out x = out := by
  unfold insS
  simp only [h]
  rw [if_pos]
  exact ⟨h0, by simp [List.getD, h1]⟩
set_option maxRecDepth 20000 in
set_option maxHeartbeats 6400000 in
theorem sSort_any (ao : Option Addr) (n cap : Nat) (xs : List Ar) (w : World) (h : Arcs w ao n xs) (hn : n ≤ 1048576) :
    Calls Try.prog 41 #[.slice ao n cap] w fun e w' => ∃ v, e = .returned v ∧ OArcs w' w.heap.size v (sortS xs).length (sortS xs) ∧ Below w.heap.size w w' := by
  have HL : Hid (xs.length = n) := h.1
  have H := Lib.hid h
  clear h
  have HE := Lib.hid (OArcs.empty w w.heap.size (Nat.le_refl _))
  have HBE := Lib.hid (below1 w (.cells #[] 55))
  go_enter Try.func41, Try.ntmps41
  go_wp2_with fail
  go_loopw [3, 4] (fun v x wr => ∃ (k g cp : Nat) (out : List Ar), k ≤ n ∧ x = .int .i64 k ∧ v = .slice (some ⟨g, 0, none⟩) out.length cp ∧ out.length ≤ k ∧ OArcs wr w.heap.size v out.length out ∧ Hid ((xs.drop k).foldl insS out = sortS xs) ∧ Below w.heap.size w wr) (fun _ x _ => n - (intOf x).toNat)
  case atStart => exact ⟨0, _, _, [], Nat.zero_le _, rfl, rfl, Nat.le_refl _, HE.out, rfl, HBE.out⟩
  case round =>
    obtain ⟨k, g, cp, out, hk, rfl, rfl, hol, hown, heq, hbl⟩ := hrel
    obtain ⟨wo, rfl⟩ : ∃ wo : World, wo = wr := ⟨_, rfl⟩
    clear HE HBE
    by_cases hlt : k < n
    · obtain ⟨M, hM⟩ : ∃ M, out.length = M := ⟨_, rfl⟩
      rw [hM] at hown hol
      simp only [hM]
      have HMl := Lib.hid hM
      have Hown := Lib.hid hown
      have Hbl := Lib.hid hbl
      obtain ⟨b, o, x, y, z, rfl, c1, c2, c3, hx⟩ := H.out.at_ hlt
      have HX := Lib.hid hx.out
      have HR0 := Lib.hid heq.out
      clear hown hbl c1 c2 c3 hx heq hM
      go_wp2_with fail
      go_loopw [5] (fun v wr => ∃ p : Nat, p ≤ M ∧ v = .int .i64 p ∧ Hid (posG out (x, y, z) p = posG out (x, y, z) out.length) ∧ Below wo.heap.size wo wr) (fun v _ => (intOf v).toNat)
      case atStart => exact ⟨M, Nat.le_refl _, rfl, by rw [HMl.out]; rfl, Below.refl _ _⟩
      case round =>
        obtain ⟨p, hp, rfl, hpos, hbi⟩ := hrel
        obtain ⟨wi, rfl⟩ : ∃ wi : World, wi = wr := ⟨_, rfl⟩
        have Hbi := Lib.hid hbi
        have HOi := Lib.hid (Hown.out.keep hbi)
        have HAi := Lib.hid ((H.out.keep Hbl.out).keep hbi)
        have HBi := Lib.hid (step2 Hbl.out hbi)
        obtain ⟨b', o', x', y', z', e', c1, c2, c3, hx'⟩ := HAi.out.at_ hlt
        injection e' with e'
        injection e' with e1 e2
        subst e1
        subst e2
        have e9 := hx'.out
        rw [HX.out] at e9
        injection e9 with e9
        injection e9 with e10 e11
        injection e11 with e12 e13
        subst e10
        subst e12
        subst e13
        clear hx' hbi
        rcases Nat.eq_zero_or_pos p with hp0 | hp0
        · have hd0 : decide (0 < p) = false := decide_eq_false (by omega)
          have HIN : Hid (insS out (x, y, z) = out.take p ++ (x, y, z) :: out.drop p) := ins_at (by rw [← hpos.out, hp0]; rfl) (.inl hp0)
          have HOW := HOi
          have HBW := HBi
          have hcp := Hown.out.capLe rfl
          obtain ⟨pa, hpa⟩ : ∃ pa : Option Addr, (if cp = p then some ⟨g, 0, none⟩ else some ⟨g, p * 3, none⟩) = pa := ⟨_, rfl⟩
          have hs1 := slice_fromA g M cp p hp
          rw [hpa] at hs1
          have hs2 := slice_toA (some ⟨g, 0, none⟩) M cp p (by omega)
          have hdr := HOW.out.dropped2 hp
          rw [hpa] at hdr
          have HDR := Lib.hid hdr
          have HFAR : Hid (∀ {wz : World} {vz : Value} {nz : Nat} {zs : List Ar}, OArcs wz wi.heap.size vz nz zs → vz.ownBlock = none ∨ vz.ownBlock ≠ (Value.slice (some ⟨g, 0, none⟩) p cp).ownBlock) := fun hz => .inr (fun e => by
            have := (hz.ownlt g e).1
            have := HOW.out.lt
            omega)
          have HNX := Lib.hid (ins_step HX.out HR0.out)
          clear hpa hdr
          clear hpos hp0
          go_wp2_with fail
          go_quiet (fail)
          go_wp2_with fail
          go_quiet (fail)
          clear hd0
          go_wp2_with (at_builtin; refine wpList_app_arcs _ rfl (.tmp 46) (.tmp 49) rfl wi.heap.size _ 0 [] rfl (OArcs.empty _ _ (Nat.le_refl _)) pa (M - p) (cp - p) (out.drop p) rfl (HDR.out.keep ((below_drewN (Below.refl _ _) _).alloc (Nat.le_refl _) _)) (by omega) (by simp) ?_; intro v7 w7 ho7 hg7 _; rw [Nat.zero_add, List.nil_append] at ho7; obtain ⟨a7, c7, rfl, hi7⟩ := ho7.form; have HO7 := Lib.hid ho7; have HB7 : Hid (Below wi.heap.size wi w7) := ((below_drewN (Below.refl _ _) _).alloc (Nat.le_refl _) _).grown hg7 (by simp) (fun b hb => ((OArcs.empty _ _ (Nat.le_refl _)).ownlt b hb).1); have f1 := (HB7.out.cell (World.block_lt_of_cell? _ _ c1)).trans c1; have f2 := (HB7.out.cell (World.block_lt_of_cell? _ _ c2)).trans c2; have f3 := (HB7.out.cell (World.block_lt_of_cell? _ _ c3)).trans c3; have HC7 := Lib.hid ((HOW.out.keep HB7.out).cutTo hp); have HB71 := Lib.hid (step2 HBW.out HB7.out); clear ho7 hg7 hi7)
          go_region_law (first
            | (refine step_of_wp rfl (wp_app_arcs w8 (.tmp 59) (.tmp 60) rfl w.heap.size _ (p + 1) _ rfl (by exact HO8.out) _ _ _ (out.drop p) rfl (by exact HR8.out) (by omega) (by exact HB8.out.size) ?_); intro v9 w9 ho9 hg9 hn9; have HO9 := Lib.hid ho9; have HB9 : Hid (Below w.heap.size w w9) := HB8.out.grown hg9 HB8.out.size (fun b hb => (HO8.out.ownlt b hb).1); clear ho9 hg9 hn9)
            | (refine step_of_wp rfl (wp_push_arc w7.drew (x, y, z) (.tmp 53) (.tmp 58) rfl w.heap.size _ p (out.take p) rfl (by exact HC7.out) (by omega) (by exact HB71.out.size) _ rfl rfl ?_); intro v8 w8 ho8 hg8 hn8; have hg8 : w7.drew.grownBy w8 (Value.slice (some ⟨g, 0, none⟩) p cp).ownBlock := hg8; obtain ⟨a8, c8, rfl, _⟩ := ho8.form; have HO8 := Lib.hid ho8; have HR8 : Hid (Arcs w8 a7 (M - p) (out.drop p)) := ((show OArcs w7.drew _ _ _ _ from HO7.out).grown hg8 (HFAR.out HO7.out)).read; have HB8 : Hid (Below w.heap.size w w8) := (show Below w.heap.size w w7.drew from HB71.out.drew).grown hg8 HB71.out.size (fun b hb => (HC7.out.ownlt b hb).1); clear ho8 hg8 hn8))
          all_goals
            go_wp2_with fail
            have h9 := HO9.out
            rw [show p + 1 + (M - p) = M + 1 by omega, List.append_assoc, List.singleton_append, ← HIN.out] at h9
            have hil := h9.len
            obtain ⟨g9, c9, rfl⟩ := h9.head (by omega)
            go_roundw
            case rel =>
              first | exact ⟨k + 1, g9, c9, insS out (x, y, z), hlt, by go_num, by rw [hil], by rw [hil]; omega, by rw [hil]; exact h9, HNX.out, HB9.out⟩ | ((repeat apply Exists.intro); exact ⟨⟨k + 1, g9, c9, insS out (x, y, z), hlt, by go_num, by rw [hil], by rw [hil]; omega, by rw [hil]; exact h9, HNX.out, HB9.out⟩, rfl⟩)
            case measure => (simp [intOf] <;> omega)
        · obtain ⟨q, hq⟩ : ∃ q, p = q + 1 := ⟨p - 1, by omega⟩
          have hw : IntKind.i64.wrap ((p : Int) - 1) = (q : Int) := by rw [IntKind.wrap_i64]; omega
          have hd0 : decide ((0 : Int) < (p : Int)) = true := decide_eq_true (by omega)
          have hqM : q < M := by omega
          have hqo : q < out.length := by rw [HMl.out]; exact hqM
          obtain ⟨⟨a1, a2, a3⟩, hy⟩ : ∃ y0, out[q]? = some y0 := ⟨_, List.getElem?_eq_getElem hqo⟩
          obtain ⟨d1, d2, d3⟩ := HOi.out.cells hy
          have h0 := hpos.out
          rw [hq] at h0
          have HPD := Lib.hid (pos_down hy h0)
          have HY := Lib.hid hy
          have HQ := Lib.hid hq
          clear hpos hq hqo h0 hy
          cases b4 : ltA (x, y, z) (a1, a2, a3)
          · have B4 := Lib.hid b4
            have HPE : Hid (posG out (x, y, z) out.length = p) := by show _ = _; rw [HPD.out.2 b4, HQ.out]
            clear b4 HPD
            go_wp2_with fail
            go_still_tail 12, (by kernel_rfl)
            repeat still_step
            (first | refine wpStill_nil ?_ | skip)
            change wpList _ _ _ _ _ wi.drew
            go_wp2_with (go_at_call 45; refine (sBefore_any _ _ _ _ _ _ _).mono ?_; rw [B4.out]; rintro e w6 ⟨rfl, hb6⟩; have HB6 : Hid (Below wi.heap.size wi w6) := (below_drewN (Below.refl _ _) 1).trans (show Below wi.heap.size _ _ from hb6); clear hb6)
            have HOW := Lib.hid (HOi.out.keep HB6.out)
            have HBW := Lib.hid (step2 HBi.out HB6.out)
            have d1 := (HB6.out.cell (World.block_lt_of_cell? _ _ d1)).trans d1
            have d2 := (HB6.out.cell (World.block_lt_of_cell? _ _ d2)).trans d2
            have d3 := (HB6.out.cell (World.block_lt_of_cell? _ _ d3)).trans d3
            have c1 := (HB6.out.cell (World.block_lt_of_cell? _ _ c1)).trans c1
            have c2 := (HB6.out.cell (World.block_lt_of_cell? _ _ c2)).trans c2
            have c3 := (HB6.out.cell (World.block_lt_of_cell? _ _ c3)).trans c3
            have HYp : Hid (out[p - 1]? = some (a1, a2, a3)) := by show _ = _; rw [show p - 1 = q by have := HQ.out; omega]; exact HY.out
            have hp0' : 0 < p := by have := HQ.out; omega
            by_cases hxy : (a1, a2, a3) = (x, y, z)
            · have HIN : Hid (insS out (x, y, z) = out) := ins_dup HPE.out hp0' (by rw [HYp.out, hxy])
              have HNX := Lib.hid (ins_step HX.out HR0.out)
              rw [HIN.out] at HNX
              injection hxy with e1 e2
              injection e2 with e2 e3
              subst e1
              subst e2
              subst e3
              clear hp0'
              go_wp2_with fail
              go_quiet (fail)
              go_wp2_with fail
              go_roundw
              case rel => first | exact ⟨k + 1, g, cp, out, hlt, by go_num, by rw [HMl.out], by rw [HMl.out]; omega, by rw [HMl.out]; exact HOW.out.drewN _, HNX.out, below_drewN HBW.out _⟩ | ((repeat apply Exists.intro); exact ⟨⟨k + 1, g, cp, out, hlt, by go_num, by rw [HMl.out], by rw [HMl.out]; omega, by rw [HMl.out]; exact HOW.out.drewN _, HNX.out, below_drewN HBW.out _⟩, rfl⟩)
              case measure => (simp [intOf] <;> omega)
            · have HIN : Hid (insS out (x, y, z) = out.take p ++ (x, y, z) :: out.drop p) := ins_at HPE.out (.inr ⟨_, HYp.out, hxy⟩)
              have hcp := Hown.out.capLe rfl
              obtain ⟨pa, hpa⟩ : ∃ pa : Option Addr, (if cp = p then some ⟨g, 0, none⟩ else some ⟨g, p * 3, none⟩) = pa := ⟨_, rfl⟩
              have hs1 := slice_fromA g M cp p hp
              rw [hpa] at hs1
              have hs2 := slice_toA (some ⟨g, 0, none⟩) M cp p (by omega)
              have hdr := HOW.out.dropped2 hp
              rw [hpa] at hdr
              have HDR := Lib.hid hdr
              have HFAR : Hid (∀ {wz : World} {vz : Value} {nz : Nat} {zs : List Ar}, OArcs wz w6.heap.size vz nz zs → vz.ownBlock = none ∨ vz.ownBlock ≠ (Value.slice (some ⟨g, 0, none⟩) p cp).ownBlock) := fun hz => .inr (fun e => by
                have := (hz.ownlt g e).1
                have := HOW.out.lt
                omega)
              have HNX := Lib.hid (ins_step HX.out HR0.out)
              clear hpa hdr
              clear hp0'
              by_cases e1 : a1 = x
              · by_cases e2 : a2 = y
                · have e3 : a3 ≠ z := fun e => hxy (by rw [e1, e2, e])
                  have h1 : (a1 == x) = true := by simp [e1]
                  have h2 : (a2 == y) = true := by simp [e2]
                  have h3 : (a3 == z) = false := by simp [e3]
                  clear e1 e2 e3 hxy
                  go_wp2_with fail
                  go_quiet (fail)
                  clear h1 h2 h3
                  go_wp2_with (at_builtin; refine wpList_app_arcs _ rfl (.tmp 46) (.tmp 49) rfl w6.heap.size _ 0 [] rfl (OArcs.empty _ _ (Nat.le_refl _)) pa (M - p) (cp - p) (out.drop p) rfl (HDR.out.keep ((below_drewN (Below.refl _ _) _).alloc (Nat.le_refl _) _)) (by omega) (by simp) ?_; intro v7 w7 ho7 hg7 _; rw [Nat.zero_add, List.nil_append] at ho7; obtain ⟨a7, c7, rfl, hi7⟩ := ho7.form; have HO7 := Lib.hid ho7; have HB7 : Hid (Below w6.heap.size w6 w7) := ((below_drewN (Below.refl _ _) _).alloc (Nat.le_refl _) _).grown hg7 (by simp) (fun b hb => ((OArcs.empty _ _ (Nat.le_refl _)).ownlt b hb).1); have f1 := (HB7.out.cell (World.block_lt_of_cell? _ _ c1)).trans c1; have f2 := (HB7.out.cell (World.block_lt_of_cell? _ _ c2)).trans c2; have f3 := (HB7.out.cell (World.block_lt_of_cell? _ _ c3)).trans c3; have HC7 := Lib.hid ((HOW.out.keep HB7.out).cutTo hp); have HB71 := Lib.hid (step2 HBW.out HB7.out); clear ho7 hg7 hi7)
                  go_region_law (first
                    | (refine step_of_wp rfl (wp_app_arcs w8 (.tmp 59) (.tmp 60) rfl w.heap.size _ (p + 1) _ rfl (by exact HO8.out) _ _ _ (out.drop p) rfl (by exact HR8.out) (by omega) (by exact HB8.out.size) ?_); intro v9 w9 ho9 hg9 hn9; have HO9 := Lib.hid ho9; have HB9 : Hid (Below w.heap.size w w9) := HB8.out.grown hg9 HB8.out.size (fun b hb => (HO8.out.ownlt b hb).1); clear ho9 hg9 hn9)
                    | (refine step_of_wp rfl (wp_push_arc w7.drew (x, y, z) (.tmp 53) (.tmp 58) rfl w.heap.size _ p (out.take p) rfl (by exact HC7.out) (by omega) (by exact HB71.out.size) _ rfl rfl ?_); intro v8 w8 ho8 hg8 hn8; have hg8 : w7.drew.grownBy w8 (Value.slice (some ⟨g, 0, none⟩) p cp).ownBlock := hg8; obtain ⟨a8, c8, rfl, _⟩ := ho8.form; have HO8 := Lib.hid ho8; have HR8 : Hid (Arcs w8 a7 (M - p) (out.drop p)) := ((show OArcs w7.drew _ _ _ _ from HO7.out).grown hg8 (HFAR.out HO7.out)).read; have HB8 : Hid (Below w.heap.size w w8) := (show Below w.heap.size w w7.drew from HB71.out.drew).grown hg8 HB71.out.size (fun b hb => (HC7.out.ownlt b hb).1); clear ho8 hg8 hn8))
                  all_goals
                    go_wp2_with fail
                    have h9 := HO9.out
                    rw [show p + 1 + (M - p) = M + 1 by omega, List.append_assoc, List.singleton_append, ← HIN.out] at h9
                    have hil := h9.len
                    obtain ⟨g9, c9, rfl⟩ := h9.head (by omega)
                    go_roundw
                    case rel =>
                      first | exact ⟨k + 1, g9, c9, insS out (x, y, z), hlt, by go_num, by rw [hil], by rw [hil]; omega, by rw [hil]; exact h9, HNX.out, HB9.out⟩ | ((repeat apply Exists.intro); exact ⟨⟨k + 1, g9, c9, insS out (x, y, z), hlt, by go_num, by rw [hil], by rw [hil]; omega, by rw [hil]; exact h9, HNX.out, HB9.out⟩, rfl⟩)
                    case measure => (simp [intOf] <;> omega)
                · have h1 : (a1 == x) = true := by simp [e1]
                  have h2 : (a2 == y) = false := by simp [e2]
                  clear e1 e2 hxy
                  go_wp2_with fail
                  go_quiet (fail)
                  clear h1 h2
                  go_wp2_with (at_builtin; refine wpList_app_arcs _ rfl (.tmp 46) (.tmp 49) rfl w6.heap.size _ 0 [] rfl (OArcs.empty _ _ (Nat.le_refl _)) pa (M - p) (cp - p) (out.drop p) rfl (HDR.out.keep ((below_drewN (Below.refl _ _) _).alloc (Nat.le_refl _) _)) (by omega) (by simp) ?_; intro v7 w7 ho7 hg7 _; rw [Nat.zero_add, List.nil_append] at ho7; obtain ⟨a7, c7, rfl, hi7⟩ := ho7.form; have HO7 := Lib.hid ho7; have HB7 : Hid (Below w6.heap.size w6 w7) := ((below_drewN (Below.refl _ _) _).alloc (Nat.le_refl _) _).grown hg7 (by simp) (fun b hb => ((OArcs.empty _ _ (Nat.le_refl _)).ownlt b hb).1); have f1 := (HB7.out.cell (World.block_lt_of_cell? _ _ c1)).trans c1; have f2 := (HB7.out.cell (World.block_lt_of_cell? _ _ c2)).trans c2; have f3 := (HB7.out.cell (World.block_lt_of_cell? _ _ c3)).trans c3; have HC7 := Lib.hid ((HOW.out.keep HB7.out).cutTo hp); have HB71 := Lib.hid (step2 HBW.out HB7.out); clear ho7 hg7 hi7)
                  go_region_law (first
                    | (refine step_of_wp rfl (wp_app_arcs w8 (.tmp 59) (.tmp 60) rfl w.heap.size _ (p + 1) _ rfl (by exact HO8.out) _ _ _ (out.drop p) rfl (by exact HR8.out) (by omega) (by exact HB8.out.size) ?_); intro v9 w9 ho9 hg9 hn9; have HO9 := Lib.hid ho9; have HB9 : Hid (Below w.heap.size w w9) := HB8.out.grown hg9 HB8.out.size (fun b hb => (HO8.out.ownlt b hb).1); clear ho9 hg9 hn9)
                    | (refine step_of_wp rfl (wp_push_arc w7.drew (x, y, z) (.tmp 53) (.tmp 58) rfl w.heap.size _ p (out.take p) rfl (by exact HC7.out) (by omega) (by exact HB71.out.size) _ rfl rfl ?_); intro v8 w8 ho8 hg8 hn8; have hg8 : w7.drew.grownBy w8 (Value.slice (some ⟨g, 0, none⟩) p cp).ownBlock := hg8; obtain ⟨a8, c8, rfl, _⟩ := ho8.form; have HO8 := Lib.hid ho8; have HR8 : Hid (Arcs w8 a7 (M - p) (out.drop p)) := ((show OArcs w7.drew _ _ _ _ from HO7.out).grown hg8 (HFAR.out HO7.out)).read; have HB8 : Hid (Below w.heap.size w w8) := (show Below w.heap.size w w7.drew from HB71.out.drew).grown hg8 HB71.out.size (fun b hb => (HC7.out.ownlt b hb).1); clear ho8 hg8 hn8))
                  all_goals
                    go_wp2_with fail
                    have h9 := HO9.out
                    rw [show p + 1 + (M - p) = M + 1 by omega, List.append_assoc, List.singleton_append, ← HIN.out] at h9
                    have hil := h9.len
                    obtain ⟨g9, c9, rfl⟩ := h9.head (by omega)
                    go_roundw
                    case rel =>
                      first | exact ⟨k + 1, g9, c9, insS out (x, y, z), hlt, by go_num, by rw [hil], by rw [hil]; omega, by rw [hil]; exact h9, HNX.out, HB9.out⟩ | ((repeat apply Exists.intro); exact ⟨⟨k + 1, g9, c9, insS out (x, y, z), hlt, by go_num, by rw [hil], by rw [hil]; omega, by rw [hil]; exact h9, HNX.out, HB9.out⟩, rfl⟩)
                    case measure => (simp [intOf] <;> omega)
              · have h1 : (a1 == x) = false := by simp [e1]
                clear e1 hxy
                go_wp2_with fail
                go_quiet (fail)
                clear h1
                go_wp2_with (at_builtin; refine wpList_app_arcs _ rfl (.tmp 46) (.tmp 49) rfl w6.heap.size _ 0 [] rfl (OArcs.empty _ _ (Nat.le_refl _)) pa (M - p) (cp - p) (out.drop p) rfl (HDR.out.keep ((below_drewN (Below.refl _ _) _).alloc (Nat.le_refl _) _)) (by omega) (by simp) ?_; intro v7 w7 ho7 hg7 _; rw [Nat.zero_add, List.nil_append] at ho7; obtain ⟨a7, c7, rfl, hi7⟩ := ho7.form; have HO7 := Lib.hid ho7; have HB7 : Hid (Below w6.heap.size w6 w7) := ((below_drewN (Below.refl _ _) _).alloc (Nat.le_refl _) _).grown hg7 (by simp) (fun b hb => ((OArcs.empty _ _ (Nat.le_refl _)).ownlt b hb).1); have f1 := (HB7.out.cell (World.block_lt_of_cell? _ _ c1)).trans c1; have f2 := (HB7.out.cell (World.block_lt_of_cell? _ _ c2)).trans c2; have f3 := (HB7.out.cell (World.block_lt_of_cell? _ _ c3)).trans c3; have HC7 := Lib.hid ((HOW.out.keep HB7.out).cutTo hp); have HB71 := Lib.hid (step2 HBW.out HB7.out); clear ho7 hg7 hi7)
                go_region_law (first
                  | (refine step_of_wp rfl (wp_app_arcs w8 (.tmp 59) (.tmp 60) rfl w.heap.size _ (p + 1) _ rfl (by exact HO8.out) _ _ _ (out.drop p) rfl (by exact HR8.out) (by omega) (by exact HB8.out.size) ?_); intro v9 w9 ho9 hg9 hn9; have HO9 := Lib.hid ho9; have HB9 : Hid (Below w.heap.size w w9) := HB8.out.grown hg9 HB8.out.size (fun b hb => (HO8.out.ownlt b hb).1); clear ho9 hg9 hn9)
                  | (refine step_of_wp rfl (wp_push_arc w7.drew (x, y, z) (.tmp 53) (.tmp 58) rfl w.heap.size _ p (out.take p) rfl (by exact HC7.out) (by omega) (by exact HB71.out.size) _ rfl rfl ?_); intro v8 w8 ho8 hg8 hn8; have hg8 : w7.drew.grownBy w8 (Value.slice (some ⟨g, 0, none⟩) p cp).ownBlock := hg8; obtain ⟨a8, c8, rfl, _⟩ := ho8.form; have HO8 := Lib.hid ho8; have HR8 : Hid (Arcs w8 a7 (M - p) (out.drop p)) := ((show OArcs w7.drew _ _ _ _ from HO7.out).grown hg8 (HFAR.out HO7.out)).read; have HB8 : Hid (Below w.heap.size w w8) := (show Below w.heap.size w w7.drew from HB71.out.drew).grown hg8 HB71.out.size (fun b hb => (HC7.out.ownlt b hb).1); clear ho8 hg8 hn8))
                all_goals
                  go_wp2_with fail
                  have h9 := HO9.out
                  rw [show p + 1 + (M - p) = M + 1 by omega, List.append_assoc, List.singleton_append, ← HIN.out] at h9
                  have hil := h9.len
                  obtain ⟨g9, c9, rfl⟩ := h9.head (by omega)
                  go_roundw
                  case rel =>
                    first | exact ⟨k + 1, g9, c9, insS out (x, y, z), hlt, by go_num, by rw [hil], by rw [hil]; omega, by rw [hil]; exact h9, HNX.out, HB9.out⟩ | ((repeat apply Exists.intro); exact ⟨⟨k + 1, g9, c9, insS out (x, y, z), hlt, by go_num, by rw [hil], by rw [hil]; omega, by rw [hil]; exact h9, HNX.out, HB9.out⟩, rfl⟩)
                  case measure => (simp [intOf] <;> omega)
          · have B4 := Lib.hid b4
            have HN := Lib.hid (HPD.out.1 b4)
            clear b4 HPD
            go_wp2_with fail
            go_still_tail 12, (by kernel_rfl)
            repeat still_step
            (first | refine wpStill_nil ?_ | skip)
            change wpList _ _ _ _ _ wi.drew
            go_wp2_with (go_at_call 45; refine (sBefore_any _ _ _ _ _ _ _).mono ?_; rw [B4.out]; rintro e w6 ⟨rfl, hb6⟩; have HB6 := Lib.hid hb6; clear hb6)
            go_roundw
            case rel => exact ⟨q, by omega, by go_num, HN.out, Hbi.out.trans (((below_drewN (Below.refl _ _) 1).trans (show Below wi.heap.size _ _ from HB6.out)).mono Hbi.out.size)⟩
            case measure => have := HQ.out; (simp [intOf] <;> omega)
    · have HR := Lib.hid (ins_end (by have := HL.out; omega) heq.out)
      clear heq
      go_wp2_with fail
      go_ret
      have e9 := HR.out
      rw [← e9]
      exact ⟨_, rfl, hown, hbl⟩
end Go.Proofs.Ytmkodbkbgpjgoaa
