/- Parts of the proof of a law, joined: ArcPush WordT SIsWord SBefore PrunT EncT DecT IComp SortArc InsT SplitT EncL SplR TxtT WordsT Cursor Draw1 Draw2 Draw2p SSplB SFormat SRead1 ParseD StrsApp Occ AvS. -/
import Derived.Test.YtmkodbkbgpjgoaaProg
import Derived.StillTailTactics
import Derived.Test.YtmkodbkbgpjgoaaSort
import Derived.Lib.ItoaLen
import Derived.Laws.BytesString
import Derived.Laws.Cells
import Derived.Lib.AppendStr
import Derived.Lib.Join
import Derived.Laws.Bits128
import Derived.Maps.AppendAt
import Derived.Deep.AppendLies
import Derived.BigQuiet
import Derived.Test.YtmkodbkbgpjgoaaEG0a
namespace Go.Proofs.Ytmkodbkbgpjgoaa
open Go.RowKit
set_option linter.all false
theorem info_arc_parts : ∃ i, Try.prog.info? 55 = some i ∧ i.zero = some (.agg #[.int .i64 0, .int .i64 0, .int .i64 0]) ∧ i.size = 3 ∧ i.bytes = 24 := info_parts info_arc
theorem arcs_oneCell : ∀ (xs : List Ar), ∀ u ∈ arCells xs, u.oneCell' = true
  | [], u, h => by simp [arCells] at h
  | x :: r, u, h => by
    simp only [arCells, List.mem_cons] at h
    rcases h with rfl | rfl | rfl | h
    · rfl
    · rfl
    · rfl
    · exact arcs_oneCell r u h

theorem wp_push_arc {o : Oper} {a : Act} {K0 : Act → World → Prop} {Q : Exit → Act → World → Prop} (W : World) (y : Ar) (s x : Operand)
    (ho : o.op = .call { callee := .builtin .append, args := #[s, x], argTypes := #[24, 24] })
    (lo : Nat) (v : Value) (n : Nat) (xs : List Ar) (hs : a.eval s = v) (h : OArcs W lo v n xs) (hn : n + 1 ≤ 1099511627776) (hlo : lo ≤ W.heap.size)
    (tb : Nat) (htb : tb = W.heap.size) (hx : a.eval x = .slice (some ⟨tb, 0, none⟩) 1 1)
    (K : ∀ v' w', OArcs w' lo v' (n + 1) (xs ++ [y]) → W.grownBy w' v.ownBlock → NewOr W.heap.size v v' → K0 (a.put o.dst v') w') : o.wp Try.prog a (W.alloc (.cells #[.int .i64 y.1, .int .i64 y.2.1, .int .i64 y.2.2] 55)) K0 Q := by
  subst htb
  obtain ⟨i0, hi, hz0, hz1, hz2⟩ := info_arc_parts
  have hc : ∀ j u, ([.int .i64 y.1, .int .i64 y.2.1, .int .i64 y.2.2] : List Value)[j]? = some u → (W.alloc (.cells #[.int .i64 y.1, .int .i64 y.2.1, .int .i64 y.2.2] 55)).cell? ((⟨W.heap.size, 0, none⟩ : Addr).add j) = some u := by
    intro j u hj
    rw [Addr.add_lit, Nat.zero_add, (Blk.new W _ _).cell j]
    match j, hj with
    | 0, hj => exact hj
    | 1, hj => exact hj
    | 2, hj => exact hj
    | j + 3, hj => simp at hj
  obtain ⟨v', w', hr, h2, h3, _, h5⟩ := run_append_own_at (P := Try.prog) (W.alloc (.cells #[.int .i64 y.1, .int .i64 y.2.1, .int .i64 y.2.2] 55)) lo 24 o.type 55 i0 (.agg #[.int .i64 0, .int .i64 0, .int .i64 0]) 3 24 Try.underlying24 hi hz0 hz1 hz2 rfl (by decide) v n _ (h.alloc _).2 ⟨W.heap.size, 0, none⟩ 1 1 [.int .i64 y.1, .int .i64 y.2.1, .int .i64 y.2.2] rfl
    hc (arcs_oneCell [y]) (by unfold maxLen; omega) (by omega) (by simp; omega)
  unfold Oper.wp execOp
  simp only [ho, resolve, invoke, builtin, Sem.run_bind, Sem.run_pure, Result.andThen_ok, List.map_toArray, List.map_cons, List.map_nil, hs, hx, hr]
  refine K v' w' ⟨hn, ?_⟩ ((grown_alloc W _ _).trans h3) ?_
  · rw [arCells_app]; exact h2
  · rcases h5 with h5 | h5
    · exact .inl h5
    · exact .inr ⟨_, h5, by simp⟩

theorem wpList_push_arc {ops : Array Oper} {rest : List Oper} {o : Oper} {a : Act} {Q : Exit → Act → World → Prop} (W : World) (y : Ar) (hgd : o.guard = none) (s x : Operand)
    (ho : o.op = .call { callee := .builtin .append, args := #[s, x], argTypes := #[24, 24] })
    (lo : Nat) (v : Value) (n : Nat) (xs : List Ar) (hs : a.eval s = v) (h : OArcs W lo v n xs) (hn : n + 1 ≤ 1099511627776) (hlo : lo ≤ W.heap.size)
    (tb : Nat) (htb : tb = W.heap.size) (hx : a.eval x = .slice (some ⟨tb, 0, none⟩) 1 1)
    (K : ∀ v' w', OArcs w' lo v' (n + 1) (xs ++ [y]) → W.grownBy w' v.ownBlock → NewOr W.heap.size v v' → wpList Try.prog ops Q rest (a.put o.dst v') w') : wpList Try.prog ops Q (o :: rest) a (W.alloc (.cells #[.int .i64 y.1, .int .i64 y.2.1, .int .i64 y.2.2] 55)) := by
  refine wpList_plain hgd fun K' hK => ?_
  exact wp_push_arc W y s x ho lo v n xs hs h hn hlo tb htb hx fun v' w' h1 h2 h3 => hK _ _ (K v' w' h1 h2 h3)


set_option maxRecDepth 8000 in
theorem wp_app_arcs {o : Oper} {a : Act} {K0 : Act → World → Prop} {Q : Exit → Act → World → Prop} (w : World) (s x : Operand)
    (ho : o.op = .call { callee := .builtin .append, args := #[s, x], argTypes := #[24, 24] })
    (lo : Nat) (v : Value) (n : Nat) (xs : List Ar) (hs : a.eval s = v) (h : OArcs w lo v n xs)
    (ao : Option Addr) (m c : Nat) (ys : List Ar) (hx : a.eval x = .slice ao m c) (hy : Arcs w ao m ys) (hn : n + m ≤ 1099511627776)
    (hlo : lo ≤ w.heap.size)
    (K : ∀ v' w', OArcs w' lo v' (n + m) (xs ++ ys) → w.grownBy w' v.ownBlock → NewOr w.heap.size v v' → K0 (a.put o.dst v') w') : o.wp Try.prog a w K0 Q := by
  obtain ⟨i0, hi, hz0, hz1, hz2⟩ := info_arc_parts
  rcases ao with _ | ad
  · have hm : m = 0 := by
      rcases Nat.eq_zero_or_pos m with h0 | h0
      · exact h0
      · obtain ⟨y, hy'⟩ : ∃ y, ys[0]? = some y := ⟨_, List.getElem?_eq_getElem (by rw [hy.1]; exact h0)⟩
        obtain ⟨b, o', e, _⟩ := hy.2.2 0 y hy'
        cases e
    subst hm
    have hyn : ys = [] := List.eq_nil_of_length_eq_zero hy.1
    subst hyn
    have hrun := run_append_nil_src (ty := o.type) (lo := lo) Try.underlying24 hi h.2 c
    unfold Oper.wp execOp
    simp only [ho, resolve, invoke, builtin, Sem.run_bind, Sem.run_pure, Result.andThen_ok, List.map_toArray, List.map_cons, List.map_nil, hs, hx, hrun]
    exact (K v w (by simpa using h) (World.grownBy.refl w _) (.inl rfl))
  · have hcells : ∀ j u, (arCells ys)[j]? = some u → w.cell? (ad.add j) = some u := by
      intro j u hu
      have hj : j < ys.length * 3 := by rw [← arCells_len]; exact (List.getElem?_eq_some_iff.1 hu).1
      obtain ⟨q, hq⟩ : ∃ q, q = j / 3 := ⟨_, rfl⟩
      obtain ⟨y, hy'⟩ : ∃ y, ys[q]? = some y := ⟨_, List.getElem?_eq_getElem (by omega)⟩
      obtain ⟨b, o', e, c1, c2, c3⟩ := hy.2.2 _ y hy'
      obtain ⟨d1, d2, d3⟩ := arCells_get ys _ y hy'
      injection e with e
      subst e
      rw [Addr.add_lit]
      have hj3 : j = q * 3 ∨ j = q * 3 + 1 ∨ j = q * 3 + 2 := by omega
      clear hq
      rcases hj3 with rfl | rfl | rfl
      · rw [← hu, d1]; exact c1
      · rw [← hu, d2]; exact c2
      · rw [← hu, d3]; exact c3
    obtain ⟨v', w', hr, h2, h3, _, h5⟩ := run_append_own_at (P := Try.prog) w lo 24 o.type 55 i0 (.agg #[.int .i64 0, .int .i64 0, .int .i64 0]) 3 24 Try.underlying24 hi hz0 hz1 hz2 rfl (by decide) v n _ h.2 ad m c (arCells ys) (by rw [arCells_len, hy.1])
      hcells (arcs_oneCell ys) (by unfold maxLen; omega) (by omega) hlo
    unfold Oper.wp execOp
    simp only [ho, resolve, invoke, builtin, Sem.run_bind, Sem.run_pure, Result.andThen_ok, List.map_toArray, List.map_cons, List.map_nil, hs, hx, hr]
    refine K v' w' ⟨hn, ?_⟩ h3 ?_
    · rw [arCells_app]; exact h2
    · rcases h5 with h5 | h5
      · exact .inl h5
      · exact .inr ⟨_, h5, Nat.le_refl _⟩
theorem wpList_app_arcs {ops : Array Oper} {rest : List Oper} {o : Oper} {a : Act} {Q : Exit → Act → World → Prop} (w : World) (hgd : o.guard = none) (s x : Operand)
    (ho : o.op = .call { callee := .builtin .append, args := #[s, x], argTypes := #[24, 24] })
    (lo : Nat) (v : Value) (n : Nat) (xs : List Ar) (hs : a.eval s = v) (h : OArcs w lo v n xs)
    (ao : Option Addr) (m c : Nat) (ys : List Ar) (hx : a.eval x = .slice ao m c) (hy : Arcs w ao m ys) (hn : n + m ≤ 1099511627776)
    (hlo : lo ≤ w.heap.size)
    (K : ∀ v' w', OArcs w' lo v' (n + m) (xs ++ ys) → w.grownBy w' v.ownBlock → NewOr w.heap.size v v' → wpList Try.prog ops Q rest (a.put o.dst v') w') : wpList Try.prog ops Q (o :: rest) a w := by
  refine wpList_plain hgd fun K' hK => ?_
  exact wp_app_arcs w s x ho lo v n xs hs h ao m c ys hx hy hn hlo fun v' w' h1 h2 h3 => hK _ _ (K v' w' h1 h2 h3)

/-- A labelled graph that grows: its block b, the result's block r. -/
structure Bld (w : World) (lo r b : Nat) (L S : Int) (v : Value) (xs : List Ar) : Prop where
  kb : Blk w b 26 #[.int .i64 L, .int .i64 S, v]
  kr : Blk w r 26 #[.int .i64 0, .int .i64 0, .slice none 0 0]
  o : OArcs w lo v xs.length xs
  nb : v.ownBlock ≠ some b
  nr : v.ownBlock ≠ some r
  ne : r ≠ b
  lb : lo ≤ b
  lr : lo ≤ r
section
variable {w w1 : World} {lo r b k : Nat} {L S : Int} {v v1 : Value} {xs ys : List Ar}
theorem Bld.keep (h : Bld w lo r b L S v xs) (hb : Below w.heap.size w w1) : Bld w1 lo r b L S v xs := ⟨h.kb.keep hb, h.kr.keep hb, h.o.keep hb, h.nb, h.nr, h.ne, h.lb, h.lr⟩
theorem Bld.grownB (h : Bld w lo r b L S v xs) (hg : w.grownBy w1 v.ownBlock) : Blk w1 b 26 #[.int .i64 L, .int .i64 S, v] := h.kb.grown hg (Ne.symm h.nb)
theorem NewOr.away {s : Nat} (hn : NewOr s v v1) {c : Nat} (h : v.ownBlock ≠ some c) (hc : c < s) : v1.ownBlock ≠ some c := by
  intro e
  rcases hn with h1 | ⟨d, h1, h2⟩
  · exact h (h1 ▸ e)
  · rw [h1] at e
    injection e with e
    omega
theorem Bld.pushed (h : Bld w lo r b L S v xs) (ho : OArcs w1 lo v1 (xs.length + k) (xs ++ ys)) (hk : ys.length = k) (hg : w.grownBy w1 v.ownBlock) (hn : NewOr w.heap.size v v1) : Bld (w1.setCell ⟨b, 2, none⟩ v1) lo r b L S v1 (xs ++ ys) := by
  have nb := hn.away h.nb h.kb.lt
  have nr := hn.away h.nr h.kr.lt
  refine ⟨?_, ?_, ?_, nb, nr, h.ne, h.lb, h.lr⟩
  · exact (h.grownB hg).set 2 v1
  · exact (h.kr.grown hg (Ne.symm h.nr)).other h.ne v1
  · have e : (xs ++ ys).length = xs.length + k := by rw [List.length_append, hk]
    rw [e]
    exact ho.setFar nb v1
theorem Bld.belowP {a : World} (h : Bld w lo r b L S v xs) (hb : Below lo a w) (hg : w.grownBy w1 v.ownBlock) (hl : lo ≤ w.heap.size) (u : Value) : Below lo a (w1.setCell ⟨b, 2, none⟩ u) :=
  (hb.grown hg hl fun c hc => (h.o.ownlt c hc).1).setCell (p := ⟨b, 2, none⟩) h.lb u
end
end Go.Proofs.Ytmkodbkbgpjgoaa

namespace Go.Proofs.Ytmkodbkbgpjgoaa
open Go.RowKit
set_option linter.all false
def bl (s : ByteArray) (i : Nat) : Nat := if h : i < s.size then s[i].toNat else 0
theorem bl_get {s : ByteArray} {i : Nat} (h : i < s.size) : bl s i = s[i].toNat := by simp [bl, h]
theorem bl_lt (s : ByteArray) (i : Nat) : bl s i < 256 := by
  unfold bl
  split
  · exact UInt8.toNat_lt _
  · omega
def okW (k : Int) (s : ByteArray) : Nat → Nat → Bool
  | _, 0 => true
  | i, m + 1 => (decide (97 ≤ bl s i) && decide ((bl s i : Int) - 97 < k)) && okW k s (i + 1) m
def isWd (k : Int) (s : ByteArray) : Bool := inR k 1 3 && (decide (s.size ≤ 16) && okW k s 0 s.size)
theorem okW_step {k : Int} {s : ByteArray} {i m : Nat} {b : Bool} (h : okW k s i (m + 1) = b) :
    (¬ 97 ≤ bl s i → b = false) ∧ (¬ (bl s i : Int) - 97 < k → b = false) ∧ (97 ≤ bl s i → (bl s i : Int) - 97 < k → okW k s (i + 1) m = b) := by
  refine ⟨fun e => ?_, fun e => ?_, fun e1 e2 => ?_⟩
  · simpa [okW, e] using h.symm
  · simpa [okW, e] using h.symm
  · simpa [okW, e1, e2] using h
theorem okW_get {k : Int} {s : ByteArray} : ∀ {m i j : Nat}, okW k s i m = true → i ≤ j → j < i + m → 97 ≤ bl s j ∧ (bl s j : Int) - 97 < k
  | 0, i, j, _, h1, h2 => by omega
  | m + 1, i, j, h, h1, h2 => by
    simp only [okW, Bool.and_eq_true, decide_eq_true_eq] at h
    by_cases e : i = j
    · subst e; exact h.1
    · exact okW_get h.2 (by omega) (by omega)
theorem isWd_get {k : Int} {s : ByteArray} (h : isWd k s = true) : s.size ≤ 16 ∧ ∀ j, j < s.size → 97 ≤ bl s j ∧ (bl s j : Int) - 97 < k := by
  simp only [isWd, Bool.and_eq_true, decide_eq_true_eq] at h
  exact ⟨h.2.1, fun j hj => okW_get h.2.2 (Nat.zero_le _) (by omega)⟩
end Go.Proofs.Ytmkodbkbgpjgoaa

namespace Go.Proofs.Ytmkodbkbgpjgoaa
open Go.RowKit
set_option linter.all false
set_option maxHeartbeats 1600000 in
theorem sIsWord_any (k : Int) (s : ByteArray) (w : World) (hs : s.size ≤ 1048576) : Calls Try.prog 35 #[.int .i64 k, .string s] w fun e w' => e = .returned (.bool (isWd k s)) ∧ w = w' := by
  go_enter Try.func35, Try.ntmps35
  go_wp2_with fail
  go_loop [5] (fun x => ∃ i : Nat, i ≤ s.size ∧ x = .int .i64 i ∧ Hid (okW k s i (s.size - i) = okW k s 0 s.size)) (fun x => s.size - (intOf x).toNat)
  case atStart => exact ⟨0, Nat.zero_le _, rfl, rfl⟩
  case round =>
    obtain ⟨i, hi, rfl, hr⟩ := hrel
    by_cases hlt : i < s.size
    · have hr2 := hr.out
      rw [show s.size - i = (s.size - (i + 1)) + 1 by omega] at hr2
      have HST := Lib.hid (okW_step hr2)
      clear hr hr2
      obtain ⟨c, hc⟩ : ∃ c : Nat, s[i].toNat = c := ⟨_, rfl⟩
      have hb : bl s i = c := (bl_get hlt).trans hc
      have hc2 : c < 256 := by rw [← hb]; exact bl_lt s i
      by_cases g1 : 97 ≤ c
      · have d : decide ((c : Int) < 97) = false := decide_eq_false (by omega)
        by_cases g2 : (c : Int) - 97 < k
        · have d2 : decide (k ≤ (c : Int) - 97) = false := decide_eq_false (by omega)
          have HN := Lib.hid (HST.out.2.2 (by rw [hb]; exact g1) (by rw [hb]; exact g2))
          clear hb g1 g2
          go_wp2_with fail
          go_round
          case rel => exact ⟨i + 1, hlt, by go_num, HN.out⟩
          case measure => simp [intOf]; omega
        · have d2 : decide (k ≤ (c : Int) - 97) = true := decide_eq_true (by omega)
          have HF := Lib.hid (HST.out.2.1 (by rw [hb]; exact g2))
          have HR : Hid (isWd k s = false) := by show _ = _; simp [isWd, HF.out]
          clear hb g1 g2
          go_wp2_with fail
          go_ret
          exact ⟨ret_bool HR.out.symm, rfl⟩
      · have d : decide ((c : Int) < 97) = true := decide_eq_true (by omega)
        have HF := Lib.hid (HST.out.1 (by rw [hb]; exact g1))
        have HR : Hid (isWd k s = false) := by show _ = _; simp [isWd, HF.out]
        clear hb g1
        go_wp2_with fail
        go_ret
        exact ⟨ret_bool HR.out.symm, rfl⟩
    · have HT : Hid (okW k s 0 s.size = true) := by show _ = _; rw [← hr.out, show s.size - i = 0 by omega]; rfl
      clear hr
      cases b1 : inR k 1 3
      · have B1 := Lib.hid b1
        have HR : Hid (isWd k s = false) := by show _ = _; simp [isWd, b1]
        clear b1
        go_wp2_with (go_at_call 34; refine (l1In_any _ _ _ _).mono ?_; rw [B1.out]; rintro e w' ⟨rfl, rfl⟩)
        go_ret
        exact ⟨ret_bool HR.out.symm, rfl⟩
      · have B1 := Lib.hid b1
        have HR : Hid (isWd k s = decide (s.size ≤ 16)) := by show _ = _; simp [isWd, b1, HT.out]
        clear b1
        by_cases h16 : s.size ≤ 16
        · have d : decide ((s.size : Int) ≤ 16) = true := decide_eq_true (by omega)
          go_wp2_with (go_at_call 34; refine (l1In_any _ _ _ _).mono ?_; rw [B1.out]; rintro e w' ⟨rfl, rfl⟩)
          go_ret
          exact ⟨ret_bool (by rw [HR.out]; simp [h16]), rfl⟩
        · have d : decide ((s.size : Int) ≤ 16) = false := decide_eq_false (by omega)
          go_wp2_with (go_at_call 34; refine (l1In_any _ _ _ _).mono ?_; rw [B1.out]; rintro e w' ⟨rfl, rfl⟩)
          go_ret
          exact ⟨ret_bool (by rw [HR.out]; simp [h16]), rfl⟩
end Go.Proofs.Ytmkodbkbgpjgoaa

namespace Go.Proofs.Ytmkodbkbgpjgoaa
open Go.RowKit
set_option linter.all false
set_option maxHeartbeats 1600000 in
theorem sBefore_any (x y z a b c : Int) (w : World) : Calls Try.prog 45 #[.agg #[.int .i64 x, .int .i64 y, .int .i64 z], .agg #[.int .i64 a, .int .i64 b, .int .i64 c]] w fun e w' => e = .returned (.bool (ltA (x, y, z) (a, b, c))) ∧ Below w.heap.size w w' := by
  by_cases h1 : x = a
  · have e1 : (x != a) = false := by simp [h1]
    by_cases h2 : z = c
    · have e2 : (z != c) = false := by simp [h2]
      have HE := Lib.hid (ltA_3 (x := (x, y, z)) (y := (a, b, c)) h1 h2)
      clear h1 h2
      go_enter Try.func45, Try.ntmps45
      go_wp2_with fail
      go_ret
      exact ⟨ret_bool HE.out.symm, below2 _ _ _⟩
    · have e2 : (z != c) = true := by simp [h2]
      have HE := Lib.hid (ltA_2 (x := (x, y, z)) (y := (a, b, c)) h1 h2)
      clear h1 h2
      go_enter Try.func45, Try.ntmps45
      go_wp2_with fail
      go_ret
      exact ⟨ret_bool HE.out.symm, below2 _ _ _⟩
  · have e1 : (x != a) = true := by simp [h1]
    have HE := Lib.hid (ltA_1 (x := (x, y, z)) (y := (a, b, c)) h1)
    clear h1
    go_enter Try.func45, Try.ntmps45
    go_wp2_with fail
    go_ret
    exact ⟨ret_bool HE.out.symm, below2 _ _ _⟩
end Go.Proofs.Ytmkodbkbgpjgoaa

namespace Go.Proofs.Ytmkodbkbgpjgoaa
open Go.RowKit
set_option linter.all false
def prn (xs : List Ar) : Nat → List Ar
  | 0 => []
  | p + 1 => prn xs p ++ (fromL (p : Nat) xs).take 2
def prL (L S : Int) (xs : List Ar) : Int := if isEnc L S xs then L else 0
def prS (L S : Int) (xs : List Ar) : Int := if isEnc L S xs then S else 0
def prX (L S : Int) (xs : List Ar) : List Ar := if isEnc L S xs then prn xs S.toNat else []
theorem prn_len (xs : List Ar) : ∀ p, (prn xs p).length ≤ 2 * p
  | 0 => Nat.le_refl _
  | p + 1 => by
    have := prn_len xs p
    simp only [prn, List.length_append, List.length_take]
    omega
theorem two_of {l : List Ar} (h : 2 ≤ l.length) : ∃ a b, l[0]? = some a ∧ l[1]? = some b ∧ l.take 2 = [a, b] := by
  match l, h with
  | a :: b :: r, _ => exact ⟨a, b, rfl, rfl, rfl⟩
theorem arcs_two (w : World) (a b : Ar) : Arcs (w.alloc (.cells #[.int .i64 a.1, .int .i64 a.2.1, .int .i64 a.2.2, .int .i64 b.1, .int .i64 b.2.1, .int .i64 b.2.2] 55)) (some ⟨w.heap.size, 0, none⟩) 2 [a, b] := by
  have hk := Blk.new w 55 #[.int .i64 a.1, .int .i64 a.2.1, .int .i64 a.2.2, .int .i64 b.1, .int .i64 b.2.1, .int .i64 b.2.2]
  refine ⟨rfl, by omega, fun i x hx => ⟨_, 0, rfl, ?_⟩⟩
  rw [Nat.zero_add, hk.cell, hk.cell, hk.cell]
  match i, hx with
  | 0, hx => simp at hx; subst hx; exact ⟨rfl, rfl, rfl⟩
  | 1, hx => simp at hx; subst hx; exact ⟨rfl, rfl, rfl⟩
  | i + 2, hx => simp at hx
theorem Arcs.get {w : World} {ao : Option Addr} {n t : Nat} {xs : List Ar} {a : Ar} (h : Arcs w ao n xs) (ht : xs[t]? = some a) : ∃ b o, ao = some ⟨b, o, none⟩ ∧ w.cell? ⟨b, o + t * 3, none⟩ = some (.int .i64 a.1) ∧ w.cell? ⟨b, o + t * 3 + 1, none⟩ = some (.int .i64 a.2.1) ∧ w.cell? ⟨b, o + t * 3 + 2, none⟩ = some (.int .i64 a.2.2) := h.2.2 t a ht
theorem Arcs.take {w : World} {ao : Option Addr} {n k : Nat} {xs : List Ar} (h : Arcs w ao n xs) (hk : k ≤ n) : Arcs w ao k (xs.take k) := by
  refine ⟨by rw [List.length_take, h.1]; omega, by have := h.2.1; omega, fun i x hi => ?_⟩
  rw [List.getElem?_take] at hi
  split at hi
  · exact h.2.2 i x hi
  · cases hi
theorem Ints.get {w : World} {ao : Option Addr} {n t : Nat} {xs : List Int} {a : Int} (h : Ints w ao n xs) (ht : xs[t]? = some a) : ∃ b o, ao = some ⟨b, o, none⟩ ∧ w.cell? ⟨b, o + t, none⟩ = some (.int .i64 a) := by
  obtain ⟨hl, _⟩ := List.getElem?_eq_some_iff.1 ht
  obtain ⟨b, o, e, hc⟩ := h.2.2 t hl
  exact ⟨b, o, e, by rw [hc]; simp [List.getD, ht]⟩
end Go.Proofs.Ytmkodbkbgpjgoaa

namespace Go.Proofs.Ytmkodbkbgpjgoaa
open Go.RowKit
set_option linter.all false
def armA (xs : List Ar) (p : Int) (c : Nat) : Ar := (fromL p xs).getD c (0, 0, 0)
def encF (xs : List Ar) (s : ByteArray) : Nat → Nat → Int → List Int × Int
  | _, 0, p => ([], p)
  | i, k + 1, p => ((armA xs p (bl s i - 97)).2.2 :: (encF xs s (i + 1) k (armA xs p (bl s i - 97)).2.1).1, (encF xs s (i + 1) k (armA xs p (bl s i - 97)).2.1).2)
def strOf (ls : List Int) : ByteArray := ⟨(ls.map fun l => UInt8.ofNat (97 + l.toNat)).toArray⟩
def encOk (L S : Int) (xs : List Ar) (p : Int) (s : ByteArray) : Bool := isEnc L S xs && (inR p 0 (S - 1) && isWd 2 s)
def encS (L S : Int) (xs : List Ar) (p : Int) (s : ByteArray) : ByteArray := if encOk L S xs p s then strOf (encF xs s 0 s.size p).1 else ByteArray.empty
def encQ (L S : Int) (xs : List Ar) (p : Int) (s : ByteArray) : Int := if encOk L S xs p s then (encF xs s 0 s.size p).2 else 0
theorem enc_step {xs : List Ar} {s : ByteArray} {i : Nat} {p y z : Int} {x : Int} {acc R : List Int} {q : Int} (hi : i < s.size) (ha : armA xs p (bl s i - 97) = (x, y, z))
    (h : acc ++ (encF xs s i (s.size - i) p).1 = R ∧ (encF xs s i (s.size - i) p).2 = q) : (acc ++ [z]) ++ (encF xs s (i + 1) (s.size - (i + 1)) y).1 = R ∧ (encF xs s (i + 1) (s.size - (i + 1)) y).2 = q := by
  rw [show s.size - i = (s.size - (i + 1)) + 1 by omega] at h
  simp only [encF, ha] at h
  simpa using h
theorem enc_end {xs : List Ar} {s : ByteArray} {i : Nat} {p : Int} {acc R : List Int} {q : Int} (hi : s.size ≤ i) (h : acc ++ (encF xs s i (s.size - i) p).1 = R ∧ (encF xs s i (s.size - i) p).2 = q) : acc = R ∧ p = q := by
  rw [show s.size - i = 0 by omega] at h
  simpa [encF] using h
theorem arm_get {xs : List Ar} {p : Int} {c : Nat} (h2 : 2 ≤ (fromL p xs).length) (hc : c < 2) : (fromL p xs)[c]? = some (armA xs p c) := by
  have hl : c < (fromL p xs).length := by omega
  simp [armA, List.getD, hl]
theorem ex0 : (⟨#[97, 98, 99]⟩ : ByteArray).extract 0 1 = ⟨#[97]⟩ := by decide
theorem ex1 : (⟨#[97, 98, 99]⟩ : ByteArray).extract 1 2 = ⟨#[98]⟩ := by decide
theorem ex2 : (⟨#[97, 98, 99]⟩ : ByteArray).extract 2 3 = ⟨#[99]⟩ := by decide
theorem app_one (a : ByteArray) (x : UInt8) : a ++ (⟨#[x]⟩ : ByteArray) = ⟨a.data ++ #[x]⟩ := by
  apply ByteArray.ext
  simp
theorem strOf_size (ls : List Int) : (strOf ls).size = ls.length := by simp [strOf, ByteArray.size]
theorem strOf_abc (acc : List Int) (z : Int) (h : 0 ≤ z ∧ z ≤ 2) : strOf acc ++ (⟨#[97, 98, 99]⟩ : ByteArray).extract z.toNat (z + 1).toNat = strOf (acc ++ [z]) := by
  have h3 : z = 0 ∨ z = 1 ∨ z = 2 := by omega
  rcases h3 with rfl | rfl | rfl
  · show strOf acc ++ (⟨#[97, 98, 99]⟩ : ByteArray).extract 0 1 = _
    rw [ex0, app_one]; simp [strOf]
  · show strOf acc ++ (⟨#[97, 98, 99]⟩ : ByteArray).extract 1 2 = _
    rw [ex1, app_one]; simp [strOf]
  · show strOf acc ++ (⟨#[97, 98, 99]⟩ : ByteArray).extract 2 3 = _
    rw [ex2, app_one]; simp [strOf]
theorem strOf_snoc (ls : List Int) (z : Int) : strOf (ls ++ [z]) = ⟨(strOf ls).data ++ #[UInt8.ofNat (97 + z.toNat)]⟩ := by simp [strOf]
end Go.Proofs.Ytmkodbkbgpjgoaa

namespace Go.Proofs.Ytmkodbkbgpjgoaa
open Go.RowKit
set_option linter.all false
def decF (xs : List Ar) (s : ByteArray) : Nat → Nat → Int → Option (List Int)
  | _, 0, _ => some []
  | i, k + 1, p => if (armA xs p 0).2.2 + 97 = (bl s i : Int) then (decF xs s (i + 1) k (armA xs p 0).2.1).map (fun r => 0 :: r)
    else if (armA xs p 1).2.2 + 97 = (bl s i : Int) then (decF xs s (i + 1) k (armA xs p 1).2.1).map (fun r => 1 :: r) else none
def decOk (L S : Int) (xs : List Ar) (p : Int) (s : ByteArray) : Bool := isEnc L S xs && (inR p 0 (S - 1) && (decide (s.size ≤ 16) && (decF xs s 0 s.size p).isSome))
def decS (L S : Int) (xs : List Ar) (p : Int) (s : ByteArray) : ByteArray := if decOk L S xs p s then strOf ((decF xs s 0 s.size p).getD []) else ByteArray.empty
def Dr (xs : List Ar) (s : ByteArray) (i : Nat) (p : Int) (acc : List Int) (R : Option (List Int)) : Prop := (decF xs s i (s.size - i) p).map (fun r => acc ++ r) = R
theorem dec_start (xs : List Ar) (s : ByteArray) (p : Int) : Dr xs s 0 p [] (decF xs s 0 s.size p) := by
  unfold Dr
  simp
section
variable {xs : List Ar} {s : ByteArray} {i : Nat} {p x y z : Int} {acc : List Int} {R : Option (List Int)}
theorem dec_0 (hi : i < s.size) (ha : armA xs p 0 = (x, y, z)) (hz : z + 97 = (bl s i : Int)) (h : Dr xs s i p acc R) : Dr xs s (i + 1) y (acc ++ [0]) R := by
  unfold Dr at *
  rw [show s.size - i = (s.size - (i + 1)) + 1 by omega] at h
  simp only [decF, ha, hz, if_true] at h
  rw [Option.map_map] at h
  rw [← h]
  congr 1
  funext r
  simp
theorem dec_1 (hi : i < s.size) {x0 y0 z0 : Int} (h0 : armA xs p 0 = (x0, y0, z0)) (hz0 : ¬ z0 + 97 = (bl s i : Int)) (ha : armA xs p 1 = (x, y, z)) (hz : z + 97 = (bl s i : Int)) (h : Dr xs s i p acc R) : Dr xs s (i + 1) y (acc ++ [1]) R := by
  unfold Dr at *
  rw [show s.size - i = (s.size - (i + 1)) + 1 by omega] at h
  simp only [decF, h0, if_neg hz0, ha, hz, if_true] at h
  rw [Option.map_map] at h
  rw [← h]
  congr 1
  funext r
  simp
theorem dec_no (hi : i < s.size) {x0 y0 z0 : Int} (h0 : armA xs p 0 = (x0, y0, z0)) (hz0 : ¬ z0 + 97 = (bl s i : Int)) (ha : armA xs p 1 = (x, y, z)) (hz : ¬ z + 97 = (bl s i : Int)) (h : Dr xs s i p acc R) : R = none := by
  unfold Dr at *
  rw [show s.size - i = (s.size - (i + 1)) + 1 by omega] at h
  simp only [decF, h0, if_neg hz0, ha, if_neg hz] at h
  exact h.symm
theorem dec_end (hi : s.size ≤ i) (h : Dr xs s i p acc R) : R = some acc := by
  unfold Dr at *
  rw [show s.size - i = 0 by omega] at h
  simpa [decF] using h.symm
end
/-- The first two arcs from a state of a resolving graph differ by their letters. -/
theorem two_differ {s l p : Int} {a b : Ar} : ∀ {xs : List Ar} {q q' : Option Ar}, okFrom s l q xs = true → resF q' xs = true → (fromL p xs)[0]? = some a → (fromL p xs)[1]? = some b → a.2.2 ≠ b.2.2
  | [], _, _, _, _, h, _ => by simp [fromL] at h
  | x :: r, q, q', ho, hr, h0, h1 => by
    simp only [okFrom, Bool.and_eq_true] at ho
    simp only [resF, Bool.and_eq_true] at hr
    by_cases hx : x.1 = p
    · rw [fromL, if_pos hx] at h0 h1
      simp at h0 h1
      subst h0
      match r, ho.2, hr.2, h1 with
      | [], _, _, h1 => simp [fromL] at h1
      | z :: r, ho2, hr2, h1 =>
        simp only [okFrom, Bool.and_eq_true] at ho2
        simp only [resF, Bool.and_eq_true] at hr2
        have hlt := ho2.1.2
        simp only [behind] at hlt
        have hle : x.1 ≤ z.1 := by
          simp only [ltA] at hlt
          split at hlt
          · have := of_decide_eq_true hlt; omega
          · rename_i h; simp at h; omega
        by_cases hz : z.1 = p
        · rw [fromL, if_pos hz] at h1
          simp at h1
          subst h1
          have hd := hr2.1
          simp only [differ] at hd
          intro e
          rw [e, hx, hz] at hd
          simp at hd
        · exact absurd h1 (by rw [later (p := p) ho2.2 (by omega) (by rw [hx] at hle; omega)] ; simp)
    · rw [fromL, if_neg hx] at h0 h1
      exact two_differ ho.2 hr.2 h0 h1
where
  later {s l p : Int} {z : Ar} : ∀ {r : List Ar}, okFrom s l (some z) r = true → z.1 ≠ p → p < z.1 → (fromL p (z :: r)) = []
  | [], _, h1, _ => by simp [fromL, h1]
  | y :: r, ho, h1, h2 => by
    simp only [okFrom, Bool.and_eq_true] at ho
    have hlt := ho.1.2
    simp only [behind] at hlt
    have hle : z.1 ≤ y.1 := by
      simp only [ltA] at hlt
      split at hlt
      · have := of_decide_eq_true hlt; omega
      · rename_i h; simp at h; omega
    have := later (p := p) ho.2 (by omega) (by omega)
    rw [fromL, if_neg h1]
    exact this
/-- What is decoded is a word. -/
theorem dec_word {L : Int} {m : Nat} {xs : List Ar} {s : ByteArray} (hA : ∀ (p : Nat) (c : Nat), p < m → c < 2 → 0 ≤ (armA xs p c).2.2 ∧ (armA xs p c).2.2 ≤ L - 1 ∧ 0 ≤ (armA xs p c).2.1 ∧ (armA xs p c).2.1 < m) :
    ∀ (k i p : Nat), p < m → (decF xs s i k p).isSome = true → okW L s i k = true
  | 0, _, _, _, _ => rfl
  | k + 1, i, p, hp, h => by
    have h0 := hA p 0 hp (by omega)
    have h1 := hA p 1 hp (by omega)
    rw [decF] at h
    split at h
    · rename_i e
      rw [Option.isSome_map] at h
      have hq : (armA xs p 0).2.1 = (((armA xs p 0).2.1.toNat : Nat) : Int) := by omega
      rw [hq] at h
      have := dec_word hA k (i + 1) _ (by omega) h
      simp only [okW, this, Bool.and_true, Bool.and_eq_true, decide_eq_true_eq]
      omega
    · split at h
      · rename_i e
        rw [Option.isSome_map] at h
        have hq : (armA xs p 1).2.1 = (((armA xs p 1).2.1.toNat : Nat) : Int) := by omega
        rw [hq] at h
        have := dec_word hA k (i + 1) _ (by omega) h
        simp only [okW, this, Bool.and_true, Bool.and_eq_true, decide_eq_true_eq]
        omega
      · simp at h
theorem dec_none : (if (none : Option (List Int)).isSome = true then strOf ((none : Option (List Int)).getD []) else ByteArray.empty) = ByteArray.empty := rfl
def resS (R : Option (List Int)) : ByteArray := match R with
  | some l => strOf l
  | none => ByteArray.empty
theorem ab0 : (⟨#[97, 98]⟩ : ByteArray).extract 0 1 = ⟨#[97]⟩ := by decide
theorem ab1 : (⟨#[97, 98]⟩ : ByteArray).extract 1 2 = ⟨#[98]⟩ := by decide
theorem strOf_ab0 (acc : List Int) : strOf acc ++ (⟨#[97, 98]⟩ : ByteArray).extract 0 1 = strOf (acc ++ [0]) := by rw [ab0, app_one]; simp [strOf]
theorem strOf_ab1 (acc : List Int) : strOf acc ++ (⟨#[97, 98]⟩ : ByteArray).extract 1 2 = strOf (acc ++ [1]) := by rw [ab1, app_one]; simp [strOf]
end Go.Proofs.Ytmkodbkbgpjgoaa

namespace Go.Proofs.Ytmkodbkbgpjgoaa
open Go.RowKit
set_option linter.all false
def cmpI (x y : Int) : Int := if x < y then -1 else if y < x then 1 else 0
def orI (a b c : Int) : Int := if a ≠ 0 then a else if b ≠ 0 then b else c
def cmpA (x y : Ar) : Int := orI (cmpI x.1 y.1) (cmpI x.2.2 y.2.2) (cmpI x.2.1 y.2.1)
theorem isNaN_any (x : Int) (w : World) : Calls Try.prog 71 #[.int .i64 x] w fun e w' => e = .returned (.bool false) ∧ w = w' := by
  have h : (x != x) = false := by simp
  go_enter Try.func71, Try.ntmps71
  go_wp2_with fail
  go_ret
  exact ⟨rfl, rfl⟩
theorem cmp_any (x y : Int) (w : World) : Calls Try.prog 56 #[.int .i64 x, .int .i64 y] w fun e w' => e = .returned (.int .i64 (cmpI x y)) ∧ w = w' := by
  by_cases h1 : x < y
  · have d1 : decide (x < y) = true := decide_eq_true h1
    have HE : Hid (cmpI x y = -1) := by show _ = _; simp [cmpI, h1]
    clear h1
    go_enter Try.func56, Try.ntmps56
    go_wp2_with (go_at_call 71; refine (isNaN_any _ _).mono ?_; rintro e w' ⟨rfl, rfl⟩)
    go_ret
    exact ⟨ret_int HE.out.symm, rfl⟩
  · have d1 : decide (x < y) = false := decide_eq_false h1
    by_cases h2 : y < x
    · have d2 : decide (y < x) = true := decide_eq_true h2
      have HE : Hid (cmpI x y = 1) := by show _ = _; simp [cmpI, h1, h2]
      clear h1 h2
      go_enter Try.func56, Try.ntmps56
      go_wp2_with (go_at_call 71; refine (isNaN_any _ _).mono ?_; rintro e w' ⟨rfl, rfl⟩)
      go_ret
      exact ⟨ret_int HE.out.symm, rfl⟩
    · have d2 : decide (y < x) = false := decide_eq_false h2
      have HE : Hid (cmpI x y = 0) := by show _ = _; simp [cmpI, h1, h2]
      clear h1 h2
      go_enter Try.func56, Try.ntmps56
      go_wp2_with (go_at_call 71; refine (isNaN_any _ _).mono ?_; rintro e w' ⟨rfl, rfl⟩)
      go_ret
      exact ⟨ret_int HE.out.symm, rfl⟩
theorem or_any (ao : Option Addr) (cap : Nat) (a b c : Int) (w : World) (h : Ints w ao 3 [a, b, c]) : Calls Try.prog 55 #[.slice ao 3 cap] w fun e w' => e = .returned (.int .i64 (orI a b c)) ∧ w = w' := by
  have H := Lib.hid h
  clear h
  go_enter Try.func55, Try.ntmps55
  go_wp2_with fail
  go_loop [8] (fun i => ∃ k : Nat, k ≤ 3 ∧ i = .int .i64 k ∧ Hid (∀ j, j < k → ([a, b, c] : List Int).getD j 0 = 0)) (fun i => 3 - (intOf i).toNat)
  case atStart => exact ⟨0, by omega, rfl, by show ∀ j, _; intro j hj; omega⟩
  case round =>
    obtain ⟨k, hk, rfl, hz⟩ := hrel
    by_cases hlt : k < 3
    · obtain ⟨bb, o, x, rfl, hc, hx⟩ := H.out.at_ hlt
      by_cases hx0 : x = 0
      · have e0 : (x != 0) = false := by simp [hx0]
        have HZ : Hid (∀ j, j < k + 1 → ([a, b, c] : List Int).getD j 0 = 0) := by
          show ∀ j, _
          intro j hj
          by_cases e : j = k
          · subst e; simp only [List.getD, hx.out]; exact hx0
          · exact hz.out j (by omega)
        clear hx0 hx hz
        go_wp2_with fail
        go_round
        case rel => exact ⟨k + 1, hlt, by go_num, HZ.out⟩
        case measure => simp [intOf]; omega
      · have e0 : (x != 0) = true := by simp [hx0]
        have HE : Hid (orI a b c = x) := by
          show _ = _
          have h := hx.out
          have hz := hz.out
          have h3 : k = 0 ∨ k = 1 ∨ k = 2 := by omega
          rcases h3 with rfl | rfl | rfl
          · simp at h; subst h; simp [orI, hx0]
          · simp at h; subst h
            have := hz 0 (by omega)
            simp at this; simp [orI, this, hx0]
          · simp at h; subst h
            have h0 := hz 0 (by omega)
            have h1 := hz 1 (by omega)
            simp at h0 h1; simp [orI, h0, h1]
        clear hx0 hx hz
        go_wp2_with fail
        go_ret
        exact ⟨ret_int HE.out.symm, rfl⟩
    · have HE : Hid (orI a b c = 0) := by
        show _ = _
        have hz := hz.out
        have h0 := hz 0 (by omega)
        have h1 := hz 1 (by omega)
        have h2 := hz 2 (by omega)
        simp at h0 h1 h2; simp [orI, h0, h1, h2]
      clear hz
      go_wp2_with fail
      go_ret
      exact ⟨ret_int HE.out.symm, rfl⟩
theorem cmpA_lt {x y : Ar} : decide (0 ≤ cmpA x y) = !ltA x y := by
  obtain ⟨a, b, c⟩ := x
  obtain ⟨d, e, f⟩ := y
  simp only [cmpA, ltA, cmpI, orI]
  by_cases h1 : a < d <;> by_cases h2 : d < a <;> by_cases h3 : c < f <;> by_cases h4 : f < c <;> by_cases h5 : b < e <;> by_cases h6 : e < b <;> simp [h1, h2, h3, h4, h5, h6] <;> omega
set_option maxRecDepth 20000 in
set_option maxHeartbeats 3200000 in
theorem compare_any (x y z a b c : Int) (w : World) : Calls Try.prog 40 #[.agg #[.int .i64 x, .int .i64 y, .int .i64 z], .agg #[.int .i64 a, .int .i64 b, .int .i64 c]] w fun e w' => e = .returned (.int .i64 (cmpA (x, y, z) (a, b, c))) ∧ Below w.heap.size w w' := by
  have hk0 := (Blk.new w 55 #[.int .i64 x, .int .i64 y, .int .i64 z]).alloc (.cells #[.int .i64 a, .int .i64 b, .int .i64 c] 55)
  have hk1 := Blk.new (w.alloc (.cells #[.int .i64 x, .int .i64 y, .int .i64 z] 55)) 55 #[.int .i64 a, .int .i64 b, .int .i64 c]
  have z1 : (w.alloc (.cells #[.int .i64 x, .int .i64 y, .int .i64 z] 55)).heap.size = w.heap.size + 1 := by simp
  rw [z1] at hk1
  have a0 := hk0.c0
  have a1 := hk0.c1
  have a2 := hk0.c2
  have b0 := hk1.c0
  have b1 := hk1.c1
  have b2 := hk1.c2
  have HB := Lib.hid (below2 w (.cells #[.int .i64 x, .int .i64 y, .int .i64 z] 55) (.cells #[.int .i64 a, .int .i64 b, .int .i64 c] 55))
  clear hk0 hk1 z1
  go_enter Try.func40, Try.ntmps40
  go_wp2_with fail
  generalize (w.alloc (.cells #[.int .i64 x, .int .i64 y, .int .i64 z] 55)).alloc (.cells #[.int .i64 a, .int .i64 b, .int .i64 c] 55) = w1 at a0 a1 a2 b0 b1 b2 HB ⊢
  have HBd := Lib.hid (below_drewN HB.out 1)
  have HI : Hid (Ints (w1.drew.alloc (.cells #[.int .i64 (cmpI x a), .int .i64 (cmpI z c), .int .i64 (cmpI y b)] 3)) (some ⟨w1.drew.heap.size, 0, none⟩) 3 [cmpI x a, cmpI z c, cmpI y b]) := by
    have hk := Blk.new w1.drew 3 #[.int .i64 (cmpI x a), .int .i64 (cmpI z c), .int .i64 (cmpI y b)]
    refine ⟨rfl, by omega, fun i hi => ⟨_, 0, rfl, ?_⟩⟩
    rw [Nat.zero_add, hk.cell i]
    have h3 : i = 0 ∨ i = 1 ∨ i = 2 := by simp at hi; omega
    rcases h3 with rfl | rfl | rfl <;> rfl
  have HB2 := Lib.hid (HBd.out.alloc HB.out.size (.cells #[.int .i64 (cmpI x a), .int .i64 (cmpI z c), .int .i64 (cmpI y b)] 3))
  go_still_tail 15, (by kernel_rfl)
  still_call ((cmp_any x a _).mono fun _ _ h => ⟨h.1, h.2.symm⟩)
  repeat still_step
  still_call ((cmp_any z c _).mono fun _ _ h => ⟨h.1, h.2.symm⟩)
  repeat still_step
  still_call ((cmp_any y b _).mono fun _ _ h => ⟨h.1, h.2.symm⟩)
  repeat still_step
  refine wpStill_nil ?_
  change wpList _ _ _ _ _ w1.drew
  go_wp2_with fail
  refine (or_any _ _ _ _ _ _ HI.out).mono ?_
  rintro e w' ⟨rfl, rfl⟩
  go_wp2_with fail
  go_ret
  exact ⟨rfl, HB2.out⟩
end Go.Proofs.Ytmkodbkbgpjgoaa

namespace Go.Proofs.Ytmkodbkbgpjgoaa
open Go.RowKit
set_option linter.all false
/- slices.SortFunc at a slice of arcs of the call's own, by compareArcs. -/
theorem ltA_iff {x y : Ar} : ltA x y = true ↔ x.1 < y.1 ∨ (x.1 = y.1 ∧ (x.2.2 < y.2.2 ∨ (x.2.2 = y.2.2 ∧ x.2.1 < y.2.1))) := by
  obtain ⟨a, b, c⟩ := x
  obtain ⟨d, e, f⟩ := y
  simp only [ltA]
  by_cases h1 : a = d
  · by_cases h2 : c = f
    · simp [h1, h2]
    · simp [h1, h2]
  · simp [h1]
theorem ltA_not {x y : Ar} : ltA x y = false ↔ ¬ (x.1 < y.1 ∨ (x.1 = y.1 ∧ (x.2.2 < y.2.2 ∨ (x.2.2 = y.2.2 ∧ x.2.1 < y.2.1)))) := by
  rw [← ltA_iff]; simp
theorem ltOf_A (x y : Ar) : ltOf cmpA x y = ltA x y := by
  have h := cmpA_lt (x := x) (y := y)
  unfold ltOf
  cases e : ltA x y
  · rw [e] at h
    have := of_decide_eq_true h
    simp; omega
  · rw [e] at h
    have := of_decide_eq_false h
    simp; omega
theorem ltOf_fun : ltOf cmpA = ltA := by funext x y; exact ltOf_A x y
theorem swoA : Go.Sort.SWO (ltOf cmpA) := by
  rw [ltOf_fun]
  refine ⟨fun x => ?_, fun x y z h1 h2 => ?_, fun x y z h1 h2 => ?_⟩
  · rw [ltA_not]; omega
  · rw [ltA_iff] at *; omega
  · rw [ltA_not] at *; omega
theorem totA (x y : Ar) (h1 : ltOf cmpA x y = false) (h2 : ltOf cmpA y x = false) : x = y := by
  rw [ltOf_fun] at h1 h2
  rw [ltA_not] at h1 h2
  obtain ⟨a, b, c⟩ := x
  obtain ⟨d, e, f⟩ := y
  simp only at h1 h2
  have e1 : a = d := by omega
  have e2 : c = f := by omega
  have e3 : b = e := by omega
  rw [e1, e2, e3]
def arE (x : Ar) : List Value := [.int .i64 x.1, .int .i64 x.2.1, .int .i64 x.2.2]
def sortA (xs : List Ar) : List Ar := xs.mergeSort fun x y => !(ltOf cmpA) y x
theorem flatA (xs : List Ar) : Go.Sort.flatK arE 3 xs.toArray = (arCells xs).toArray := by
  apply Array.ext_getElem?
  intro t
  by_cases ht : t < xs.length * 3
  · have hi : t / 3 < xs.length := by omega
    have hx : xs[t / 3]? = some xs[t / 3] := List.getElem?_eq_getElem hi
    obtain ⟨c1, c2, c3⟩ := arCells_get xs (t / 3) _ hx
    have h3 : t = t / 3 * 3 ∨ t = t / 3 * 3 + 1 ∨ t = t / 3 * 3 + 2 := by omega
    have e0 : (Go.Sort.flatK arE 3 xs.toArray)[t]? = some ((arE xs[t / 3])[t % 3]!) := by
      simp [Go.Sort.flatK, ht, hi]
    rw [e0, List.getElem?_toArray]
    rcases h3 with h | h | h
    · rw [(congrArg (fun k => (arCells xs)[k]?) h).trans c1, show t % 3 = 0 by omega]; rfl
    · rw [(congrArg (fun k => (arCells xs)[k]?) h).trans c2, show t % 3 = 1 by omega]; rfl
    · rw [(congrArg (fun k => (arCells xs)[k]?) h).trans c3, show t % 3 = 2 by omega]; rfl
  · rw [Array.getElem?_eq_none (by simp [Go.Sort.flatK]; omega), List.getElem?_toArray, List.getElem?_eq_none (by rw [arCells_len]; omega)]
set_option maxRecDepth 20000 in
set_option maxHeartbeats 3200000 in
theorem compare_grow (x y z a b c : Int) (w : World) : Calls Try.prog 40 #[.agg #[.int .i64 x, .int .i64 y, .int .i64 z], .agg #[.int .i64 a, .int .i64 b, .int .i64 c]] w fun e w' => e = .returned (.int .i64 (cmpA (x, y, z) (a, b, c))) ∧ ∃ q os, w' = Go.Sort.grow (w.drewN q) os := by
  have hk0 := (Blk.new w 55 #[.int .i64 x, .int .i64 y, .int .i64 z]).alloc (.cells #[.int .i64 a, .int .i64 b, .int .i64 c] 55)
  have hk1 := Blk.new (w.alloc (.cells #[.int .i64 x, .int .i64 y, .int .i64 z] 55)) 55 #[.int .i64 a, .int .i64 b, .int .i64 c]
  have z1 : (w.alloc (.cells #[.int .i64 x, .int .i64 y, .int .i64 z] 55)).heap.size = w.heap.size + 1 := by simp
  rw [z1] at hk1
  have a0 := hk0.c0
  have a1 := hk0.c1
  have a2 := hk0.c2
  have b0 := hk1.c0
  have b1 := hk1.c1
  have b2 := hk1.c2
  have HG : Hid (Go.Sort.grow (w.drewN 1) #[.cells #[.int .i64 x, .int .i64 y, .int .i64 z] 55, .cells #[.int .i64 a, .int .i64 b, .int .i64 c] 55, .cells #[.int .i64 (cmpI x a), .int .i64 (cmpI z c), .int .i64 (cmpI y b)] 3] = (((w.alloc (.cells #[.int .i64 x, .int .i64 y, .int .i64 z] 55)).alloc (.cells #[.int .i64 a, .int .i64 b, .int .i64 c] 55)).drewN 1).alloc (.cells #[.int .i64 (cmpI x a), .int .i64 (cmpI z c), .int .i64 (cmpI y b)] 3)) := by
    show _ = _
    simp only [Go.Sort.alloc_eq_grow]
    show _ = Go.Sort.grow (Go.Sort.grow (Go.Sort.grow (w.drewN 1) _) _) _
    rw [Go.Sort.grow_grow, Go.Sort.grow_grow]
    rfl
  clear hk0 hk1 z1
  go_enter Try.func40, Try.ntmps40
  go_wp2_with fail
  generalize (w.alloc (.cells #[.int .i64 x, .int .i64 y, .int .i64 z] 55)).alloc (.cells #[.int .i64 a, .int .i64 b, .int .i64 c] 55) = w1 at a0 a1 a2 b0 b1 b2 HG ⊢
  have HI : Hid (Ints (w1.drew.alloc (.cells #[.int .i64 (cmpI x a), .int .i64 (cmpI z c), .int .i64 (cmpI y b)] 3)) (some ⟨w1.drew.heap.size, 0, none⟩) 3 [cmpI x a, cmpI z c, cmpI y b]) := by
    have hk := Blk.new w1.drew 3 #[.int .i64 (cmpI x a), .int .i64 (cmpI z c), .int .i64 (cmpI y b)]
    refine ⟨rfl, by omega, fun i hi => ⟨_, 0, rfl, ?_⟩⟩
    rw [Nat.zero_add, hk.cell i]
    have h3 : i = 0 ∨ i = 1 ∨ i = 2 := by simp at hi; omega
    rcases h3 with rfl | rfl | rfl <;> rfl
  go_still_tail 15, (by kernel_rfl)
  still_call ((cmp_any x a _).mono fun _ _ h => ⟨h.1, h.2.symm⟩)
  repeat still_step
  still_call ((cmp_any z c _).mono fun _ _ h => ⟨h.1, h.2.symm⟩)
  repeat still_step
  still_call ((cmp_any y b _).mono fun _ _ h => ⟨h.1, h.2.symm⟩)
  repeat still_step
  refine wpStill_nil ?_
  change wpList _ _ _ _ _ w1.drew
  go_wp2_with fail
  refine (or_any _ _ _ _ _ _ HI.out).mono ?_
  rintro e w' ⟨rfl, rfl⟩
  go_wp2_with fail
  go_ret
  exact ⟨rfl, 1, _, HG.out.symm⟩
theorem cmpLays (g n : Nat) (w : World) : CmpLays Try.prog 40 #[] arE 3 cmpA g 0 n w := by
  intro m os dk hs x y
  obtain ⟨a, b, c⟩ := x
  obtain ⟨d, e, f⟩ := y
  exact compare_grow a b c d e f _
theorem heap_sortedV {w : World} {g n : Nat} {os : Array Obj} {cur : Array Value} {e : TypeId} {fr : Nat × Nat} (d : Array Value) (hb : w.heap[g]? = some (.cells cur e fr)) :
    (Go.Sort.grow (Go.Sort.putRow id (Go.Sort.ahead w n) g 0 d) os).heap[g]? = some (.cells (Go.Sort.putCells id 0 d cur) e fr) := by
  have hg : g < w.heap.size := (Array.getElem?_eq_some_iff.1 hb).1
  rw [Go.Sort.heap_grow_old _ _ (by simpa using hg)]
  simp [Go.Sort.putRow, Go.Sort.mapBlock, Go.Sort.ahead, Array.getElem?_modify, hb, Go.Sort.onCells]
theorem grownBy_sortedV {w : World} {g n : Nat} {os : Array Obj} (d : Array Value) : w.grownBy (Go.Sort.grow (Go.Sort.putRow id (Go.Sort.ahead w n) g 0 d) os) (some g) := by
  refine ⟨rfl, rfl, rfl, by simp, fun k hk hne => ?_⟩
  rw [Go.Sort.heap_grow_old _ _ (by simpa using hk)]
  have : g ≠ k := fun e => hne (by rw [e])
  simp [Go.Sort.putRow, Go.Sort.mapBlock, Go.Sort.ahead, Array.getElem?_modify, this]
theorem take_putCellsV (cur : Array Value) (ts : List Value) (h : ts.length ≤ cur.size) : (Go.Sort.putCells id 0 ts.toArray cur).toList.take ts.length = ts := by
  apply List.ext_getElem?
  intro j
  by_cases hj : j < ts.length
  · rw [List.getElem?_take_of_lt hj, Array.getElem?_toList]
    simp [Go.Sort.putCells, hj, show j < cur.size by omega]
  · rw [List.getElem?_take_eq_none (by omega), List.getElem?_eq_none (by omega)]
theorem sortA_len (xs : List Ar) : (sortA xs).length = xs.length := by simp [sortA]
set_option maxHeartbeats 1600000 in
theorem sortArc_any (lo g cap n : Nat) (xs : List Ar) (w : World) (h : OArcs w lo (.slice (some ⟨g, 0, none⟩) n cap) n xs) :
    Calls Try.prog 39 #[.slice (some ⟨g, 0, none⟩) n cap, .func (.func 40) #[] #[]] w fun e w' => e = .returned (.tuple #[]) ∧ OArcs w' lo (.slice (some ⟨g, 0, none⟩) n cap) n (sortA xs) ∧ w.grownBy w' (some g) := by
  have hl := h.len
  have hH : Go.Sort.HoldsK arE 3 w g 0 xs.toArray := by
    unfold Go.Sort.HoldsK
    rw [flatA]
    intro j hj
    have hj2 : j < (arCells xs).length := by simpa using hj
    have hc := h.2.cells (g := g) rfl j _ (List.getElem?_eq_getElem hj2)
    rw [Addr.add_lit] at hc
    refine ⟨?_, h.frozen _⟩
    rw [hc]
    simp [hj2]
  have hS := AnyQ.slices_SortFunc_total Try.sortArc 3 Try.isAgg55 Try.sizeOf55 arE (fun _ => rfl) (fun x v hv => by
      simp only [arE, List.mem_cons, List.not_mem_nil, or_false] at hv
      rcases hv with rfl | rfl | rfl <;> rfl) cmpA swoA 40 #[] g 0 cap xs.toArray w (enters_of Try.func40 (by kernel_rfl) rfl) (cmpLays g _ w) hH h.lt.2 (by have := h.1; simp; omega) totA
  have e1 : xs.toArray.size = n := by simpa using hl
  rw [e1] at hS
  refine hS.mono ?_
  rintro e w' ⟨rfl, m, os, hw⟩
  have e2 : (xs.toArray.toList.mergeSort fun x y => !(ltOf cmpA) y x) = sortA xs := rfl
  rw [e2] at hw
  unfold sortWorldK Go.Sort.putRowK at hw
  rw [flatA] at hw
  subst hw
  refine ⟨rfl, ?_, grownBy_sortedV _⟩
  rcases h.2.2 with ⟨e, _⟩ | ⟨g', cap', cur, e, hg, hh, hnc, hcap, hsz, ht⟩
  · cases e
  · injection e with e1 e2 e3
    injection e1 with e1
    injection e1 with e1
    subst e1
    subst e3
    refine ⟨h.1, by rw [arCells_len, sortA_len, hl], .inr ⟨g, cap, _, rfl, hg, heap_sortedV _ hh, hnc, hcap, by simp [Go.Sort.putCells, hsz], ?_⟩⟩
    have h3 : (arCells (sortA xs)).length = n * 3 := by rw [arCells_len, sortA_len, hl]
    rw [← h3]
    exact take_putCellsV cur _ (by rw [h3, hsz]; exact Nat.mul_le_mul_right _ hnc)
end Go.Proofs.Ytmkodbkbgpjgoaa

namespace Go.Proofs.Ytmkodbkbgpjgoaa
open Go.RowKit
set_option linter.all false
def posG (out : List Ar) (x : Ar) : Nat → Nat
  | 0 => 0
  | k + 1 => if ltA x (out.getD k (0, 0, 0)) then posG out x k else k + 1
def insS (out : List Ar) (x : Ar) : List Ar :=
  let p := posG out x out.length
  if 0 < p ∧ out.getD (p - 1) (0, 0, 0) = x then out else out.take p ++ x :: out.drop p
def sortS (xs : List Ar) : List Ar := xs.foldl insS []
theorem posG_le (out : List Ar) (x : Ar) : ∀ k, posG out x k ≤ k
  | 0 => Nat.le_refl _
  | k + 1 => by
    unfold posG
    split
    · have := posG_le out x k; omega
    · exact Nat.le_refl _
theorem posG_above (out : List Ar) (x : Ar) : ∀ k j, posG out x k ≤ j → j < k → ltA x (out.getD j (0, 0, 0)) = true
  | 0, j, _, h => by omega
  | k + 1, j, h1, h2 => by
    unfold posG at h1
    split at h1
    · rename_i hl
      rcases Nat.lt_or_eq_of_le (Nat.le_of_lt_succ h2) with h3 | h3
      · exact posG_above out x k j h1 h3
      · rw [h3]; exact hl
    · omega
theorem posG_at (out : List Ar) (x : Ar) : ∀ k, 0 < posG out x k → ltA x (out.getD (posG out x k - 1) (0, 0, 0)) = false
  | 0, h => by simp [posG] at h
  | k + 1, h => by
    unfold posG at h ⊢
    split
    · rename_i hl
      rw [if_pos hl] at h
      exact posG_at out x k h
    · rename_i hl
      simpa using hl
theorem ltA_trans {x y z : Ar} (h1 : ltA x y = true) (h2 : ltA y z = true) : ltA x z = true := by rw [ltA_iff] at *; omega
theorem ltA_total {x y : Ar} (h1 : ltA x y = false) (hne : x ≠ y) : ltA y x = true := by
  cases h : ltA y x
  · exact absurd (totA x y (by rw [ltOf_A]; exact h1) (by rw [ltOf_A]; exact h)) hne
  · rfl
theorem ins_pair {out : List Ar} {x : Ar} (h : out.Pairwise (fun a b => ltA a b = true)) : (insS out x).Pairwise (fun a b => ltA a b = true) := by
  unfold insS
  simp only
  split
  · exact h
  · rename_i hn
    have hp := posG_le out x out.length
    have ha := posG_above out x out.length
    have hb := posG_at out x out.length
    generalize posG out x out.length = p at *
    have hbefore : ∀ y ∈ out.take p, ltA y x = true := by
      intro y hy
      obtain ⟨j, hj⟩ := List.getElem?_of_mem hy
      have hjp : j < p := by
        have := (List.getElem?_eq_some_iff.1 hj).1
        simp at this
        omega
      have hjo : out[j]? = some y := by
        rw [List.getElem?_take, if_pos hjp] at hj
        exact hj
      have hlast : out[p - 1]? = some (out.getD (p - 1) (0, 0, 0)) := by
        rw [List.getD, List.getElem?_eq_getElem (by omega)]; rfl
      have hle := hb (by omega)
      have hz : ltA (out.getD (p - 1) (0, 0, 0)) x = true := ltA_total hle (fun e => hn ⟨by omega, e.symm⟩)
      rcases Nat.lt_or_eq_of_le (show j ≤ p - 1 by omega) with h3 | h3
      · have := List.pairwise_iff_getElem.1 h j (p - 1) (by omega) (by omega) h3
        obtain ⟨_, e1⟩ := List.getElem?_eq_some_iff.1 hjo
        obtain ⟨_, e2⟩ := List.getElem?_eq_some_iff.1 hlast
        rw [e1, e2] at this
        exact ltA_trans this hz
      · rw [h3] at hjo
        rw [hjo] at hlast
        injection hlast with e
        rw [e]; exact hz
    have hafter : ∀ y ∈ out.drop p, ltA x y = true := by
      intro y hy
      obtain ⟨j, hj⟩ := List.getElem?_of_mem hy
      rw [List.getElem?_drop] at hj
      have := ha (p + j) (by omega) (List.getElem?_eq_some_iff.1 hj).1
      rw [List.getD, hj] at this
      exact this
    rw [List.pairwise_append, List.pairwise_cons]
    refine ⟨h.take, ⟨hafter, h.drop⟩, ?_⟩
    intro y hy z hz
    rcases List.mem_cons.1 hz with rfl | hz
    · exact hbefore y hy
    · exact ltA_trans (hbefore y hy) (hafter z hz)
theorem ins_perm {out : List Ar} {x : Ar} (h : x ∉ out) : (insS out x).Perm (x :: out) := by
  unfold insS
  simp only
  split
  · rename_i hn
    exfalso
    have hp := posG_le out x out.length
    apply h
    rw [← hn.2]
    rw [List.getD, List.getElem?_eq_getElem (by omega)]
    exact List.getElem_mem _
  · have := List.perm_middle (a := x) (l₁ := out.take (posG out x out.length)) (l₂ := out.drop (posG out x out.length))
    rw [List.take_append_drop] at this
    exact this
theorem sortS_all : ∀ (xs out : List Ar), out.Pairwise (fun a b => ltA a b = true) → (out ++ xs).Nodup → (xs.foldl insS out).Pairwise (fun a b => ltA a b = true) ∧ (xs.foldl insS out).Perm (out ++ xs)
  | [], out, h, _ => ⟨h, by simp⟩
  | x :: r, out, h, hn => by
    have hx : x ∉ out := by
      intro hm
      have := (List.nodup_append.1 hn).2.2 x hm x (List.mem_cons_self ..)
      exact this rfl
    have hp := ins_perm hx
    have h2 : (out ++ x :: r).Perm (insS out x ++ r) := List.perm_middle.trans ((hp.symm).append_right r)
    have h3 := sortS_all r (insS out x) (ins_pair h) (h2.nodup_iff.1 hn)
    exact ⟨h3.1, h3.2.trans h2.symm⟩
theorem sorted_is {xs ys : List Ar} (hp : ys.Perm xs) (hs : ys.Pairwise (fun a b => ltA a b = true)) : ys = sortA xs := by
  have hm : (sortA xs).Pairwise (fun a b => (!(ltOf cmpA) b a) = true) := List.pairwise_mergeSort (fun a b c h1 h2 => by
    rw [ltOf_fun] at *
    simp only [Bool.not_eq_true'] at *
    rw [ltA_not] at *
    omega) (fun a b => by
    rw [ltOf_fun]
    cases e : ltA b a
    · rfl
    · have : ltA a b = false := by rw [ltA_iff] at e; rw [ltA_not]; omega
      simp [this]) xs
  refine List.Perm.eq_of_pairwise (le := fun a b => (!(ltOf cmpA) b a) = true) ?_ ?_ hm (hp.trans (List.mergeSort_perm _ _).symm)
  · intro a b _ _ h1 h2
    rw [ltOf_fun] at h1 h2
    exact (totA b a (by rw [ltOf_A]; simpa using h1) (by rw [ltOf_A]; simpa using h2)).symm
  · refine hs.imp ?_
    intro a b hab
    rw [ltOf_fun]
    have : ltA b a = false := by rw [ltA_iff] at hab; rw [ltA_not]; omega
    simp [this]
theorem sortS_eq {xs : List Ar} (h : xs.Nodup) : sortS xs = sortA xs := by
  have := sortS_all xs [] List.Pairwise.nil (by simpa using h)
  exact sorted_is (by simpa [sortS] using this.2) this.1
end Go.Proofs.Ytmkodbkbgpjgoaa

namespace Go.Proofs.Ytmkodbkbgpjgoaa
open Go.RowKit
set_option linter.all false
theorem okFrom_pair {s l : Int} : ∀ {xs : List Ar} {p : Option Ar}, okFrom s l p xs = true → xs.Pairwise (fun a b => ltA a b = true) ∧ ∀ q, p = some q → ∀ y ∈ xs, ltA q y = true
  | [], p, _ => ⟨List.Pairwise.nil, fun q _ y hy => by simp at hy⟩
  | x :: r, p, h => by
    simp only [okFrom, Bool.and_eq_true] at h
    have ih := okFrom_pair h.2
    refine ⟨List.pairwise_cons.2 ⟨fun y hy => ih.2 x rfl y hy, ih.1⟩, fun q hq y hy => ?_⟩
    have hb := h.1.2
    subst hq
    rcases List.mem_cons.1 hy with rfl | hy
    · exact hb
    · exact ltA_trans hb (ih.2 x rfl y hy)
theorem isLab_pair {L S : Int} {xs : List Ar} (h : isLab L S xs = true) : xs.Pairwise (fun a b => ltA a b = true) := (okFrom_pair (isLab_get h).2.2).1
theorem fromL_sub (p : Int) : ∀ xs : List Ar, (fromL p xs).Sublist xs
  | [] => List.Sublist.slnil
  | x :: r => by
    unfold fromL
    split
    · exact (fromL_sub p r).cons₂ x
    · exact (fromL_sub p r).cons x
theorem fromL_from {p : Int} : ∀ {xs : List Ar} {x : Ar}, x ∈ fromL p xs → x.1 = p
  | [], x, h => by simp [fromL] at h
  | y :: r, x, h => by
    unfold fromL at h
    split at h
    · rename_i e
      rcases List.mem_cons.1 h with rfl | h
      · exact e
      · exact fromL_from h
    · exact fromL_from h
theorem asc_len : ∀ (l : List Int) (a b : Int), l.Pairwise (· < ·) → (∀ x ∈ l, a ≤ x ∧ x < b) → (l.length : Int) ≤ max 0 (b - a)
  | [], a, b, _, _ => by simp; omega
  | x :: r, a, b, hp, hm => by
    rw [List.pairwise_cons] at hp
    have h1 := hm x (List.mem_cons_self ..)
    have ih := asc_len r (x + 1) b hp.2 (fun y hy => ⟨by have := hp.1 y hy; omega, (hm y (List.mem_cons_of_mem _ hy)).2⟩)
    rw [List.length_cons]
    omega
theorem fromL_36 {L S p : Int} {xs : List Ar} (h : isLab L S xs = true) : (fromL p xs).length ≤ 36 := by
  obtain ⟨hL, hS, hok⟩ := isLab_get h
  have hall := okFrom_all hok
  have hp : (fromL p xs).Pairwise (fun a b => ltA a b = true) := (isLab_pair h).sublist (fromL_sub p xs)
  have hk : ((fromL p xs).map (fun x => x.2.2 * 12 + x.2.1)).Pairwise (· < ·) := by
    rw [List.pairwise_map]
    refine hp.imp_of_mem ?_
    intro a b ha hb hab
    have h1 := fromL_from ha
    have h2 := fromL_from hb
    obtain ⟨a1, a2, a3⟩ := a
    obtain ⟨b1, b2, b3⟩ := b
    have r1 := arcB_get (hall _ ((fromL_sub p xs).subset ha))
    have r2 := arcB_get (hall _ ((fromL_sub p xs).subset hb))
    rw [ltA_iff] at hab
    simp only at *
    omega
  have := asc_len _ 0 36 hk (by
    intro v hv
    obtain ⟨x, hx, rfl⟩ := List.mem_map.1 hv
    obtain ⟨a1, a2, a3⟩ := x
    have r1 := arcB_get (hall _ ((fromL_sub p xs).subset hx))
    simp only
    omega)
  rw [List.length_map] at this
  omega
/-- An arc and its copy. -/
def splitOne (S p : Int) (f : Int) (x : Ar) : List Ar := (f, x.2.1, x.2.2) :: (if x.2.1 = p then [(f, S, x.2.2)] else [])
def newFrom (S p : Int) (bit : Nat → Bool) (at_ : Nat) (x : Ar) : Int := if x.1 = p then (if bit at_ then S else x.1) else x.1
def splitL (S p : Int) (bit : Nat → Bool) : Nat → List Ar → List Ar
  | _, [] => []
  | a, x :: r => splitOne S p (newFrom S p bit a x) x ++ splitL S p bit (if x.1 = p then a + 1 else a) r
theorem mem_splitL {S p : Int} {bit : Nat → Bool} : ∀ {xs : List Ar} {a : Nat} {y : Ar}, y ∈ splitL S p bit a xs → ∃ x ∈ xs, (y.1 = x.1 ∨ (y.1 = S ∧ x.1 = p)) ∧ (y.2.1 = x.2.1 ∨ (y.2.1 = S ∧ x.2.1 = p)) ∧ y.2.2 = x.2.2
  | [], _, _, h => by simp [splitL] at h
  | x :: r, a, y, h => by
    unfold splitL at h
    rcases List.mem_append.1 h with h | h
    · refine ⟨x, List.mem_cons_self .., ?_⟩
      unfold splitOne newFrom at h
      rcases List.mem_cons.1 h with rfl | h
      · refine ⟨?_, .inl rfl, rfl⟩
        show (if x.1 = p then (if bit a = true then S else x.1) else x.1) = x.1 ∨ ((if x.1 = p then (if bit a = true then S else x.1) else x.1) = S ∧ x.1 = p)
        by_cases e : x.1 = p
        · rw [if_pos e]
          by_cases e2 : bit a = true
          · rw [if_pos e2]; exact .inr ⟨rfl, e⟩
          · rw [if_neg e2]; exact .inl rfl
        · rw [if_neg e]; exact .inl rfl
      · by_cases e3 : x.2.1 = p
        · rw [if_pos e3] at h
          simp only [List.mem_singleton] at h
          subst h
          refine ⟨?_, .inr ⟨rfl, e3⟩, rfl⟩
          show (if x.1 = p then (if bit a = true then S else x.1) else x.1) = x.1 ∨ ((if x.1 = p then (if bit a = true then S else x.1) else x.1) = S ∧ x.1 = p)
          by_cases e : x.1 = p
          · rw [if_pos e]
            by_cases e2 : bit a = true
            · rw [if_pos e2]; exact .inr ⟨rfl, e⟩
            · rw [if_neg e2]; exact .inl rfl
          · rw [if_neg e]; exact .inl rfl
        · rw [if_neg e3] at h; simp at h
    · obtain ⟨z, hz, hr⟩ := mem_splitL h
      exact ⟨z, List.mem_cons_of_mem _ hz, hr⟩
theorem splitL_nodup {S p : Int} (hpS : p < S) {bit : Nat → Bool} : ∀ {xs : List Ar} {a : Nat}, xs.Pairwise (fun a b => ltA a b = true) → (∀ x ∈ xs, x.1 < S ∧ x.2.1 < S) → (splitL S p bit a xs).Nodup
  | [], _, _, _ => by simp [splitL]
  | x :: r, a, hp, hb => by
    rw [List.pairwise_cons] at hp
    have ih := splitL_nodup hpS (bit := bit) (a := if x.1 = p then a + 1 else a) hp.2 (fun y hy => hb y (List.mem_cons_of_mem _ hy))
    have hx := hb x (List.mem_cons_self ..)
    unfold splitL
    rw [List.nodup_append]
    refine ⟨?_, ih, ?_⟩
    · unfold splitOne
      by_cases e : x.2.1 = p
      · rw [if_pos e]
        simp only [List.nodup_cons, List.mem_singleton, List.not_mem_nil, not_false_eq_true, List.nodup_nil, and_true]
        intro h
        injection h with _ h
        injection h with h _
        omega
      · rw [if_neg e]; simp
    · intro y hy z hz e
      subst e
      have hy2 : y ∈ splitL S p bit a [x] := by simpa [splitL] using hy
      obtain ⟨x1, hx1, f1, f2, f3⟩ := mem_splitL hy2
      obtain ⟨x2, hx2, g1, g2, g3⟩ := mem_splitL hz
      simp only [List.mem_singleton] at hx1
      subst hx1
      have hl := hp.1 x2 hx2
      have hb2 := hb x2 (List.mem_cons_of_mem _ hx2)
      rw [ltA_iff] at hl
      omega
end Go.Proofs.Ytmkodbkbgpjgoaa

namespace Go.Proofs.Ytmkodbkbgpjgoaa
open Go.RowKit
set_option linter.all false
theorem strOf_bl {ls : List Int} {i : Nat} {x : Int} (h : ls[i]? = some x) (hx : 0 ≤ x ∧ x ≤ 100) : (bl (strOf ls) i : Int) = 97 + x := by
  have hi := (List.getElem?_eq_some_iff.1 h).1
  have hs : i < (strOf ls).size := by rw [strOf_size]; exact hi
  rw [bl_get hs]
  have e : (strOf ls)[i] = UInt8.ofNat (97 + x.toNat) := by
    have : (strOf ls).data[i]? = some (UInt8.ofNat (97 + x.toNat)) := by simp [strOf, h]
    have h2 : (strOf ls).data[i]? = some ((strOf ls)[i]) := by
      show _ = some ((strOf ls).data[i]'_)
      exact Array.getElem?_eq_getElem _
    rw [h2] at this
    exact Option.some.inj this
  rw [e, UInt8.toNat_ofNat']
  omega
theorem encF_len (xs : List Ar) (s : ByteArray) : ∀ (m i : Nat) (p : Int), (encF xs s i m p).1.length = m
  | 0, _, _ => rfl
  | m + 1, i, p => by simp [encF, encF_len xs s m]
/-- What is known of the arcs of an encoder. -/
structure EncA (L : Int) (S : Nat) (xs : List Ar) : Prop where
  arm : ∀ (p c : Nat), p < S → c < 2 → 0 ≤ (armA xs p c).2.2 ∧ (armA xs p c).2.2 ≤ L - 1 ∧ 0 ≤ (armA xs p c).2.1 ∧ (armA xs p c).2.1 < S
  dif : ∀ p : Nat, p < S → (armA xs p 0).2.2 ≠ (armA xs p 1).2.2
theorem encA_of {L S : Int} {xs : List Ar} (h : isEnc L S xs = true) : EncA L S.toNat xs := by
  have hg := isEnc_get h
  have hl := isLab_get hg.1
  have hall := okFrom_all hl.2.2
  refine ⟨fun p c hp hc => ?_, fun p hp => ?_⟩
  · have h2 := hg.2.2 p (by omega)
    have ha := arm_get (p := (p : Int)) h2 hc
    have hm : armA xs p c ∈ xs := (fromL_sub (p : Int) xs).subset (List.mem_of_getElem? ha)
    rcases hq : armA xs p c with ⟨x, y, z⟩
    have hb := arcB_get (hall (x, y, z) (by rw [← hq]; exact hm))
    simp only
    omega
  · have h2 := hg.2.2 p (by omega)
    exact two_differ hl.2.2 hg.2.1 (arm_get h2 (by omega)) (arm_get h2 (by omega))
theorem enc_dec {L : Int} {S : Nat} {xs : List Ar} (h : EncA L S xs) (hL : L ≤ 3) {s w : ByteArray} : ∀ (m i p : Nat), p < S → (∀ j, i ≤ j → j < i + m → 97 ≤ bl s j ∧ bl s j ≤ 98) →
    (∀ (j : Nat) (z : Int), (encF xs s i m p).1[j]? = some z → (bl w (i + j) : Int) = 97 + z) → decF xs w i m p = some ((List.range' i m).map fun j => (bl s j : Int) - 97)
  | 0, i, p, _, _, _ => rfl
  | m + 1, i, p, hp, hb, hw => by
    have hbi := hb i (Nat.le_refl _) (by omega)
    have hcc : bl s i - 97 < 2 := by omega
    have ha := h.arm p (bl s i - 97) hp hcc
    have hd := h.dif p hp
    have hw0 := hw 0 (armA xs p (bl s i - 97)).2.2 (by simp [encF])
    rw [Nat.add_zero] at hw0
    obtain ⟨q, hq⟩ := Int.eq_ofNat_of_zero_le ha.2.2.1
    have hqS : q < S := by omega
    have ih := enc_dec h hL (s := s) (w := w) m (i + 1) q hqS (fun j h1 h2 => hb j (by omega) (by omega)) (fun j z hz => by
      have := hw (j + 1) z (by simp only [encF, List.getElem?_cons_succ]; rw [hq]; exact hz)
      rw [show i + 1 + j = i + (j + 1) by omega]
      exact this)
    rw [decF, List.range'_succ, List.map_cons]
    have hc : bl s i - 97 = 0 ∨ bl s i - 97 = 1 := by omega
    rcases hc with hc | hc
    · rw [hc] at hw0 hq
      rw [if_pos (by omega), hq, ih]
      simp
      omega
    · rw [hc] at hw0 hq
      rw [if_neg (by omega), if_pos (by omega), hq, ih]
      simp
      omega
theorem dec_enc {L : Int} {S : Nat} {xs : List Ar} (h : EncA L S xs) (hL : L ≤ 3) {u b : ByteArray} : ∀ (m i p : Nat) (cs : List Int), p < S → decF xs u i m p = some cs →
    (∀ (j : Nat) (z : Int), cs[j]? = some z → (bl b (i + j) : Int) = 97 + z) → (encF xs b i m p).1 = (List.range' i m).map (fun j => (bl u j : Int) - 97) ∧ cs.length = m ∧ (∀ z ∈ cs, z = 0 ∨ z = 1)
  | 0, i, p, cs, _, hd, _ => by
    simp only [decF, Option.some.injEq] at hd
    subst hd
    exact ⟨rfl, rfl, by simp⟩
  | m + 1, i, p, cs, hp, hd, hw => by
    rw [decF] at hd
    have key : ∀ c : Nat, c < 2 → (armA xs p c).2.2 + 97 = (bl u i : Int) → (decF xs u (i + 1) m (armA xs p c).2.1).map (fun r => (c : Int) :: r) = some cs → (encF xs b i (m + 1) p).1 = (List.range' i (m + 1)).map (fun j => (bl u j : Int) - 97) ∧ cs.length = m + 1 ∧ (∀ z ∈ cs, z = 0 ∨ z = 1) := by
      intro c hc hl hm
      have ha := h.arm p c hp hc
      obtain ⟨q, hq⟩ := Int.eq_ofNat_of_zero_le ha.2.2.1
      have hqS : q < S := by omega
      rw [hq, Option.map_eq_some_iff] at hm
      obtain ⟨r, hr, rfl⟩ := hm
      have hw0 := hw 0 (c : Int) (by simp)
      rw [Nat.add_zero] at hw0
      have ih := dec_enc h hL (u := u) (b := b) m (i + 1) q r hqS hr (fun j z hz => by
        have := hw (j + 1) z (by simpa using hz)
        rw [show i + 1 + j = i + (j + 1) by omega]
        exact this)
      have hbc : bl b i - 97 = c := by omega
      refine ⟨?_, by simp [ih.2.1], ?_⟩
      · have e : (encF xs b i (m + 1) p).1 = (armA xs p c).2.2 :: (encF xs b (i + 1) m q).1 := by rw [encF, hbc, hq]
        have h9 : (armA xs p c).2.2 = (bl u i : Int) - 97 := by omega
        rw [e, List.range'_succ, List.map_cons, ih.1, h9]
      · intro z hz
        rcases List.mem_cons.1 hz with rfl | hz
        · omega
        · exact ih.2.2 z hz
    split at hd
    · rename_i h0
      exact key 0 (by omega) h0 hd
    · split at hd
      · rename_i h0 h1
        exact key 1 (by omega) h1 hd
      · cases hd
theorem strOf_of {u : ByteArray} (h : ∀ i, i < u.size → 97 ≤ bl u i ∧ bl u i < 256) : strOf ((List.range' 0 u.size).map fun j => (bl u j : Int) - 97) = u := by
  apply ByteArray.ext
  apply Array.ext
  · show ((((List.range' 0 u.size).map fun j => (bl u j : Int) - 97).map fun l => UInt8.ofNat (97 + l.toNat)).toArray).size = u.size
    rw [List.size_toArray, List.length_map, List.length_map, List.length_range']
  · intro i h1 h2
    have hi : i < u.size := h2
    have hb := h i hi
    have e1 : (strOf ((List.range' 0 u.size).map fun j => (bl u j : Int) - 97)).data[i]? = some (UInt8.ofNat (97 + ((bl u i : Int) - 97).toNat)) := by
      show ((((List.range' 0 u.size).map fun j => (bl u j : Int) - 97).map fun l => UInt8.ofNat (97 + l.toNat)).toArray)[i]? = _
      rw [List.getElem?_toArray, List.getElem?_map, List.getElem?_map, List.getElem?_range' hi]
      simp only [Option.map_some, Nat.zero_add, Nat.one_mul]
    rw [Array.getElem?_eq_getElem h1] at e1
    rw [Option.some.inj e1]
    have e2 : bl u i = u[i].toNat := bl_get hi
    have e3 : 97 + ((bl u i : Int) - 97).toNat = u[i].toNat := by omega
    rw [e3]
    show UInt8.ofNat u[i].toNat = u.data[i]
    rw [UInt8.ofNat_toNat]
    rfl
end Go.Proofs.Ytmkodbkbgpjgoaa

namespace Go.Proofs.Ytmkodbkbgpjgoaa
open Go.RowKit
set_option linter.all false
def bitS (set : Int) (t : Nat) : Bool := bits BinOp.and IntKind.i64 (set / 2 ^ min t 64) 1 == 0
theorem split_step {S p : Int} {bit : Nat → Bool} {xs acc R : List Ar} {k t : Nat} {x y z : Int} (hx : xs[k]? = some (x, y, z)) (h : acc ++ splitL S p bit t (xs.drop k) = R) :
    (x = p → bit t = true → acc ++ (splitOne S p S (x, y, z) ++ splitL S p bit (t + 1) (xs.drop (k + 1))) = R) ∧ (x = p → bit t = false → acc ++ (splitOne S p x (x, y, z) ++ splitL S p bit (t + 1) (xs.drop (k + 1))) = R) ∧ (x ≠ p → acc ++ (splitOne S p x (x, y, z) ++ splitL S p bit t (xs.drop (k + 1))) = R) := by
  rw [drop_of_get hx, splitL] at h
  refine ⟨fun e eb => ?_, fun e eb => ?_, fun e => ?_⟩
  · rw [← h]; simp [newFrom, e, eb]
  · rw [← h]; simp [newFrom, e, eb]
  · rw [← h]; simp [newFrom, e]
def splOk (L S : Int) (xs : List Ar) (p set : Int) : Bool := isLab L S xs && (!(S == 12) && (inR p 0 (S - 1) && inR set 1 (wrap64 (wrap64 (2 ^ (fromL p xs).length) - 2))))
def splL (L S : Int) (xs : List Ar) (p set : Int) : Int := if splOk L S xs p set then L else 0
def splS (L S : Int) (xs : List Ar) (p set : Int) : Int := if splOk L S xs p set then S + 1 else 0
def splX (L S : Int) (xs : List Ar) (p set : Int) : List Ar := if splOk L S xs p set then sortA (splitL S p (bitS set) 0 xs) else []
theorem splOk_get {L S : Int} {xs : List Ar} {p set : Int} (h : splOk L S xs p set = true) : isLab L S xs = true ∧ S ≠ 12 ∧ inR p 0 (S - 1) = true ∧ inR set 1 (wrap64 (wrap64 (2 ^ (fromL p xs).length) - 2)) = true := by
  simp only [splOk, Bool.and_eq_true, Bool.not_eq_true', beq_eq_false_iff_ne] at h
  exact h
theorem splitL_len (S p : Int) (bit : Nat → Bool) : ∀ (xs : List Ar) (a : Nat), (splitL S p bit a xs).length ≤ xs.length + xs.length
  | [], _ => by simp [splitL]
  | x :: r, a => by
    unfold splitL
    have ih := splitL_len S p bit r (if x.1 = p then a + 1 else a)
    have h1 : (splitOne S p (newFrom S p bit a x) x).length ≤ 2 := by unfold splitOne; by_cases e : x.2.1 = p <;> simp [e]
    rw [List.length_append, List.length_cons]
    omega
theorem isLab_432 {L S : Int} {xs : List Ar} (h : isLab L S xs = true) : xs.length ≤ 432 := by
  obtain ⟨hL, hS, hok⟩ := isLab_get h
  have hall := okFrom_all hok
  have hk : (xs.map (fun x => x.1 * 36 + x.2.2 * 12 + x.2.1)).Pairwise (· < ·) := by
    rw [List.pairwise_map]
    refine (isLab_pair h).imp_of_mem ?_
    intro a b ha hb hab
    obtain ⟨a1, a2, a3⟩ := a
    obtain ⟨b1, b2, b3⟩ := b
    have r1 := arcB_get (hall _ ha)
    have r2 := arcB_get (hall _ hb)
    rw [ltA_iff] at hab
    simp only at *
    omega
  have := asc_len _ 0 432 hk (by
    intro v hv
    obtain ⟨x, hx, rfl⟩ := List.mem_map.1 hv
    obtain ⟨a1, a2, a3⟩ := x
    have r1 := arcB_get (hall _ hx)
    simp only
    omega)
  rw [List.length_map] at this
  omega
theorem splX_len (L S : Int) (xs : List Ar) (p set : Int) : (splX L S xs p set).length ≤ 864 := by
  unfold splX
  cases h : splOk L S xs p set
  · simp
  · have h1 := isLab_432 (splOk_get h).1
    have h2 := splitL_len S p (bitS set) xs 0
    rw [if_pos rfl, sortA_len]
    omega
theorem splX_sorted {L S : Int} {xs : List Ar} {p set : Int} (h : splOk L S xs p set = true) : sortS (splitL S p (bitS set) 0 xs) = splX L S xs p set ∧ sortA (splitL S p (bitS set) 0 xs) = splX L S xs p set := by
  obtain ⟨hlab, _, hp, _⟩ := splOk_get h
  have hp := inR_true hp
  obtain ⟨_, _, hok⟩ := isLab_get hlab
  have hall := okFrom_all hok
  have e : sortA (splitL S p (bitS set) 0 xs) = splX L S xs p set := by rw [splX, if_pos h]
  refine ⟨?_, e⟩
  rw [← e]
  refine sortS_eq (splitL_nodup (by omega) (isLab_pair hlab) fun x hx => ?_)
  obtain ⟨a1, a2, a3⟩ := x
  have r1 := arcB_get (hall _ hx)
  simp only at *
  omega
theorem splitL_pos {L S : Int} {xs : List Ar} {p set : Int} (h : splOk L S xs p set = true) : 0 < (splitL S p (bitS set) 0 xs).length := by
  have h1 := inR_true (splOk_get h).2.2.2
  cases xs with
  | nil =>
    exfalso
    have e : wrap64 (wrap64 (2 ^ (fromL p []).length) - 2) = -1 := by simp [fromL, wrap64]
    rw [e] at h1
    omega
  | cons x r =>
    unfold splitL
    rw [List.length_append]
    have : 0 < (splitOne S p (newFrom S p (bitS set) 0 x) x).length := by unfold splitOne; simp
    omega
end Go.Proofs.Ytmkodbkbgpjgoaa

namespace Go.Proofs.Ytmkodbkbgpjgoaa
open Go.RowKit
set_option linter.all false
/- The decimal digits of a number, as both programs and the laws' marks write them. -/
def decB (u : Nat) : ByteArray := ⟨(Lib.decDigits u).toArray⟩
def dg (x : Nat) : List UInt8 := if x = 0 then [] else Lib.decDigits x
theorem dg_zero : dg 0 = [] := rfl
theorem dg_pos {x : Nat} (h : 0 < x) : dg x = Lib.decDigits x := by simp [dg]; omega
theorem ofNat48 (k : Nat) : UInt8.ofNat (48 + k) = 48 + UInt8.ofNat k := by rw [UInt8.ofNat_add]; rfl
theorem belowA (w : World) (o : Obj) : Below w.heap.size w (w.alloc o) := (Below.refl _ _).alloc (Nat.le_refl _) o
theorem dg_step {x : Nat} (h : 0 < x) : dg x = dg (x / 10) ++ [48 + UInt8.ofNat (x % 10)] := by
  rw [← ofNat48]
  rw [dg_pos h, Lib.decDigits]
  by_cases h10 : x < 10
  · rw [dif_pos h10, show x / 10 = 0 by omega, dg_zero, show x % 10 = x by omega]; rfl
  · rw [dif_neg h10, dg_pos (by omega)]
theorem dec_len {u : Nat} (h : u < 18446744073709551616) : (Lib.decDigits u).length ≤ 20 := by
  rw [Lib.decDigits_length]; exact Lib.nDigits_le20 u h
theorem decB_size {u : Nat} (h : u < 18446744073709551616) : (decB u).size ≤ 20 := by
  have := dec_len h
  simpa [decB, ByteArray.size] using this
def catB (b : UInt8) (o : ByteArray) : ByteArray := (⟨#[b]⟩ : ByteArray) ++ o
theorem catB_list (b : UInt8) (o : ByteArray) : (catB b o).data.toList = b :: o.data.toList := by simp [catB]
theorem catB_size (b : UInt8) (o : ByteArray) : (catB b o).size = o.size + 1 := by
  have h := congrArg List.length (catB_list b o)
  simp at h
  exact h
theorem dig_next {x : Nat} {o : ByteArray} {R : List UInt8} (hx : 0 < x) (h : dg x ++ o.data.toList = R) : dg (x / 10) ++ (catB (48 + UInt8.ofNat (x % 10)) o).data.toList = R := by
  rw [dg_step hx] at h
  rw [catB_list, ← h]
  simp
theorem dig_done {o : ByteArray} {u : Nat} (hu : 0 < u) (h : dg 0 ++ o.data.toList = dg u) : o = decB u := by
  rw [dg_zero, dg_pos hu] at h
  apply ByteArray.ext
  apply Array.ext'
  simpa [decB] using h
theorem dig_size {x u : Nat} {o : ByteArray} (hu : u < 18446744073709551616) (h : dg x ++ o.data.toList = dg u) : o.size ≤ 20 := by
  have h2 := congrArg List.length h
  have h3 : (dg u).length ≤ 20 := by
    by_cases h0 : u = 0
    · rw [h0, dg_zero]; exact Nat.zero_le _
    · rw [dg_pos (by omega)]; exact dec_len hu
  simp only [List.length_append] at h2
  have h4 : o.data.toList.length = o.size := Array.length_toList
  omega
/-- One byte made a string. -/
theorem conv_one (w : World) (z : Int) (t : TypeId) : (convert 22 9 (.slice (some ⟨w.heap.size, 0, none⟩) 1 1)).run Try.prog (w.alloc (.cells #[.int .u8 z] t)) = .ok (.string ⟨#[UInt8.ofNat z.toNat]⟩) (w.alloc (.cells #[.int .u8 z] t)) := by
  rw [run_convert_bytes_string _ 22 9 5 _ _ _ Try.underlying22 Try.underlying5 Try.underlying9]
  have hc := run_loadCells_list (P := Try.prog) (w.alloc (.cells #[.int .u8 z] t)) ⟨w.heap.size, 0, none⟩ (([z] : List Int).map (Value.int .u8)) (by
    intro j u hu
    match j, hu with
    | 0, hu =>
      simp at hu
      subst hu
      exact World.cell?_alloc_new _ _ _ _)
  rw [run_bytesToString _ ⟨w.heap.size, 0, none⟩ 1 1 [z] hc]
  rfl
theorem ret_text {a b : ByteArray} (h : a = b) : Ending.returned (.string a) = .returned (.string b) := by rw [h]
end Go.Proofs.Ytmkodbkbgpjgoaa

namespace Go.Proofs.Ytmkodbkbgpjgoaa
open Go.RowKit
set_option linter.all false
/- Words for memory: a slice of strings. -/
theorem info_str : (Try.prog.info? 9).map (fun i => (i.zero, i.size, i.bytes)) = some (some (.string ⟨#[]⟩), 1, 16) := by kernel_rfl
def Strs (w : World) (ao : Option Addr) (n : Nat) (ss : List ByteArray) : Prop :=
  ss.length = n ∧ n ≤ 1099511627776 ∧ ∀ i s, ss[i]? = some s → ∃ b o, ao = some ⟨b, o, none⟩ ∧ w.cell? ⟨b, o + i, none⟩ = some (.string s)
theorem Strs.keep {w w' : World} {ao : Option Addr} {n : Nat} {ss : List ByteArray} (h : Strs w ao n ss) (hb : Below w.heap.size w w') : Strs w' ao n ss := by
  refine ⟨h.1, h.2.1, fun i s hi => ?_⟩
  obtain ⟨b, o, e, hc⟩ := h.2.2 i s hi
  exact ⟨b, o, e, (hb.cell (p := ⟨b, o + i, none⟩) (World.block_lt_of_cell? w _ hc)).trans hc⟩
theorem Strs.drewN {w : World} {ao : Option Addr} {n : Nat} {ss : List ByteArray} (h : Strs w ao n ss) (k : Nat) : Strs (w.drewN k) ao n ss := h
theorem Strs.at_ {w : World} {ao : Option Addr} {n k : Nat} {ss : List ByteArray} (h : Strs w ao n ss) (hk : k < n) :
    ∃ b o s, ao = some ⟨b, o, none⟩ ∧ w.cell? ⟨b, o + k, none⟩ = some (.string s) ∧ Hid (ss[k]? = some s) := by
  have hl : k < ss.length := by rw [h.1]; exact hk
  obtain ⟨b, o, e, hc⟩ := h.2.2 k _ (List.getElem?_eq_getElem hl)
  exact ⟨b, o, _, e, hc, List.getElem?_eq_getElem hl⟩
def OStrs (w : World) (lo : Nat) (v : Value) (n : Nat) (ss : List ByteArray) : Prop := n ≤ 1099511627776 ∧ w.ownsRow lo 9 1 v n (ss.map Value.string)
section
variable {w w' : World} {lo n : Nat} {v : Value} {ss : List ByteArray}
theorem OStrs.len (h : OStrs w lo v n ss) : ss.length = n := by simpa using h.2.1
theorem OStrs.keep (h : OStrs w lo v n ss) (hb : Below w.heap.size w w') : OStrs w' lo v n ss := ⟨h.1, own_keep h.2 hb⟩
theorem OStrs.grown {row : Option Nat} (h : OStrs w lo v n ss) (hg : w.grownBy w' row) (hne : v.ownBlock = none ∨ v.ownBlock ≠ row) : OStrs w' lo v n ss := ⟨h.1, h.2.kept hg hne⟩
theorem OStrs.alloc (h : OStrs w lo v n ss) (o : Obj) : OStrs (w.alloc o) lo v n ss := ⟨h.1, h.2.alloc o⟩
theorem OStrs.drewN (h : OStrs w lo v n ss) (k : Nat) : OStrs (w.drewN k) lo v n ss := h
theorem OStrs.ownlt (h : OStrs w lo v n ss) : ∀ k, v.ownBlock = some k → lo ≤ k ∧ k < w.heap.size := h.2.lt
theorem OStrs.mono {lo' : Nat} (h : OStrs w lo v n ss) (hl : lo' ≤ lo) : OStrs w lo' v n ss := by
  refine ⟨h.1, h.2.1, ?_⟩
  rcases h.2.2 with h2 | ⟨g, cap, cur, hv, hg, r⟩
  · exact .inl h2
  · exact .inr ⟨g, cap, cur, hv, Nat.le_trans hl hg, r⟩
theorem OStrs.form (h : OStrs w lo v n ss) : ∃ ao cap, v = .slice ao n cap ∧ Strs w ao n ss := by
  have hl := h.len
  rcases h.2.2 with ⟨rfl, rfl⟩ | ⟨g, cap, cur, rfl, hg, hh, hnc, _, _, ht⟩
  · exact ⟨none, 0, rfl, hl, h.1, fun i s hi => by rw [List.eq_nil_of_length_eq_zero hl] at hi; simp at hi⟩
  · refine ⟨some ⟨g, 0, none⟩, cap, rfl, hl, h.1, fun i s hi => ⟨g, 0, rfl, ?_⟩⟩
    have hc := h.2.cells (g := g) rfl i (.string s) (by simp [hi])
    rw [Addr.add_lit] at hc
    simpa using hc
theorem OStrs.capLe {m cap : Nat} {ao : Option Addr} (h : OStrs w lo v n ss) (e : v = .slice ao m cap) : n ≤ cap := by
  rcases h.2.2 with ⟨rfl, rfl⟩ | ⟨g, c, cur, rfl, _, _, hnc, _⟩
  · exact Nat.zero_le _
  · injection e with _ _ e3
    omega
theorem OStrs.head (h : OStrs w lo v n ss) (hn : 0 < n) : ∃ g cap, v = .slice (some ⟨g, 0, none⟩) n cap := by
  rcases h.2.2 with ⟨_, h0⟩ | ⟨g, cap, cur, e, _⟩
  · omega
  · exact ⟨g, cap, e⟩
theorem OStrs.none_ (w : World) (lo : Nat) : OStrs w lo (.slice none 0 0) 0 [] := ⟨by omega, by simp, .inl ⟨rfl, rfl⟩⟩
theorem OStrs.empty (w : World) (lo : Nat) (hlo : lo ≤ w.heap.size) : OStrs (w.alloc (.cells #[] 9)) lo (.slice (some ⟨w.heap.size, 0, none⟩) 0 0) 0 [] :=
  ⟨by omega, World.ownsRow_made (base := lo) (e := 9) (size := 1) w #[] 0 hlo (by unfold maxLen; omega) rfl⟩
end
section
variable {w w' : World} {lo g n cap : Nat} {ss : List ByteArray}
theorem OStrs.read {ao : Option Addr} (h : OStrs w lo (.slice ao n cap) n ss) : Strs w ao n ss := by
  obtain ⟨ao', cap', e, hi⟩ := h.form
  injection e with e1
  subst e1
  exact hi
theorem OStrs.two {ao : Option Addr} (h : OStrs w lo (.slice ao n cap) n ss) : (ao = none ∧ n = 0) ∨ ∃ g, ao = some ⟨g, 0, none⟩ := by
  rcases h.2.2 with ⟨e, hn⟩ | ⟨g, c, cur, e, _⟩
  · injection e with e1
    exact .inl ⟨e1, hn⟩
  · injection e with e1
    exact .inr ⟨g, e1⟩
theorem OStrs.lt (h : OStrs w lo (.slice (some ⟨g, 0, none⟩) n cap) n ss) : lo ≤ g ∧ g < w.heap.size := h.2.lt g rfl
theorem OStrs.frozen (h : OStrs w lo (.slice (some ⟨g, 0, none⟩) n cap) n ss) (k : Nat) : w.frozen? ⟨g, k, none⟩ = false := h.2.frozenAt k
theorem OStrs.cell (h : OStrs w lo (.slice (some ⟨g, 0, none⟩) n cap) n ss) {k : Nat} {s : ByteArray} (hk : ss[k]? = some s) : w.cell? ⟨g, k, none⟩ = some (.string s) := by
  obtain ⟨b, o, e, hc⟩ := h.read.2.2 k s hk
  injection e with e
  injection e with e1 e2
  subst e1
  subst e2
  simpa using hc
theorem OStrs.set (h : OStrs w lo (.slice (some ⟨g, 0, none⟩) n cap) n ss) (k : Nat) (s : ByteArray) : OStrs (w.setCell ⟨g, k, none⟩ (.string s)) lo (.slice (some ⟨g, 0, none⟩) n cap) n (ss.set k s) := by
  refine ⟨h.1, ?_⟩
  rw [List.map_set]
  exact (h.2.stored k _).1
end
theorem wp_push_str {o : Oper} {a : Act} {K0 : Act → World → Prop} {Q : Exit → Act → World → Prop} (W : World) (y : ByteArray) (s x : Operand)
    (ho : o.op = .call { callee := .builtin .append, args := #[s, x], argTypes := #[68, 68] })
    (lo : Nat) (v : Value) (n : Nat) (xs : List ByteArray) (hs : a.eval s = v) (h : OStrs W lo v n xs) (hn : n + 1 ≤ 1099511627776) (hlo : lo ≤ W.heap.size)
    (tb : Nat) (htb : tb = W.heap.size) (hx : a.eval x = .slice (some ⟨tb, 0, none⟩) 1 1)
    (K : ∀ v' w', OStrs w' lo v' (n + 1) (xs ++ [y]) → Below lo W w' → K0 (a.put o.dst v') w') : o.wp Try.prog a (W.alloc (.cells #[.string y] 9)) K0 Q := by
  subst htb
  obtain ⟨i0, hi, hz0, hz1, hz2⟩ := info_parts info_str
  refine wp_append_own _ s x 68 ho lo 9 i0 (.string ⟨#[]⟩) 1 16 Try.underlying68 hi hz0 hz1 hz2 rfl (by decide) v n _ hs (h.alloc _).2 ⟨W.heap.size, 0, none⟩ 1 1 [.string y] hx rfl ?_ ?_ ?_ ?_ (by simp; omega) ?_
  · intro j u' hj
    match j, hj with
    | 0, hj =>
      simp at hj
      subst hj
      exact World.cell?_alloc_new _ _ _ _
  · intro u' hu'
    simp at hu'
    subst hu'
    rfl
  · unfold maxLen; omega
  · omega
  · intro v' w' hown hgrow _
    refine K v' w' ⟨hn, ?_⟩ (((Below.refl lo W).alloc hlo _).grown hgrow (by simp; omega) (fun k hk => (h.ownlt k hk).1))
    rw [List.map_append]
    exact hown
theorem wpList_push_str {ops : Array Oper} {rest : List Oper} {o : Oper} {a : Act} {Q : Exit → Act → World → Prop} (W : World) (y : ByteArray) (hgd : o.guard = none) (s x : Operand)
    (ho : o.op = .call { callee := .builtin .append, args := #[s, x], argTypes := #[68, 68] })
    (lo : Nat) (v : Value) (n : Nat) (xs : List ByteArray) (hs : a.eval s = v) (h : OStrs W lo v n xs) (hn : n + 1 ≤ 1099511627776) (hlo : lo ≤ W.heap.size)
    (tb : Nat) (htb : tb = W.heap.size) (hx : a.eval x = .slice (some ⟨tb, 0, none⟩) 1 1)
    (K : ∀ v' w', OStrs w' lo v' (n + 1) (xs ++ [y]) → Below lo W w' → wpList Try.prog ops Q rest (a.put o.dst v') w') : wpList Try.prog ops Q (o :: rest) a (W.alloc (.cells #[.string y] 9)) := by
  refine wpList_plain hgd fun K' hK => ?_
  exact wp_push_str W y s x ho lo v n xs hs h hn hlo tb htb hx fun v' w' h1 h2 => hK _ _ (K v' w' h1 h2)
theorem OStrs.lit (w : World) (lo : Nat) (ss : List ByteArray) (hlo : lo ≤ w.heap.size) (hn : ss.length ≤ 1048576) : OStrs (w.alloc (.cells (ss.map Value.string).toArray 9)) lo (.slice (some ⟨w.heap.size, 0, none⟩) ss.length ss.length) ss.length ss := by
  refine ⟨by omega, ?_⟩
  have h := World.ownsRow_lit (base := lo) (e := 9) (size := 1) w (ss.map Value.string).toArray ss.length hlo (by unfold maxLen; omega) (by simp)
  simpa using h
theorem OStrs.far {w w' : World} {lo n : Nat} {u v : Value} {ss : List ByteArray} (h : OStrs w lo u n ss) (hg : w.grownBy w' v.ownBlock) (ha : Apart u v) : OStrs w' lo u n ss := h.grown hg ha.ne
theorem wpList_push_strAt {ops : Array Oper} {rest : List Oper} {o : Oper} {a : Act} {Q : Exit → Act → World → Prop} (W : World) (y : ByteArray) (hgd : o.guard = none) (s x : Operand)
    (ho : o.op = .call { callee := .builtin .append, args := #[s, x], argTypes := #[68, 68] })
    (lo : Nat) (v : Value) (n : Nat) (xs : List ByteArray) (hs : a.eval s = v) (h : OStrs W lo v n xs) (hn : n + 1 ≤ 1099511627776) (hlo : lo ≤ W.heap.size)
    (tb : Nat) (htb : tb = W.heap.size) (hx : a.eval x = .slice (some ⟨tb, 0, none⟩) 1 1)
    (K : ∀ v' w', OStrs w' lo v' (n + 1) (xs ++ [y]) → W.grownBy w' v.ownBlock → NewOr W.heap.size v v' → wpList Try.prog ops Q rest (a.put o.dst v') w') : wpList Try.prog ops Q (o :: rest) a (W.alloc (.cells #[.string y] 9)) := by
  refine wpList_plain hgd fun K' hK => ?_
  subst htb
  obtain ⟨i0, hi, hz0, hz1, hz2⟩ := info_parts info_str
  obtain ⟨v', w', hr, h2, h3, _, h5⟩ := run_append_own_at (P := Try.prog) (W.alloc (.cells #[.string y] 9)) lo 68 o.type 9 i0 (.string ⟨#[]⟩) 1 16 Try.underlying68 hi hz0 hz1 hz2 rfl (by decide) v n _ (h.alloc _).2 ⟨W.heap.size, 0, none⟩ 1 1 [.string y] rfl
    (by
      intro j u' hj
      match j, hj with
      | 0, hj =>
        simp at hj
        subst hj
        exact World.cell?_alloc_new _ _ _ _) (by intro u hu; simp at hu; subst hu; rfl) (by unfold maxLen; omega) (by omega) (by simp; omega)
  unfold Oper.wp execOp
  simp only [ho, resolve, invoke, builtin, Sem.run_bind, Sem.run_pure, Result.andThen_ok, List.map_toArray, List.map_cons, List.map_nil, hs, hx, hr]
  refine hK _ _ (K v' w' ⟨hn, ?_⟩ ((grown_alloc W _ _).trans h3) ?_)
  · rw [List.map_append]; exact h2
  · rcases h5 with h5 | h5
    · exact .inl h5
    · exact .inr ⟨_, h5, by simp⟩
end Go.Proofs.Ytmkodbkbgpjgoaa

namespace Go.Proofs.Ytmkodbkbgpjgoaa
open Go.RowKit
set_option linter.all false
def u8C (B : List UInt8) : List Value := B.map fun b => Value.int .u8 (b.toNat : Int)
def OB (w : World) (lo : Nat) (v : Value) (B : List UInt8) : Prop := B.length ≤ 1099511627776 ∧ w.ownsRow lo 5 1 v B.length (u8C B)
theorem info_u8 : (Try.prog.info? 5).map (fun i => (i.zero, i.size, i.bytes)) = some (some (.int .u8 0), 1, 1) := by kernel_rfl
section
variable {w w' : World} {lo : Nat} {v : Value} {B : List UInt8}
theorem OB.keep (h : OB w lo v B) (hb : Below w.heap.size w w') : OB w' lo v B := ⟨h.1, own_keep h.2 hb⟩
theorem OB.alloc (h : OB w lo v B) (o : Obj) : OB (w.alloc o) lo v B := ⟨h.1, h.2.alloc o⟩
theorem OB.ownlt (h : OB w lo v B) : ∀ k, v.ownBlock = some k → lo ≤ k ∧ k < w.heap.size := h.2.lt
theorem OB.form (h : OB w lo v B) : ∃ ao cap, v = .slice ao B.length cap := by
  rcases h.2.2 with ⟨rfl, h0⟩ | ⟨g, cap, cur, rfl, _⟩
  · exact ⟨none, 0, by rw [h0]⟩
  · exact ⟨some ⟨g, 0, none⟩, cap, rfl⟩
theorem OB.empty (w : World) (lo : Nat) (hlo : lo ≤ w.heap.size) : OB (w.alloc (.cells #[] 5)) lo (.slice (some ⟨w.heap.size, 0, none⟩) 0 0) [] :=
  ⟨Nat.zero_le _, World.ownsRow_made (base := lo) (e := 5) (size := 1) w #[] 0 hlo (by unfold maxLen; omega) rfl⟩
end
theorem u8C_app (A B : List UInt8) : u8C (A ++ B) = u8C A ++ u8C B := by simp [u8C]
theorem u8C_str (s : ByteArray) : u8C s.data.toList = Lib.strCells s := rfl
theorem fold_u8 : ∀ (B : List UInt8) (s : ByteArray), (B.map fun b => (b.toNat : Int)).foldl (fun r n => r.push (UInt8.ofNat n.toNat)) s = ⟨s.data ++ B.toArray⟩
  | [], s => by simp
  | b :: r, s => by
    rw [List.map_cons, List.foldl_cons, fold_u8 r]
    simp [ByteArray.push]
theorem conv_u8 (w : World) (lo : Nat) (v : Value) (B : List UInt8) (h : OB w lo v B) : (convert 22 9 v).run Try.prog w = .ok (.string ⟨B.toArray⟩) w := by
  rcases h.2.2 with ⟨rfl, h0⟩ | ⟨g, cap, cur, rfl, _⟩
  · have e : B = [] := List.eq_nil_of_length_eq_zero h0
    subst e
    rw [run_convert_bytes_string w 22 9 5 _ _ _ Try.underlying22 Try.underlying5 Try.underlying9]
    simp [Conv.bytesToString]
    rfl
  · rw [run_convert_bytes_string w 22 9 5 _ _ _ Try.underlying22 Try.underlying5 Try.underlying9]
    have e : u8C B = (B.map fun b => (b.toNat : Int)).map (Value.int .u8) := by simp [u8C]
    have hc := run_loadCells_list (P := Try.prog) w ⟨g, 0, none⟩ ((B.map fun b => (b.toNat : Int)).map (Value.int .u8)) (fun j u hu => h.2.cells (g := g) rfl j u (by rw [e]; exact hu))
    rw [List.length_map, List.length_map] at hc
    rw [run_bytesToString w ⟨g, 0, none⟩ B.length cap (B.map fun b => (b.toNat : Int)) hc, fold_u8]
    simp [ByteArray.empty, ByteArray.emptyWithCapacity]
    rfl
/-- Pieces joined. -/
def joinB (ss : List ByteArray) (sep : ByteArray) : ByteArray := ⟨(Lib.join (ss.map (·.data.toList)) sep.data.toList).toArray⟩
def toCome (sep : ByteArray) (k : Nat) (ss : List ByteArray) : List UInt8 :=
  if k = 0 then Lib.join (ss.map (·.data.toList)) sep.data.toList else Lib.joinTail sep.data.toList (ss.map (·.data.toList))
theorem toCome_first {sep s : ByteArray} {ss : List ByteArray} {R : List UInt8} (hs : ss[0]? = some s) (h : [] ++ toCome sep 0 (ss.drop 0) = R) : ([] ++ s.data.toList) ++ toCome sep 1 (ss.drop 1) = R := by
  rw [← h, drop_of_get hs]
  simp [toCome, Lib.join_cons]
theorem toCome_next {sep s : ByteArray} {k : Nat} {ss : List ByteArray} {B R : List UInt8} (hk : 0 < k) (hs : ss[k]? = some s) (h : B ++ toCome sep k (ss.drop k) = R) : ((B ++ sep.data.toList) ++ s.data.toList) ++ toCome sep (k + 1) (ss.drop (k + 1)) = R := by
  rw [← h, drop_of_get hs]
  have h0 : k ≠ 0 := by omega
  simp [toCome, h0, Lib.joinTail]
theorem toCome_end {sep : ByteArray} {k : Nat} {ss : List ByteArray} {B R : List UInt8} (hk : ss.length ≤ k) (h : B ++ toCome sep k (ss.drop k) = R) : B = R := by
  rw [drop_all ss k hk] at h
  rw [← h]
  unfold toCome
  split <;> simp [Lib.join, Lib.joinTail]
theorem toCome_len {sep : ByteArray} {k : Nat} {ss : List ByteArray} {B R : List UInt8} (h : B ++ toCome sep k ss = R) : B.length ≤ R.length := by rw [← h]; simp
set_option maxRecDepth 20000 in
theorem wpList_app_str {ops : Array Oper} {rest : List Oper} {o : Oper} {a : Act} {Q : Exit → Act → World → Prop} (W : World) (hgd : o.guard = none) (s x : Operand)
    (ho : o.op = .call { callee := .builtin .append, args := #[s, x], argTypes := #[22, 9] })
    (lo : Nat) (v : Value) (B : List UInt8) (hs : a.eval s = v) (h : OB W lo v B) (y : ByteArray) (hx : a.eval x = .string y) (hn : B.length + y.size ≤ 1099511627776) (hlo : lo ≤ W.heap.size)
    (K : ∀ v' w', OB w' lo v' (B ++ y.data.toList) → Below lo W w' → wpList Try.prog ops Q rest (a.put o.dst v') w') : wpList Try.prog ops Q (o :: rest) a W := by
  obtain ⟨i0, hi, hz0, hz1, hz2⟩ := info_parts info_u8
  have hyl : y.data.toList.length = y.size := Array.length_toList
  refine Lib.wpList_append_own_string W hgd s x 22 9 ho lo 5 i0 Try.underlying22 Try.underlying9 hi hz0 hz1 hz2 v B.length (u8C B) hs h.2 y hx (by unfold maxLen; omega) (by omega) hlo ?_
  intro v' w' hown hgrow _
  have e : (B ++ y.data.toList).length = B.length + y.size := by rw [List.length_append, hyl]
  refine K v' w' ⟨by rw [e]; exact hn, ?_⟩ ((Below.refl lo W).grown hgrow hlo (fun k hk => (h.ownlt k hk).1))
  rw [e, u8C_app]
  exact hown
section
variable {w w' : World} {lo g cap : Nat} {B : List UInt8}
theorem OB.num {n : Nat} (h : OB w lo (.slice (some ⟨g, 0, none⟩) n cap) B) : n = B.length := by
  rcases h.2.2 with ⟨e, _⟩ | ⟨g', c, cur, e, _⟩
  · cases e
  · injection e with _ e2 _
theorem OB.frozen {n : Nat} (h : OB w lo (.slice (some ⟨g, 0, none⟩) n cap) B) (k : Nat) : w.frozen? ⟨g, k, none⟩ = false := by
  obtain rfl := h.num
  exact h.2.frozenAt k
theorem OB.lt {n : Nat} (h : OB w lo (.slice (some ⟨g, 0, none⟩) n cap) B) : lo ≤ g ∧ g < w.heap.size := h.2.lt g rfl
theorem OB.cell {n : Nat} (h : OB w lo (.slice (some ⟨g, 0, none⟩) n cap) B) {k : Nat} {b : UInt8} (hk : B[k]? = some b) : w.cell? ⟨g, k, none⟩ = some (.int .u8 (b.toNat : Int)) := by
  have hc := h.2.cells (g := g) rfl k (.int .u8 (b.toNat : Int)) (by simp [u8C, hk])
  rw [Addr.add_lit] at hc
  simpa using hc
theorem OB.set {n : Nat} (h : OB w lo (.slice (some ⟨g, 0, none⟩) n cap) B) (k : Nat) (b : UInt8) : OB (w.setCell ⟨g, k, none⟩ (.int .u8 (b.toNat : Int))) lo (.slice (some ⟨g, 0, none⟩) n cap) (B.set k b) := by
  obtain rfl := h.num
  refine ⟨by simpa using h.1, ?_⟩
  have e : u8C (B.set k b) = (u8C B).set k (.int .u8 (b.toNat : Int)) := by unfold u8C; rw [List.map_set]
  rw [e, List.length_set]
  exact (h.2.stored k _).1
end
theorem make_bytes (n : Nat) (hn : n ≤ 1099511627776) (w : World) :
    (Instr.makeSlice 22 (.int .i64 (n : Int)) (.int .i64 (n : Int))).run Try.prog w = .ok (.slice (some ⟨w.heap.size, 0, none⟩) n n) (w.alloc (.cells (madeCells #[.int .u8 0] n) 5)) :=
  run_make_row' (P := Try.prog) 22 5 (.int .u8 0) 1 Try.underlying22 info_u8 rfl .i64 .i64 n (by omega) (by omega) w
theorem OB.made (w : World) (n : Nat) (hn : n ≤ 1099511627776) : OB (w.alloc (.cells (madeCells #[.int .u8 0] n) 5)) w.heap.size (.slice (some ⟨w.heap.size, 0, none⟩) n n) (List.replicate n 0) := by
  refine ⟨by simpa using hn, ?_⟩
  have h := World.ownsRow_lit (base := w.heap.size) (e := 5) (size := 1) w (madeCells #[.int .u8 0] n) n (Nat.le_refl _) (by unfold maxLen; omega) (by simp [madeCells])
  rw [toList_madeCells_one] at h
  rw [List.length_replicate]
  simpa [u8C] using h
end Go.Proofs.Ytmkodbkbgpjgoaa

namespace Go.Proofs.Ytmkodbkbgpjgoaa
open Go.RowKit
set_option linter.all false
def zt (x : Nat) : ByteArray := (⟨#[90, 47]⟩ : ByteArray) ++ decB x
def grpF : List Int → List ByteArray → ByteArray
  | [], ws => if ws.length = 0 then ⟨#[48]⟩ else joinB ws ⟨#[43]⟩
  | x :: r, ws => if x < 0 then ⟨#[]⟩ else if x = 0 then grpF r (ws ++ [⟨#[90]⟩]) else if 1 < x then grpF r (ws ++ [zt x.toNat]) else grpF r ws
def groupTxt (xs : List Int) : ByteArray := grpF xs []
theorem zt_size {x : Nat} (h : x < 18446744073709551616) : (zt x).size ≤ 22 := by
  have h1 := decB_size h
  have h2 : (zt x).size = 2 + (decB x).size := by unfold zt; rw [ByteArray.size_append]; rfl
  omega
theorem grp_step {xs : List Int} {k : Nat} {x : Int} {ws : List ByteArray} {R : ByteArray} (hx : xs[k]? = some x) (h : grpF (xs.drop k) ws = R) :
    (x < 0 → R = ⟨#[]⟩) ∧ (x = 0 → grpF (xs.drop (k + 1)) (ws ++ [⟨#[90]⟩]) = R) ∧ (1 < x → grpF (xs.drop (k + 1)) (ws ++ [zt x.toNat]) = R) ∧ (x = 1 → grpF (xs.drop (k + 1)) ws = R) := by
  rw [drop_of_get hx, grpF] at h
  refine ⟨fun e => ?_, fun e => ?_, fun e => ?_, fun e => ?_⟩
  · rw [if_pos e] at h; exact h.symm
  · rw [if_neg (by omega), if_pos e] at h; exact h
  · rw [if_neg (by omega), if_neg (by omega), if_pos e] at h; exact h
  · rw [if_neg (by omega), if_neg (by omega), if_neg (by omega)] at h; exact h
theorem grp_end {xs : List Int} {k : Nat} {ws : List ByteArray} {R : ByteArray} (hk : xs.length ≤ k) (h : grpF (xs.drop k) ws = R) : (ws.length = 0 → R = ⟨#[48]⟩) ∧ (0 < ws.length → R = joinB ws ⟨#[43]⟩) := by
  rw [drop_all xs k hk, grpF] at h
  constructor
  · intro e; rw [if_pos e] at h; exact h.symm
  · intro e; rw [if_neg (by omega)] at h; exact h.symm
theorem lens_le : ∀ (ws : List ByteArray) (m : Nat), (∀ s ∈ ws, s.size ≤ m) → Lib.lens (ws.map (·.data.toList)) ≤ m * ws.length
  | [], m, _ => by simp [Lib.lens]
  | s :: r, m, h => by
    have h1 := lens_le r m (fun x hx => h x (List.mem_cons_of_mem _ hx))
    have h2 := h s (List.mem_cons_self ..)
    have h3 : s.data.toList.length = s.size := Array.length_toList
    simp only [Lib.lens, List.map_cons, List.sum_cons, List.length_cons] at h1 ⊢
    rw [Nat.mul_succ]
    omega
theorem joinB_len (ws : List ByteArray) (sep : ByteArray) : (Lib.join (ws.map (·.data.toList)) sep.data.toList).length = (joinB ws sep).size := by simp [joinB, ByteArray.size]
theorem joinB_size {ws : List ByteArray} {sep : ByteArray} {m : Nat} (h : ∀ s ∈ ws, s.size ≤ m) : (joinB ws sep).size ≤ (m + sep.size) * ws.length := by
  have hs : sep.data.toList.length = sep.size := Array.length_toList
  have e : (joinB ws sep).size = (Lib.join (ws.map (·.data.toList)) sep.data.toList).length := by simp [joinB, ByteArray.size]
  rw [e]
  cases ws with
  | nil => simp [Lib.join]
  | cons s r =>
    rw [List.map_cons, Lib.join_length, hs, List.length_map]
    have h1 := lens_le (s :: r) m h
    rw [List.map_cons] at h1
    have h2 : (m + sep.size) * (s :: r).length = m * (s :: r).length + sep.size * (s :: r).length := Nat.add_mul ..
    have h3 : sep.size * r.length ≤ sep.size * (s :: r).length := Nat.mul_le_mul_left _ (by simp)
    omega
theorem all_push {ws : List ByteArray} {s : ByteArray} {m : Nat} (h : ∀ x ∈ ws, x.size ≤ m) (hs : s.size ≤ m) : ∀ x ∈ ws ++ [s], x.size ≤ m := by
  intro x hx
  rcases List.mem_append.1 hx with hx | hx
  · exact h x hx
  · simp at hx; subst hx; exact hs
end Go.Proofs.Ytmkodbkbgpjgoaa

namespace Go.Proofs.Ytmkodbkbgpjgoaa
open Go.RowKit
set_option linter.all false
def wdB (k : Nat) : Nat → Nat → List UInt8
  | 0, _ => []
  | n + 1, i => wdB k n (i / k) ++ [97 + UInt8.ofNat (i % k)]
def wordN (k n i : Nat) : ByteArray := ⟨(wdB k n i).toArray⟩
def allW (k n : Nat) : List ByteArray := (List.range (k ^ n)).map (wordN k n)
theorem wdB_len (k : Nat) : ∀ n i, (wdB k n i).length = n
  | 0, _ => rfl
  | n + 1, i => by rw [wdB, List.length_append, wdB_len k n]; rfl
theorem wordN_size (k n i : Nat) : (wordN k n i).size = n := by
  have h := wdB_len k n i
  simpa [wordN, ByteArray.size] using h
theorem allW_len (k n : Nat) : (allW k n).length = k ^ n := by simp [allW]
theorem allW_get {k n i : Nat} (h : i < k ^ n) : (allW k n)[i]? = some (wordN k n i) := by simp [allW, h]
theorem allW_zero (k : Nat) : allW k 0 = [⟨#[]⟩] := by simp [allW, wordN, wdB]
theorem abc_at {x : Nat} (h : x < 3) : (⟨#[97, 98, 99]⟩ : ByteArray).extract x (x + 1) = ⟨#[97 + UInt8.ofNat x]⟩ := by
  have h3 : x = 0 ∨ x = 1 ∨ x = 2 := by omega
  rcases h3 with rfl | rfl | rfl <;> decide +kernel
theorem word_snoc {k n j x : Nat} (hx : x < k) : wordN k (n + 1) (j * k + x) = wordN k n j ++ (⟨#[97 + UInt8.ofNat x]⟩ : ByteArray) := by
  have e1 : (j * k + x) / k = j := by
    rw [Nat.mul_comm, Nat.mul_add_div (by omega), Nat.div_eq_of_lt hx, Nat.add_zero]
  have e2 : (j * k + x) % k = x := by
    rw [Nat.mul_comm, Nat.mul_add_mod, Nat.mod_eq_of_lt hx]
  unfold wordN
  rw [wdB, e1, e2]
  apply ByteArray.ext
  simp
theorem pow_le_of {k n : Nat} (hk : k ≤ 3) (hn : n ≤ 8) : k ^ n ≤ 6561 :=
  Nat.le_trans (Nat.pow_le_pow_left hk n) (Nat.le_trans (Nat.pow_le_pow_right (by omega) hn) (by decide))
theorem idx_lt {k n j x : Nat} (hj : j < k ^ n) (hx : x < k) : j * k + x < k ^ (n + 1) := by
  rw [Nat.pow_succ]
  have h1 : (j + 1) * k ≤ k ^ n * k := Nat.mul_le_mul_right k hj
  rw [Nat.add_mul, Nat.one_mul] at h1
  omega
/-- What is still to be written of a word, its end first. -/
theorem wdB_step {k t i : Nat} {S R : List UInt8} (h : wdB k (t + 1) i ++ S = R) : wdB k t (i / k) ++ ([97 + UInt8.ofNat (i % k)] ++ S) = R := by
  rw [← h, wdB]
  simp
theorem wdB_bytes {k : Nat} (hk : 1 ≤ k) (hk3 : k ≤ 3) : ∀ n i, ∀ b ∈ wdB k n i, 97 ≤ b.toNat ∧ b.toNat < 97 + k
  | 0, _ => by simp [wdB]
  | n + 1, i => by
    intro b hb
    rw [wdB] at hb
    rcases List.mem_append.1 hb with hb | hb
    · exact wdB_bytes hk hk3 n _ b hb
    · simp at hb
      subst hb
      have hm : i % k < k := Nat.mod_lt _ (by omega)
      have h3 : i % k = 0 ∨ i % k = 1 ∨ i % k = 2 := by omega
      rcases h3 with h | h | h <;> rw [h] at hm ⊢ <;> refine ⟨by decide, ?_⟩
      · show (97 : Nat) < _; omega
      · show (98 : Nat) < _; omega
      · show (99 : Nat) < _; omega
theorem bl_list {s : ByteArray} {j : Nat} (h : j < s.size) : ∃ b, s.data.toList[j]? = some b ∧ bl s j = b.toNat := by
  have hl : j < s.data.toList.length := by rw [Array.length_toList]; exact h
  refine ⟨s.data.toList[j], List.getElem?_eq_getElem hl, ?_⟩
  rw [bl_get h]
  congr 1
theorem okW_of {k : Int} {s : ByteArray} : ∀ (m i : Nat), (∀ j, i ≤ j → j < i + m → 97 ≤ bl s j ∧ (bl s j : Int) - 97 < k) → okW k s i m = true
  | 0, _, _ => rfl
  | m + 1, i, h => by
    have h0 := h i (Nat.le_refl _) (by omega)
    have hr := okW_of m (i + 1) (fun j h1 h2 => h j (by omega) (by omega))
    simp [okW, h0.1, h0.2, hr]
theorem isWd_word {k n i : Nat} (hk : 1 ≤ k) (hk3 : k ≤ 3) (hn : n ≤ 16) : isWd k (wordN k n i) = true := by
  have hs := wordN_size k n i
  have h1 : inR (k : Int) 1 3 = true := inR_mk ⟨by omega, by omega⟩
  have h2 : okW k (wordN k n i) 0 (wordN k n i).size = true := by
    refine okW_of _ _ fun j _ hj => ?_
    obtain ⟨b, hb, e⟩ := bl_list (s := wordN k n i) (j := j) (by omega)
    have hm : b ∈ wdB k n i := by
      have h := List.mem_of_getElem? hb
      simpa [wordN] using h
    have := wdB_bytes hk hk3 n i b hm
    rw [e]
    omega
  unfold isWd
  rw [h1, h2]
  simp
  omega
end Go.Proofs.Ytmkodbkbgpjgoaa

namespace Go.Proofs.Ytmkodbkbgpjgoaa
open Go.RowKit
set_option linter.all false
/- The cursor of the draws: a block of three cells; what is drawn from it is some number within bounds. -/
/-- A slice of bytes that can be read. -/
def Bytes (w : World) (ao : Option Addr) (n : Nat) : Prop := n ≤ 1099511627776 ∧ ∀ i, i < n → ∃ b o x, ao = some ⟨b, o, none⟩ ∧ w.cell? ⟨b, o + i, none⟩ = some (.int .u8 x) ∧ 0 ≤ x ∧ x ≤ 255
theorem Bytes.keep {w w' : World} {ao : Option Addr} {n : Nat} (h : Bytes w ao n) (hb : Below w.heap.size w w') : Bytes w' ao n := by
  refine ⟨h.1, fun i hi => ?_⟩
  obtain ⟨b, o, x, e, hc, hx⟩ := h.2 i hi
  exact ⟨b, o, x, e, (hb.cell (p := ⟨b, o + i, none⟩) (World.block_lt_of_cell? w _ hc)).trans hc, hx⟩
def Cur (w : World) (b lo : Nat) : Prop := lo ≤ b ∧ ∃ ao n c, ∃ k : Nat, ∃ h : Int, w.heap[b]? = some (.cells #[.slice ao n c, .int .i64 k, .int .i64 h] 65 (0, 0)) ∧ k ≤ n ∧ n ≤ 1099511627776 ∧
  ∀ i, i < n → ∃ q o x, ao = some ⟨q, o, none⟩ ∧ q < lo ∧ w.cell? ⟨q, o + i, none⟩ = some (.int .u8 x) ∧ 0 ≤ x ∧ x ≤ 255
theorem Cur.lt {w : World} {b lo : Nat} (h : Cur w b lo) : lo ≤ b ∧ b < w.heap.size := by
  obtain ⟨h1, ao, n, c, k, x, hh, _⟩ := h
  exact ⟨h1, (Array.getElem?_eq_some_iff.1 hh).1⟩
theorem Cur.drewN {w : World} {b lo : Nat} (h : Cur w b lo) (n : Nat) : Cur (w.drewN n) b lo := h
theorem Cur.keep {w w' : World} {b lo : Nat} (h : Cur w b lo) (hb : Below w.heap.size w w') : Cur w' b lo := by
  have hl := h.lt
  obtain ⟨h1, ao, n, c, k, x, hh, h2, h3, h4⟩ := h
  refine ⟨h1, ao, n, c, k, x, (hb.block b hl.2).trans hh, h2, h3, fun i hi => ?_⟩
  obtain ⟨q, o, y, e, hq, hc, hy⟩ := h4 i hi
  exact ⟨q, o, y, e, hq, (hb.cell (p := ⟨q, o + i, none⟩) (World.block_lt_of_cell? w _ hc)).trans hc, hy⟩
theorem Cur.grown {w w' : World} {b lo : Nat} {row : Option Nat} (h : Cur w b lo) (hb : w.grownBy w' row) (hr : ∀ g, row = some g → b < g) : Cur w' b lo := by
  have hl := h.lt
  obtain ⟨h1, ao, n, c, k, x, hh, h2, h3, h4⟩ := h
  refine ⟨h1, ao, n, c, k, x, (hb.block b hl.2 (fun e => by have := hr b e.symm; omega)).trans hh, h2, h3, fun i hi => ?_⟩
  obtain ⟨q, o, y, e, hq, hc, hy⟩ := h4 i hi
  refine ⟨q, o, y, e, hq, ?_, hy⟩
  have := hb.block q (by omega) (fun e => by have := hr q e.symm; omega)
  unfold World.cell? at hc ⊢
  simp only at hc ⊢
  rw [this]
  exact hc
theorem heap_cells {w : World} {b : Nat} {cs : Array Value} {t : TypeId} (h : w.heap[b]? = some (.cells cs t (0, 0))) (i : Nat) : w.cell? ⟨b, i, none⟩ = cs[i]? ∧ w.frozen? ⟨b, i, none⟩ = false := by
  constructor
  · simp [World.cell?, h]
  · simp [World.frozen?, h]
/-- One cell of the cursor is written. -/
theorem Cur.wrote {w : World} {b lo : Nat} {ao : Option Addr} {n c : Nat} {k : Nat} {h : Int} (h1 : lo ≤ b) (hh : w.heap[b]? = some (.cells #[.slice ao n c, .int .i64 k, .int .i64 h] 65 (0, 0))) (h2 : k ≤ n) (h3 : n ≤ 1099511627776)
    (h4 : ∀ i, i < n → ∃ q o x, ao = some ⟨q, o, none⟩ ∧ q < lo ∧ w.cell? ⟨q, o + i, none⟩ = some (.int .u8 x) ∧ 0 ≤ x ∧ x ≤ 255) (j : Nat) (u : Value) :
    (w.setCell ⟨b, j, none⟩ u).heap[b]? = some (.cells (#[.slice ao n c, .int .i64 k, .int .i64 h].setIfInBounds j u) 65 (0, 0)) ∧
    (∀ i, i < n → ∃ q o x, ao = some ⟨q, o, none⟩ ∧ q < lo ∧ (w.setCell ⟨b, j, none⟩ u).cell? ⟨q, o + i, none⟩ = some (.int .u8 x) ∧ 0 ≤ x ∧ x ≤ 255) ∧ w.grownBy (w.setCell ⟨b, j, none⟩ u) (some b) := by
  refine ⟨heap_setCell_same w b j _ _ u hh, fun i hi => ?_, only_setCell (World.grownBy.refl w _) rfl u⟩
  obtain ⟨q, o, x, e, hq, hc, hx⟩ := h4 i hi
  exact ⟨q, o, x, e, hq, (World.cell?_setCell_far w _ _ u (by show b ≠ q; omega)).trans hc, hx⟩
theorem and255 (n : Int) : 0 ≤ bits .and .i64 n 255 ∧ bits .and .i64 n 255 ≤ 255 := by
  have h255 : (BitVec.ofInt 64 255).toNat = 2 ^ 8 - 1 := by decide
  have key : (BitVec.ofInt 64 n &&& BitVec.ofInt 64 255).toNat = (BitVec.ofInt 64 n).toNat % 2 ^ 8 := by
    rw [BitVec.toNat_and, h255, Nat.and_two_pow_sub_one_eq_mod]
  have e : bits .and .i64 n 255 = (((BitVec.ofInt 64 n).toNat % 2 ^ 8 : Nat) : Int) := by
    show IntKind.i64.wrap ((BitVec.ofInt 64 n &&& BitVec.ofInt 64 255).toNat : Nat) = _
    rw [key, IntKind.wrap_i64]
    omega
  rw [e]
  omega
theorem grown_drewN {w w' : World} {row : Option Nat} (h : w.grownBy w' row) (n : Nat) : w.grownBy (w'.drewN n) row := ⟨h.os, h.tape, h.output, h.size, h.block⟩
theorem grown_of_below {w w' : World} {row : Option Nat} (h : Below w.heap.size w w') : w.grownBy w' row := ⟨h.os, h.tape, h.output, h.size, fun k hk _ => h.block k hk⟩
theorem below_of_grown {w w' : World} {b B : Nat} (h : w.grownBy w' (some b)) (hB : B ≤ b) (hs : B ≤ w.heap.size) : Below B w w' := ⟨h.os, h.tape, h.output, h.size, fun k hk => h.block k (by omega) (fun e => by injection e; omega)⟩
theorem OInts.away {w w' : World} {lo n b : Nat} {v : Value} {xs : List Int} (h : OInts w lo v n xs) (hg : w.grownBy w' (some b)) (hb : b < lo) : OInts w' lo v n xs := by
  refine h.grown hg ?_
  cases hv : v.ownBlock with
  | none => exact .inl rfl
  | some g => right; intro e; injection e with e; have := h.ownlt g hv; omega
theorem OIntss.away {w w' : World} {lo n b : Nat} {v : Value} {xss : List (List Int)} (h : OIntss w lo v n xss) (hg : w.grownBy w' (some b)) (hb : b < lo) : OIntss w' lo v n xss :=
  h.since ⟨hg.size, fun k h1 h2 => hg.block k h2 (fun e => by injection e; omega)⟩
theorem OInts.lit_ {w : World} {lo n : Nat} {xs : List Int} {arr : Array Value} (hlo : lo ≤ w.heap.size) (ha : arr.toList = xs.map (.int .i64)) (hn : xs.length = n) (hm : n ≤ 1048576) : OInts (w.alloc (.cells arr 3)) lo (.slice (some ⟨w.heap.size, 0, none⟩) n n) n xs := by
  have hs : arr.size = n := by have := congrArg List.length ha; simpa [hn] using this
  refine ⟨by omega, ?_⟩
  have h := World.ownsRow_lit (base := lo) (e := 3) (size := 1) w arr n hlo (by unfold maxLen; omega) (by omega)
  rw [ha] at h
  exact h
theorem OIntss.lit {W : World} {lo n : Nat} {vs : List Value} {xss : List (List Int)} {arr : Array Value} (hlo : lo ≤ W.heap.size) (ha : arr.toList = vs) (hn : vs.length = n) (hl : xss.length = n) (hm : n ≤ 1048576)
    (hr : ∀ (i : Nat) (u : Value) (r : List Int), vs[i]? = some u → xss[i]? = some r → OInts W lo u r.length r)
    (hd : ∀ (i j : Nat) (u u' : Value), i ≠ j → vs[i]? = some u → vs[j]? = some u' → u.ownBlock = none ∨ u.ownBlock ≠ u'.ownBlock) :
    OIntss (W.alloc (.cells arr 42)) lo (.slice (some ⟨W.heap.size, 0, none⟩) n n) n xss := by
  have hs : arr.size = n := by have := congrArg List.length ha; simpa [hn] using this
  have h := World.ownsRow_lit (base := lo) (e := 42) (size := 1) W arr n hlo (by unfold maxLen; omega) (by omega)
  rw [ha] at h
  exact ⟨by omega, hl, vs, h, fun i u r hu hx => (hr i u r hu hx).alloc _, hd⟩
theorem OIntss.lit2 {W : World} {lo : Nat} {u0 u1 : Value} {r0 r1 : List Int} (hlo : lo ≤ W.heap.size) (h0 : OInts W lo u0 r0.length r0) (h1 : OInts W lo u1 r1.length r1) (hne : u0.ownBlock ≠ u1.ownBlock) :
    OIntss (W.alloc (.cells #[u0, u1] 42)) lo (.slice (some ⟨W.heap.size, 0, none⟩) 2 2) 2 [r0, r1] := by
  refine OIntss.lit (vs := [u0, u1]) hlo rfl rfl rfl (by omega) (fun i u r hu hx => ?_) (fun i j u u' hij hu hu' => ?_)
  · match i, hu, hx with
    | 0, hu, hx => simp at hu hx; subst hu; subst hx; exact h0
    | 1, hu, hx => simp at hu hx; subst hu; subst hx; exact h1
    | i + 2, hu, _ => simp at hu
  · match i, j, hij, hu, hu' with
    | 0, 0, hij, _, _ => exact absurd rfl hij
    | 1, 1, hij, _, _ => exact absurd rfl hij
    | 0, 1, _, hu, hu' => simp at hu hu'; subst hu; subst hu'; exact .inr hne
    | 1, 0, _, hu, hu' => simp at hu hu'; subst hu; subst hu'; exact .inr (fun e => hne e.symm)
    | i + 2, _, _, hu, _ => simp at hu
    | 0, j + 2, _, _, hu' => simp at hu'
    | 1, j + 2, _, _, hu' => simp at hu'
end Go.Proofs.Ytmkodbkbgpjgoaa

namespace Go.Proofs.Ytmkodbkbgpjgoaa
open Go.RowKit
set_option linter.all false
theorem heap_new (w : World) (o : Obj) : (w.alloc o).heap[w.heap.size]? = some o := by
  show (w.heap.push o)[w.heap.size]? = some o
  simp
theorem cur_new {w : World} {ao : Option Addr} {n c : Nat} {y : Int} {e : Ending} (h : Bytes w ao n) (he : e = .returned (.pointer (some ⟨w.heap.size, 0, none⟩))) :
    e = .returned (.pointer (some ⟨w.heap.size, 0, none⟩)) ∧ Cur (w.alloc (.cells #[.slice ao n c, .int .i64 0, .int .i64 y] 65)) w.heap.size w.heap.size ∧ Below w.heap.size w (w.alloc (.cells #[.slice ao n c, .int .i64 0, .int .i64 y] 65)) := by
  have hb := (Below.refl w.heap.size w).alloc (Nat.le_refl _) (.cells #[.slice ao n c, .int .i64 0, .int .i64 y] 65)
  refine ⟨he, ⟨Nat.le_refl _, ao, n, c, 0, y, heap_new _ _, Nat.zero_le _, h.1, fun i hi => ?_⟩, hb⟩
  obtain ⟨b, o, x, e, hc, hx⟩ := h.2 i hi
  have hl := World.block_lt_of_cell? w _ hc
  exact ⟨b, o, x, e, hl, (hb.cell (p := ⟨b, o + i, none⟩) hl).trans hc, hx⟩
set_option maxHeartbeats 1600000 in
theorem l1New_any (ao : Option Addr) (n c : Nat) (w : World) (h : Bytes w ao n) :
    Calls Try.prog 26 #[.slice ao n c] w fun e w' => e = .returned (.pointer (some ⟨w.heap.size, 0, none⟩)) ∧ Cur w' w.heap.size w.heap.size ∧ Below w.heap.size w w' := by
  have hm := h.1
  have H := Lib.hid h
  clear h
  go_enter Try.func26, Try.ntmps26
  go_wp2_with fail
  go_loop [3, 4] (fun vh x => ∃ (k : Nat) (y : Int), k ≤ n ∧ x = .int .i64 k ∧ vh = .int .i64 y) (fun _ x => n - (intOf x).toNat)
  case atStart => exact ⟨0, _, Nat.zero_le _, rfl, rfl⟩
  case round =>
    obtain ⟨k, y, hk, rfl, rfl⟩ := hrel
    by_cases hlt : k < n
    · by_cases h4 : (k : Int) < 4000
      · have hd : decide ((k : Int) < 4000) = true := by simpa using h4
        obtain ⟨b, o, x, rfl, hc, hx0, hx1⟩ := H.out.2 k hlt
        clear h4
        go_wp2_with fail
        go_round
        case rel => exact ⟨k + 1, _, hlt, by go_num, rfl⟩
        case measure => simp [intOf]; omega
      · have hd : decide ((k : Int) < 4000) = false := by simpa using h4
        clear h4
        go_wp2_with fail
        go_ret
        exact cur_new H.out rfl
    · go_wp2_with fail
      go_ret
      exact cur_new H.out rfl
theorem grown_setdrew {w w' : World} {row : Option Nat} {p : Addr} {u : Value} (h : w.grownBy (w'.setCell p u) row) (n : Nat) : w.grownBy ((w'.drewN n).setCell p u) row := ⟨h.os, h.tape, h.output, h.size, h.block⟩
theorem byte_fin {n : Int} {e : Ending} {w w' : World} {c lo : Nat} (hc : Cur w' c lo) (hg : w.grownBy w' (some c)) (he : e = .returned (.int .i64 (bits .and .i64 n 255))) :
    ∃ x : Nat, x ≤ 255 ∧ e = .returned (.int .i64 x) ∧ Cur w' c lo ∧ w.grownBy w' (some c) := by
  have h := and255 n
  refine ⟨(bits .and .i64 n 255).toNat, by omega, ?_, hc, hg⟩
  rw [he]
  congr 2
  omega
set_option maxHeartbeats 3200000 in
theorem l1Byte_any (b lo : Nat) (w : World) (h : Cur w b lo) :
    Calls Try.prog 47 #[.pointer (some ⟨b, 0, none⟩)] w fun e w' => ∃ x : Nat, x ≤ 255 ∧ e = .returned (.int .i64 x) ∧ Cur w' b lo ∧ w.grownBy w' (some b) := by
  obtain ⟨h1, ao, n, c, k, y, hh, h2, h3, h4⟩ := h
  have hc0 := (heap_cells hh 0).1
  have hc1 := (heap_cells hh 1).1
  have hc2 := (heap_cells hh 2).1
  have hf1 := (heap_cells hh 1).2
  have hf2 := (heap_cells hh 2).2
  simp only [List.getElem?_toArray, List.getElem?_cons_zero, List.getElem?_cons_succ] at hc0 hc1 hc2
  have HW := Lib.hid (Cur.wrote h1 hh h2 h3 h4 2 (.int .i64 (wrap64 (wrap64 (y * 6364136223846793005) + 1442695040888963407))))
  have H4 := Lib.hid h4
  have HH := Lib.hid hh
  clear hh h4
  by_cases hk : (k : Int) < (n : Int)
  · have hd : decide ((k : Int) < (n : Int)) = true := by simpa using hk
    have hkn : k < n := by omega
    go_enter Try.func47, Try.ntmps47
    go_wp2_with fail
    generalize w.setCell ⟨b, 2, none⟩ (.int .i64 (wrap64 (wrap64 (y * 6364136223846793005) + 1442695040888963407))) = W1 at HW ⊢
    generalize wrap64 (wrap64 (y * 6364136223846793005) + 1442695040888963407) = y1 at HW ⊢
    clear hc0 hc1 hc2 hf1 hf2 H4 HH
    obtain ⟨hh, h4, hg⟩ := HW.out
    simp only [List.setIfInBounds_toArray, List.set_cons_succ, List.set_cons_zero] at hh
    have hc0 := (heap_cells hh 0).1
    have hc1 := (heap_cells hh 1).1
    have hc2 := (heap_cells hh 2).1
    have hf1 := (heap_cells hh 1).2
    simp only [List.getElem?_toArray, List.getElem?_cons_zero, List.getElem?_cons_succ] at hc0 hc1 hc2
    have HW2 := Lib.hid (Cur.wrote h1 hh h2 h3 h4 1 (.int .i64 ((k : Int) + 1)))
    have HG := Lib.hid hg
    obtain ⟨q, o, x, rfl, hq, hcx, hx0, hx1⟩ := h4 k hkn
    clear hh h4 hg HW
    go_quiet (fail)
    go_wp2_with fail
    go_quiet (fail)
    go_wp2_with fail
    go_quiet (fail)
    go_wp2_with fail
    go_ret
    refine byte_fin (c := b) (w := w) ?_ ?_ rfl
    · exact (Cur.drewN ⟨h1, _, n, c, k + 1, y1, HW2.out.1, hkn, h3, HW2.out.2.1⟩ 3)
    · exact grown_setdrew (HG.out.trans HW2.out.2.2) _
  · have hd : decide ((k : Int) < (n : Int)) = false := by simpa using hk
    go_enter Try.func47, Try.ntmps47
    go_wp2_with fail
    generalize w.setCell ⟨b, 2, none⟩ (.int .i64 (wrap64 (wrap64 (y * 6364136223846793005) + 1442695040888963407))) = W1 at HW ⊢
    generalize wrap64 (wrap64 (y * 6364136223846793005) + 1442695040888963407) = y1 at HW ⊢
    clear hc0 hc1 hc2 hf1 hf2 H4 HH
    obtain ⟨hh, h4, hg⟩ := HW.out
    simp only [List.setIfInBounds_toArray, List.set_cons_succ, List.set_cons_zero] at hh
    have hc0 := (heap_cells hh 0).1
    have hc1 := (heap_cells hh 1).1
    have hc2 := (heap_cells hh 2).1
    simp only [List.getElem?_toArray, List.getElem?_cons_zero, List.getElem?_cons_succ] at hc0 hc1 hc2
    have HCu : Hid (Cur W1 b lo) := ⟨h1, ao, n, c, k, y1, hh, h2, h3, h4⟩
    have HG := Lib.hid hg
    clear hh h4 hg HW
    go_quiet (fail)
    go_wp2_with fail
    go_quiet (fail)
    go_wp2_with fail
    go_ret
    refine byte_fin (c := b) (w := w) ?_ ?_ rfl
    · exact HCu.out
    · exact grown_drewN (grown_drewN HG.out _) _
set_option maxHeartbeats 1600000 in
theorem l1Below_any (b lo n : Nat) (w : World) (h : Cur w b lo) (hn : 1 ≤ n) (hm : n ≤ 256) :
    Calls Try.prog 28 #[.pointer (some ⟨b, 0, none⟩), .int .i64 n] w fun e w' => ∃ x : Nat, x < n ∧ e = .returned (.int .i64 x) ∧ Cur w' b lo ∧ w.grownBy w' (some b) := by
  have H := Lib.hid h
  clear h
  have hd1 : decide ((n : Int) ≤ 0) = false := by simp; omega
  have hd2 : decide ((n : Int) ≤ 256) = true := by simp; omega
  go_enter Try.func28, Try.ntmps28
  go_wp2_with (go_at_call 47; refine (l1Byte_any b lo _ H.out).mono ?_; rintro e w1 ⟨x, hx, rfl, hc1, hg1⟩; have Hc1 := Lib.hid hc1; have Hg1 := Lib.hid hg1; clear hc1 hg1)
  go_ret
  exact ⟨x % n, Nat.mod_lt _ (by omega), ret_int (by simp), Hc1.out, Hg1.out⟩
set_option maxHeartbeats 800000 in
theorem l1Once_any (b lo n : Nat) (w : World) (h : Cur w b lo) (hn : 1 ≤ n) (hm : n ≤ 256) :
    Calls Try.prog 30 #[.pointer (some ⟨b, 0, none⟩), .int .i64 n] w fun e w' => ∃ t : Bool, e = .returned (.bool t) ∧ Cur w' b lo ∧ w.grownBy w' (some b) := by
  have H := Lib.hid h
  clear h
  go_enter Try.func30, Try.ntmps30
  go_wp2_with (go_at_call 28; refine (l1Below_any b lo n _ H.out hn hm).mono ?_; rintro e w1 ⟨x, hx, rfl, hc1, hg1⟩; have Hc1 := Lib.hid hc1; have Hg1 := Lib.hid hg1; clear hc1 hg1)
  go_ret
  exact ⟨_, rfl, Hc1.out, Hg1.out⟩
set_option maxHeartbeats 1600000 in
theorem l1PickInt_any (b lo lo' n cap : Nat) (ao : Option Addr) (xs : List Int) (w : World) (h : Cur w b lo) (ho : OInts w lo' (.slice ao n cap) n xs) (hb : b < lo') (hn : 1 ≤ n) (hm : n ≤ 256) :
    Calls Try.prog 52 #[.pointer (some ⟨b, 0, none⟩), .slice ao n cap] w fun e w' => ∃ x ∈ xs, e = .returned (.int .i64 x) ∧ Cur w' b lo ∧ w.grownBy w' (some b) := by
  have H := Lib.hid h
  have HO := Lib.hid ho
  clear h ho
  go_enter Try.func52, Try.ntmps52
  go_wp2_with (go_at_call 28; refine (l1Below_any b lo n _ H.out hn hm).mono ?_; rintro e w1 ⟨x, hx, rfl, hc1, hg1⟩; obtain ⟨q, o, y, rfl, hcy, hgy⟩ := ((HO.out.away hg1 hb).read).at_ hx; have Hc1 := Lib.hid hc1; have Hg1 := Lib.hid hg1; clear hc1 hg1)
  go_ret
  exact ⟨_, List.mem_of_getElem? hgy.out, rfl, Hc1.out, Hg1.out⟩
end Go.Proofs.Ytmkodbkbgpjgoaa

namespace Go.Proofs.Ytmkodbkbgpjgoaa
open Go.RowKit
set_option linter.all false
theorem rows_set {T : List (List Int)} {n i : Nat} {r : List Int} (h : RowsLen T n) (hr : r.length = n) : RowsLen (T.set i r) n := by
  intro k q hk
  rw [List.getElem?_set] at hk
  split at hk
  · split at hk
    · injection hk with hk
      subst hk
      exact hr
    · cases hk
  · exact h k q hk
theorem rows_rep (n c : Nat) : RowsLen (List.replicate n (List.replicate c (0 : Int))) c := by
  intro k q hk
  have := List.mem_of_getElem? hk
  rw [List.mem_replicate] at this
  rw [this.2]; simp
theorem grown_new {w w' : World} {row : Option Nat} (h : w.grownBy w' row) {p : Addr} (hp : w.heap.size ≤ p.block) (u : Value) : w.grownBy (w'.setCell p u) row :=
  ⟨h.os, h.tape, h.output, by simpa [World.setCell] using h.size, fun k hk hne => (Below.heap_setCell w' p u k (by rintro rfl; omega)).trans (h.block k hk hne)⟩
theorem cell_grown {w w' : World} {row : Option Nat} {p : Addr} {v : Value} (hg : w.grownBy w' row) (hc : w.cell? p = some v) (hne : some p.block ≠ row) : w'.cell? p = some v := by
  have hl := World.block_lt_of_cell? w _ hc
  have := hg.block p.block hl hne
  unfold World.cell? at hc ⊢
  rw [this]
  exact hc
theorem gr_alloc {w w' : World} {b : Nat} (h : w.grownBy w' (some b)) (o : Obj) : w.grownBy (w'.alloc o) (some b) :=
  h.trans (grown_of_below ((Below.refl _ _).alloc (Nat.le_refl _) o))
theorem Since.rowD {lo hi : Nat} {a b c : World} {v : Value} (h : Since lo hi a b) (k : b.grownBy c v.ownBlock) (hv : ∀ g, v.ownBlock = some g → g < lo ∨ hi ≤ g) (hs : hi ≤ b.heap.size) : Since lo hi a c :=
  ⟨Nat.le_trans h.size k.size, fun i h1 h2 => (k.block i (by omega) (fun e => by have := hv i e.symm; omega)).trans (h.block i h1 h2)⟩
theorem Since.apartD {lo hi g : Nat} {a b c : World} (h : Since lo hi a b) (k : b.grownBy c (some g)) (hg : g < lo) (hs : hi ≤ b.heap.size) : Since lo hi a c :=
  ⟨Nat.le_trans h.size k.size, fun i h1 h2 => (k.block i (by omega) (fun e => by injection e; omega)).trans (h.block i h1 h2)⟩
theorem hi_setD {lo hi g k : Nat} {a b : World} (h : Since lo hi a b) (hg : hi ≤ g) (u : Value) : Since lo hi a (b.setCell ⟨g, k, none⟩ u) :=
  ⟨by simpa [World.setCell] using h.size, fun i h1 h2 => (Below.heap_setCell b ⟨g, k, none⟩ u i (by show i ≠ g; omega)).trans (h.block i h1 h2)⟩
theorem grown_farV {w W w' : World} {b : Nat} {v : Value} (h : w.grownBy W (some b)) (k : W.grownBy w' v.ownBlock) (hg : ∀ g, v.ownBlock = some g → w.heap.size ≤ g) : w.grownBy w' (some b) := by
  refine ⟨k.os.trans h.os, ?_, k.output.trans h.output, Nat.le_trans h.size k.size, fun i hi hne => (k.block i (Nat.lt_of_lt_of_le hi h.size) (by intro e; have := hg i e.symm; omega)).trans (h.block i hi hne)⟩
  first | exact k.tape.trans h.tape | exact Nat.le_trans h.tape k.tape | exact h.tape.trans k.tape
theorem OInts.self {w : World} {lo n : Nat} {v : Value} {xs : List Int} (h : OInts w lo v n xs) : OInts w lo v xs.length xs := by
  rw [h.len]; exact h
theorem OIntss.self {w : World} {lo n : Nat} {v : Value} {xss : List (List Int)} (h : OIntss w lo v n xss) : OIntss w lo v xss.length xss := by
  rw [h.len]; exact h
end Go.Proofs.Ytmkodbkbgpjgoaa

namespace Go.Proofs.Ytmkodbkbgpjgoaa
open Go.RowKit
set_option linter.all false
set_option maxRecDepth 20000 in
set_option maxHeartbeats 3200000 in
theorem l1Pick_any (b lo g n cap : Nat) (ss : List ByteArray) (w : World) (h : Cur w b lo) (hl : ss.length = n) (hc : ∀ i s, ss[i]? = some s → w.cell? ⟨g, i, none⟩ = some (.string s)) (hb : b ≠ g) (hn : 1 ≤ n) (hm : n ≤ 256) :
    Calls Try.prog 48 #[.pointer (some ⟨b, 0, none⟩), .slice (some ⟨g, 0, none⟩) n cap] w fun e w' => ∃ s ∈ ss, e = .returned (.string s) ∧ Cur w' b lo ∧ w.grownBy w' (some b) := by
  have H := Lib.hid h
  have HC := Lib.hid hc
  have HL := Lib.hid hl
  clear h hc hl
  go_enter Try.func48, Try.ntmps48
  go_wp2_with (first
    | (go_at_call 28; refine (l1Below_any b lo n _ H.out hn hm).mono ?_; rintro e w1 ⟨x, hx, rfl, hc1, hg1⟩; obtain ⟨s, hs⟩ : ∃ s, ss[x]? = some s := ⟨_, List.getElem?_eq_getElem (by rw [HL.out]; exact hx)⟩; have q := cell_grown hg1 (HC.out x s hs) (by simp; exact Ne.symm hb); have Hc1 := Lib.hid hc1; have Hg1 := Lib.hid hg1; have HS := Lib.hid (List.mem_of_getElem? hs); clear hc1 hg1 hs))
  go_ret
  exact ⟨s, HS.out, rfl, Hc1.out, Hg1.out⟩
end Go.Proofs.Ytmkodbkbgpjgoaa

namespace Go.Proofs.Ytmkodbkbgpjgoaa
open Go.RowKit
set_option linter.all false
def spB (s : ByteArray) (b : Nat) : Nat → Nat → Nat → List ByteArray
  | 0, _, _ => []
  | f + 1, fr, i => if i = s.size ∨ bl s i = b then s.extract fr i :: spB s b f (i + 1) (i + 1) else spB s b f fr (i + 1)
def pieces (s : ByteArray) (b : Nat) : List ByteArray := spB s b (s.size + 1) 0 0
theorem spB_step {s : ByteArray} {b fr i : Nat} {acc R : List ByteArray} (hi : i ≤ s.size) (h : acc ++ spB s b (s.size + 1 - i) fr i = R) :
    ((i = s.size ∨ bl s i = b) → (acc ++ [s.extract fr i]) ++ spB s b (s.size + 1 - (i + 1)) (i + 1) (i + 1) = R) ∧ (i ≠ s.size → bl s i ≠ b → acc ++ spB s b (s.size + 1 - (i + 1)) fr (i + 1) = R) := by
  rw [show s.size + 1 - i = (s.size + 1 - (i + 1)) + 1 by omega, spB] at h
  refine ⟨fun e => ?_, fun e1 e2 => ?_⟩
  · rw [if_pos e] at h; rw [← h]; simp
  · rw [if_neg (by omega)] at h; exact h
set_option maxRecDepth 20000 in
set_option maxHeartbeats 3200000 in
theorem sSplitByte_any (s : ByteArray) (b : Nat) (w : World) (hs : s.size ≤ 1000000) (hb : b < 256) :
    Calls Try.prog 84 #[.string s, .int .u8 b] w fun e w' => ∃ v, e = .returned v ∧ OStrs w' w.heap.size v (pieces s b).length (pieces s b) ∧ Below w.heap.size w w' := by
  have HE := Lib.hid (OStrs.empty w w.heap.size (Nat.le_refl _))
  have HBE := Lib.hid (belowA w (.cells #[] 9))
  go_enter Try.func84, Try.ntmps84
  go_wp2_with fail
  go_loopw [5, 6, 7] (fun v y x wr => ∃ (fr i : Nat) (acc : List ByteArray), i ≤ s.size + 1 ∧ fr ≤ i ∧ acc.length ≤ i ∧ y = .int .i64 fr ∧ x = .int .i64 i ∧ OStrs wr w.heap.size v acc.length acc ∧ Hid (acc ++ spB s b (s.size + 1 - i) fr i = pieces s b) ∧ Below w.heap.size w wr) (fun _ _ x _ => s.size + 1 - (intOf x).toNat)
  case atStart => exact ⟨0, 0, [], Nat.zero_le _, Nat.le_refl _, Nat.le_refl _, rfl, rfl, HE.out, rfl, HBE.out⟩
  case round =>
    obtain ⟨fr, i, acc, hi, hf, hal, rfl, rfl, hown, hr, hbl⟩ := hrel
    obtain ⟨a7, c7, rfl, _⟩ := hown.form
    have HO := Lib.hid hown
    have HB := Lib.hid hbl
    clear hown hbl HE HBE
    by_cases hle : i ≤ s.size
    · have HST := Lib.hid (spB_step hle hr.out)
      clear hr
      have dle : decide ((i : Int) ≤ (s.size : Int)) = true := decide_eq_true (by omega)
      by_cases hlt : i < s.size
      · have dne : ((i : Int) == (s.size : Int)) = false := beq_eq_false_iff_ne.2 (by omega)
        obtain ⟨c, hc⟩ : ∃ c : Nat, s[i].toNat = c := ⟨_, rfl⟩
        have hbc : bl s i = c := (bl_get hlt).trans hc
        by_cases e : c = b
        · have d : ((c : Int) == (b : Int)) = true := beq_iff_eq.2 (by omega)
          have HN := Lib.hid (HST.out.1 (.inr (hbc.trans e)))
          clear HST hbc e
          go_wp2_with (at_builtin; refine wpList_push_str wr _ rfl (.tmp 26) (.tmp 31) rfl w.heap.size _ _ _ rfl HO.out (by omega) HB.out.size _ rfl rfl ?_; intro v3 w3 ho3 hb3; have HO3 := Lib.hid ho3; have HB3 := Lib.hid (HB.out.trans hb3); clear ho3 hb3)
          go_roundw
          case rel => exact ⟨i + 1, i + 1, _, by omega, Nat.le_refl _, by simp; omega, by go_num, by go_num, by simpa using HO3.out, HN.out, HB3.out⟩
          case measure => (simp [intOf] <;> omega)
        · have d : ((c : Int) == (b : Int)) = false := beq_eq_false_iff_ne.2 (by omega)
          have HN := Lib.hid (HST.out.2 (by omega) (by omega))
          clear HST hbc e
          go_wp2_with fail
          go_roundw
          case rel => exact ⟨fr, i + 1, acc, by omega, by omega, by omega, rfl, by go_num, HO.out, HN.out, HB.out⟩
          case measure => (simp [intOf] <;> omega)
      · have ei : i = s.size := by omega
        have hn := HST.out.1 (.inl ei)
        rw [show s.extract fr i = s.extract fr s.size by rw [ei]] at hn
        have HN := Lib.hid hn
        clear hn
        have deq : ((i : Int) == (s.size : Int)) = true := beq_iff_eq.2 (by omega)
        clear HST
        go_wp2_with (at_builtin; refine wpList_push_str wr _ rfl (.tmp 26) (.tmp 31) rfl w.heap.size _ _ _ rfl HO.out (by omega) HB.out.size _ rfl rfl ?_; intro v3 w3 ho3 hb3; have HO3 := Lib.hid ho3; have HB3 := Lib.hid (HB.out.trans hb3); clear ho3 hb3)
        go_roundw
        case rel => exact ⟨i + 1, i + 1, _, by omega, Nat.le_refl _, by simp; omega, by go_num, by go_num, by simpa using HO3.out, HN.out, HB3.out⟩
        case measure => (simp [intOf] <;> omega)
    · have dle : decide ((i : Int) ≤ (s.size : Int)) = false := decide_eq_false (by omega)
      have hR : acc = pieces s b := by
        have h := hr.out
        rw [show s.size + 1 - i = 0 by omega] at h
        simpa [spB] using h
      have HR := Lib.hid hR
      clear hr hR
      go_wp2_with fail
      go_ret
      rw [← HR.out]
      exact ⟨_, rfl, HO.out, HB.out⟩
end Go.Proofs.Ytmkodbkbgpjgoaa

namespace Go.Proofs.Ytmkodbkbgpjgoaa
open Go.RowKit
set_option linter.all false
set_option maxRecDepth 20000 in
set_option maxHeartbeats 3200000 in
theorem sFormat_any (u : Nat) (w : World) (hu : u ≤ 9223372036854775807) :
    Calls Try.prog 96 #[.int .i64 u] w fun e w' => e = .returned (.string (decB u)) ∧ Below w.heap.size w w' := by
  rcases Nat.eq_zero_or_pos u with h0 | h0
  · subst h0
    have hg : Hid (decB 0 = ⟨#[48]⟩) := by show _ = _; decide +kernel
    go_enter Try.func96, Try.ntmps96
    go_wp2_with fail
    go_ret
    rw [hg.out]
    exact ⟨rfl, Below.refl _ _⟩
  · have hne : ((u : Int) == 0) = false := by simp; omega
    have hlt : decide ((u : Int) < 0) = false := decide_eq_false (by omega)
    obtain ⟨U, hU⟩ : ∃ U : Nat, U = u := ⟨_, rfl⟩
    have HU := Lib.hid hU
    go_enter Try.func96, Try.ntmps96
    go_wp2_with fail
    clear hne hlt hU
    go_loopw [0, 4] (fun x o wr => ∃ (y : Nat) (s : ByteArray), y ≤ 9223372036854775807 ∧ x = .int .i64 y ∧ o = .string s ∧ Hid (dg y ++ s.data.toList = dg U) ∧ Below w.heap.size w wr) (fun x _ _ => (intOf x).toNat)
    case atStart => exact ⟨u, ⟨#[]⟩, hu, rfl, rfl, by show _ = _; rw [HU.out]; simp, Below.refl _ _⟩
    case round =>
      obtain ⟨y, s, hy, rfl, rfl, hr, hbl⟩ := hrel
      have hsz := dig_size (by have := HU.out; omega) hr.out
      have Hbl := Lib.hid hbl
      clear hbl
      by_cases hp : 0 < y
      · have hne : ((y : Int) != 0) = true := by simp; omega
        have HN := Lib.hid (dig_next hp hr.out)
        have HCS := catB_size (48 + UInt8.ofNat (y % 10)) s
        have hm10 : y % 10 < 10 := Nat.mod_lt _ (by omega)
        have hcv := fun z => conv_one wr z 5
        clear hr
        go_wp2_with fail
        go_roundw
        case rel => exact ⟨y / 10, catB (48 + UInt8.ofNat (y % 10)) s, by omega, by go_num, rfl, HN.out, step2 Hbl.out (belowA _ _)⟩
        case measure => (simp [intOf] <;> omega)
      · have hz : y = 0 := by omega
        subst hz
        have HE := Lib.hid (dig_done (u := U) (by have := HU.out; omega) hr.out)
        clear hr
        rw [show ((0 : Nat) : Int) = 0 from rfl]
        go_wp2_with fail
        go_ret
        exact ⟨ret_text (by rw [HE.out, HU.out]), Hbl.out⟩
theorem sFormat_succ (k : Nat) (w : World) (hk : k ≤ 1000000) :
    Calls Try.prog 96 #[.int .i64 ((k : Int) + 1)] w fun e w' => e = .returned (.string (decB (k + 1))) ∧ Below w.heap.size w w' := by
  have h := sFormat_any (k + 1) w (by omega)
  rw [show ((k + 1 : Nat) : Int) = (k : Int) + 1 from by omega] at h
  exact h
end Go.Proofs.Ytmkodbkbgpjgoaa

namespace Go.Proofs.Ytmkodbkbgpjgoaa
open Go.RowKit
set_option linter.all false
set_option maxRecDepth 20000 in
set_option maxHeartbeats 3200000 in
theorem l1Read_one (t : ByteArray) (d : Nat) (w : World) (hd : d ≤ 9) (hs : t.size = 1) (hb : bl t 0 = 48 + d) (hD : decB d = t) :
    Calls Try.prog 92 #[.string t, .int .i64 12] w fun e w' => e = .returned (.tuple #[.int .i64 d, .bool true]) ∧ Below w.heap.size w w' := by
  have HS := Lib.hid hs
  have HD := Lib.hid hD
  have h0 : 0 < t.size := by omega
  obtain ⟨x, hx⟩ : ∃ x : Nat, t[0].toNat = x := ⟨_, rfl⟩
  have hbx : x = 48 + d := by rw [← hb, bl_get h0]; exact hx.symm
  have e1 : decide ((0 : Int) < (t.size : Int)) = true := decide_eq_true (by omega)
  have e2 : ((x : Int) == 45) = false := beq_eq_false_iff_ne.2 (by omega)
  have e3 : decide ((t.size : Int) < 1) = false := decide_eq_false (by omega)
  have e4 : decide ((12 : Int) < (t.size : Int)) = false := decide_eq_false (by omega)
  have e5 : decide ((x : Int) < 48) = false := decide_eq_false (by omega)
  have e6 : decide ((57 : Int) < (x : Int)) = false := decide_eq_false (by omega)
  have HX := Lib.hid hbx
  clear hs hD hb hbx
  go_enter Try.func92, Try.ntmps92
  go_wp2_with fail
  go_loop [8, 9] (fun n i => (n = .int .i64 0 ∧ i = .int .i64 0) ∨ (n = .int .i64 d ∧ i = .int .i64 1)) (fun _ i => 1 - (intOf i).toNat)
  case atStart => exact .inl ⟨rfl, rfl⟩
  case round =>
    rcases hrel with ⟨rfl, rfl⟩ | ⟨rfl, rfl⟩
    · go_wp2_with fail
      go_round
      case rel => exact .inr ⟨by have := HX.out; subst this; go_num, rfl⟩
      case measure => simp [intOf]
    · have f1 : decide ((1 : Int) < (t.size : Int)) = false := decide_eq_false (by have := HS.out; omega)
      clear e1
      go_wp2_with (go_at_call 96; refine (sFormat_any d _ (by omega)).mono ?_; rw [HD.out]; rintro e w1 ⟨rfl, hb1⟩; have HB1 := Lib.hid hb1; clear hb1)
      go_ret2
      exact ⟨rfl, HB1.out⟩
set_option maxHeartbeats 800000 in
theorem sParseInt_one (t : ByteArray) (d : Nat) (w : World) (hd : d ≤ 9) (hs : t.size = 1) (hb : bl t 0 = 48 + d) (hD : decB d = t) :
    Calls Try.prog 85 #[.string t] w fun e w' => e = .returned (.tuple #[.int .i64 d, .bool true]) ∧ Below w.heap.size w w' := by
  have HC := fun W => l1Read_one t d W hd hs hb hD
  clear hs hb hD
  have HC := Lib.hid HC
  go_enter Try.func85, Try.ntmps85
  go_wp2_with (go_at_call 92; refine (HC.out _).mono ?_; rintro e w1 ⟨rfl, hb1⟩; have HB1 := Lib.hid hb1; clear hb1)
  go_ret2
  exact ⟨rfl, HB1.out⟩
end Go.Proofs.Ytmkodbkbgpjgoaa

namespace Go.Proofs.Ytmkodbkbgpjgoaa
open Go.RowKit
set_option linter.all false
def digB (d : Nat) : ByteArray := ⟨#[UInt8.ofNat (48 + d)]⟩
theorem digB_dec {d : Nat} (h : d ≤ 9) : decB d = digB d := by
  unfold decB digB
  rw [Lib.decDigits, dif_pos (by omega), ofNat48]
theorem digB_bl {d : Nat} (h : d ≤ 9) : bl (digB d) 0 = 48 + d := by
  have : ∀ k : Fin 10, bl (digB k.val) 0 = 48 + k.val := by decide
  exact this ⟨d, by omega⟩
theorem parseDig_any (d : Nat) (w : World) (hd : d ≤ 9) : Calls Try.prog 85 #[.string (digB d)] w fun e w' => e = .returned (.tuple #[.int .i64 d, .bool true]) ∧ Below w.heap.size w w' :=
  sParseInt_one (digB d) d w hd rfl (digB_bl hd) (digB_dec hd)
end Go.Proofs.Ytmkodbkbgpjgoaa

namespace Go.Proofs.Ytmkodbkbgpjgoaa
open Go.RowKit
set_option linter.all false
/- Slices of strings: append of a slice, parts of a slice. -/
theorem info_str_parts : ∃ i, Try.prog.info? 9 = some i ∧ i.zero = some (.string ⟨#[]⟩) ∧ i.size = 1 ∧ i.bytes = 16 := info_parts info_str
set_option maxRecDepth 8000 in
theorem wpList_app_strs {ops : Array Oper} {rest : List Oper} {o : Oper} {a : Act} {Q : Exit → Act → World → Prop} (w : World) (hgd : o.guard = none) (s x : Operand)
    (ho : o.op = .call { callee := .builtin .append, args := #[s, x], argTypes := #[68, 68] })
    (lo : Nat) (v : Value) (n : Nat) (xs : List ByteArray) (hs : a.eval s = v) (h : OStrs w lo v n xs)
    (ao : Option Addr) (m c : Nat) (ys : List ByteArray) (hx : a.eval x = .slice ao m c) (hy : Strs w ao m ys) (hn : n + m ≤ 1099511627776)
    (hlo : lo ≤ w.heap.size)
    (K : ∀ v' w', OStrs w' lo v' (n + m) (xs ++ ys) → w.grownBy w' v.ownBlock → NewOr w.heap.size v v' → wpList Try.prog ops Q rest (a.put o.dst v') w') : wpList Try.prog ops Q (o :: rest) a w := by
  refine wpList_plain hgd fun K' hK => ?_
  obtain ⟨i0, hi, hz0, hz1, hz2⟩ := info_str_parts
  rcases ao with _ | ad
  · have hm : m = 0 := by
      rcases Nat.eq_zero_or_pos m with h0 | h0
      · exact h0
      · obtain ⟨y, hy'⟩ : ∃ y, ys[0]? = some y := ⟨_, List.getElem?_eq_getElem (by rw [hy.1]; exact h0)⟩
        obtain ⟨b, o', e, _⟩ := hy.2.2 0 y hy'
        cases e
    subst hm
    have hyn : ys = [] := List.eq_nil_of_length_eq_zero hy.1
    subst hyn
    have hrun := run_append_nil_src (ty := o.type) (lo := lo) Try.underlying68 hi h.2 c
    unfold Oper.wp execOp
    simp only [ho, resolve, invoke, builtin, Sem.run_bind, Sem.run_pure, Result.andThen_ok, List.map_toArray, List.map_cons, List.map_nil, hs, hx, hrun]
    exact hK _ _ (K v w (by simpa using h) (World.grownBy.refl w _) (.inl rfl))
  · have hcells : ∀ j u, (ys.map Value.string)[j]? = some u → w.cell? (ad.add j) = some u := by
      intro j u hu
      simp only [List.getElem?_map, Option.map_eq_some_iff] at hu
      obtain ⟨y, hy', rfl⟩ := hu
      obtain ⟨b, o', e, c1⟩ := hy.2.2 _ y hy'
      injection e with e
      subst e
      rw [Addr.add_lit]
      exact c1
    obtain ⟨v', w', hr, h2, h3, _, h5⟩ := run_append_own_at (P := Try.prog) w lo 68 o.type 9 i0 (.string ⟨#[]⟩) 1 16 Try.underlying68 hi hz0 hz1 hz2 rfl (by decide) v n _ h.2 ad m c (ys.map Value.string) (by simp [hy.1])
      hcells (by intro u hu; simp only [List.mem_map] at hu; obtain ⟨s, _, rfl⟩ := hu; rfl) (by unfold maxLen; omega) (by omega) hlo
    unfold Oper.wp execOp
    simp only [ho, resolve, invoke, builtin, Sem.run_bind, Sem.run_pure, Result.andThen_ok, List.map_toArray, List.map_cons, List.map_nil, hs, hx, hr]
    refine hK _ _ (K v' w' ⟨hn, ?_⟩ h3 ?_)
    · rw [List.map_append]; exact h2
    · rcases h5 with h5 | h5
      · exact .inl h5
      · exact .inr ⟨_, h5, Nat.le_refl _⟩
theorem elem_strs : Try.prog.elem 68 = 9 := by kernel_rfl
theorem sizeOf_str (w : World) : (sizeOf 9).run Try.prog w = .ok 1 w := Try.sizeOf9 w
theorem slice_toS (a : Option Addr) (len cap j : Nat) (hj : j ≤ cap) (w : World) :
    (Instr.slice 68 (.slice a len cap) none (some (.int .i64 (j : Int))) none).run Try.prog w = .ok (.slice a j cap) w := by
  rw [run_slice_h (P := Try.prog) w 68 a len cap (by rw [elem_strs]; exact Try.underlying68) .i64 (j : Int) (by omega) (by omega), elem_strs, sizeOf_str]
  cases a <;> simp [sliced, Result.andThen, Addr.add]
def fromAd (ao : Option Addr) (cap j : Nat) : Option Addr := match ao with
  | none => none
  | some a => if cap = j then some ⟨a.block, 0, none⟩ else some ⟨a.block, j, none⟩
theorem slice_fromS (a : Option Addr) (ha : a = none ∨ ∃ g, a = some ⟨g, 0, none⟩) (len cap j : Nat) (hj : j ≤ len) (w : World) :
    (Instr.slice 68 (.slice a len cap) (some (.int .i64 (j : Int))) none none).run Try.prog w = .ok (.slice (fromAd a cap j) (len - j) (cap - j)) w := by
  rw [run_slice_l (P := Try.prog) w 68 a len cap (by rw [elem_strs]; exact Try.underlying68) .i64 (j : Int) (by omega) (by omega), elem_strs, sizeOf_str]
  rcases ha with rfl | ⟨g, rfl⟩
  · simp [sliced, Result.andThen, fromAd]
  · by_cases e : j = 0
    · subst e
      simp [sliced, Result.andThen, Addr.add, fromAd]
    · simp [sliced, Result.andThen, Addr.add, fromAd, e]
theorem OStrs.cutTo {w : World} {lo n i : Nat} {ao : Option Addr} {cap : Nat} {ys : List ByteArray} (h : OStrs w lo (.slice ao n cap) n ys) (hi : i ≤ n) : OStrs w lo (.slice ao i cap) i (ys.take i) := by
  have hl := h.len
  refine ⟨by have := h.1; omega, by simp [hl]; omega, ?_⟩
  rcases h.2.2 with ⟨e, hn⟩ | ⟨g', c, cur, e, hg, hh, hnc, hcm, hs, ht⟩
  · left
    have hz : i = 0 := by omega
    subst hz
    injection e with e1 e2 e3
    subst e1
    subst e3
    exact ⟨rfl, rfl⟩
  · right
    injection e with e1 e2 e3
    subst e1
    subst e3
    refine ⟨g', cap, cur, rfl, hg, hh, by omega, hcm, hs, ?_⟩
    rw [List.map_take, ← ht, List.take_take]
    congr 1
    omega
theorem OStrs.dropped {w : World} {lo n i cap : Nat} {ao : Option Addr} {ys : List ByteArray} (h : OStrs w lo (.slice ao n cap) n ys) (hi : i ≤ n) : Strs w (fromAd ao cap i) (n - i) (ys.drop i) := by
  have hl := h.len
  have hc := h.capLe rfl
  refine ⟨by simp [hl], by have := h.1; omega, fun j s hj => ?_⟩
  rw [List.getElem?_drop] at hj
  have hjl : i + j < n := by rw [← hl]; exact (List.getElem?_eq_some_iff.1 hj).1
  rcases h.two with ⟨_, h0⟩ | ⟨g, rfl⟩
  · omega
  · refine ⟨g, i, ?_, h.cell hj⟩
    simp only [fromAd]
    rw [if_neg (by omega)]
theorem OStrs.ok2 {w : World} {lo n cap : Nat} {ao : Option Addr} {ys : List ByteArray} (h : OStrs w lo (.slice ao n cap) n ys) : ao = none ∨ ∃ g, ao = some ⟨g, 0, none⟩ := by
  rcases h.two with ⟨h1, _⟩ | h1
  · exact .inl h1
  · exact .inr h1
end Go.Proofs.Ytmkodbkbgpjgoaa

namespace Go.Proofs.Ytmkodbkbgpjgoaa
open Go.RowKit
set_option linter.all false
def occB (s p : ByteArray) : Nat → Nat → Bool
  | _, 0 => false
  | i, m + 1 => ((s.extract i (i + p.size)).toList == p.toList) || occB s p (i + 1) m
def occ (s p : ByteArray) : Bool := occB s p 0 (s.size + 1 - p.size)
theorem occ_step {s p : ByteArray} {i m : Nat} {b : Bool} (h : occB s p i (m + 1) = b) :
    (((s.extract i (i + p.size)).toList == p.toList) = true → b = true) ∧ (((s.extract i (i + p.size)).toList == p.toList) = false → occB s p (i + 1) m = b) := by
  rw [occB] at h
  exact ⟨fun e => by rw [e] at h; exact h.symm, fun e => by rw [e] at h; exact h⟩
set_option maxHeartbeats 800000 in
theorem sOccurs_any (s p : ByteArray) (w : World) (hs : s.size ≤ 100) (hp : p.size ≤ 100) : Calls Try.prog 88 #[.string s, .string p] w fun e w' => e = .returned (.bool (occ s p)) ∧ w = w' := by
  go_enter Try.func88, Try.ntmps88
  go_wp2_with fail
  go_loop [5] (fun x => ∃ i : Nat, i ≤ s.size + 1 ∧ x = .int .i64 i ∧ Hid (occB s p i (s.size + 1 - p.size - i) = occ s p)) (fun x => s.size + 1 - (intOf x).toNat)
  case atStart => exact ⟨0, Nat.zero_le _, rfl, rfl⟩
  case round =>
    obtain ⟨i, hi, rfl, hr⟩ := hrel
    by_cases hlt : i + p.size ≤ s.size
    · have d : decide ((i : Int) + (p.size : Int) ≤ (s.size : Int)) = true := decide_eq_true (by omega)
      have hr2 := hr.out
      rw [show s.size + 1 - p.size - i = (s.size + 1 - p.size - (i + 1)) + 1 by omega] at hr2
      have HST := Lib.hid (occ_step hr2)
      clear hr hr2
      cases ht : ((s.extract i (i + p.size)).toList == p.toList)
      · have HN := Lib.hid (HST.out.2 ht)
        clear HST
        go_wp2_with fail
        go_round
        case rel => exact ⟨i + 1, by omega, by go_num, HN.out⟩
        case measure => simp [intOf]; omega
      · have HN := Lib.hid (HST.out.1 ht)
        clear HST
        go_wp2_with fail
        go_ret
        exact ⟨ret_bool HN.out.symm, rfl⟩
    · have d : decide ((i : Int) + (p.size : Int) ≤ (s.size : Int)) = false := decide_eq_false (by omega)
      have HE : Hid (occ s p = false) := by
        show _ = _
        rw [← hr.out, show s.size + 1 - p.size - i = 0 by omega]
        rfl
      clear hr
      go_wp2_with fail
      go_ret
      exact ⟨ret_bool HE.out.symm, rfl⟩
end Go.Proofs.Ytmkodbkbgpjgoaa

namespace Go.Proofs.Ytmkodbkbgpjgoaa
open Go.RowKit
set_option linter.all false
/- Words that avoid others (spec). -/
def avB (F : List ByteArray) (s : ByteArray) : Bool := F.all fun f => !occ s f
theorem av_step {F : List ByteArray} {s f : ByteArray} {k : Nat} {b : Bool} (hf : F[k]? = some f) (h : (F.drop k).all (fun f => !occ s f) = b) :
    (occ s f = true → b = false) ∧ (occ s f = false → (F.drop (k + 1)).all (fun f => !occ s f) = b) := by
  rw [drop_of_get hf, List.all_cons] at h
  exact ⟨fun e => by rw [e] at h; exact h.symm, fun e => by rw [e] at h; exact h⟩
set_option maxHeartbeats 800000 in
theorem sAvoids_any (ao : Option Addr) (n cap : Nat) (F : List ByteArray) (s : ByteArray) (w : World) (h : Strs w ao n F) (hs : s.size ≤ 100) (hF : ∀ f ∈ F, f.size ≤ 100) :
    Calls Try.prog 82 #[.slice ao n cap, .string s] w fun e w' => e = .returned (.bool (avB F s)) ∧ w = w' := by
  have hn := h.1
  have hm := h.2.1
  have H := Lib.hid h
  clear h
  go_enter Try.func82, Try.ntmps82
  go_wp2_with fail
  go_loop [5] (fun x => ∃ k : Nat, k ≤ n ∧ x = .int .i64 k ∧ Hid ((F.drop k).all (fun f => !occ s f) = avB F s)) (fun x => n - (intOf x).toNat)
  case atStart => exact ⟨0, Nat.zero_le _, rfl, rfl⟩
  case round =>
    obtain ⟨k, hk, rfl, hr⟩ := hrel
    by_cases hlt : k < n
    · obtain ⟨b, o, f, rfl, hc, hf⟩ := H.out.at_ hlt
      have HST := Lib.hid (av_step hf.out hr.out)
      have hfs := hF f (List.mem_of_getElem? hf.out)
      clear hf hr
      cases ho : occ s f
      · have HN := Lib.hid (HST.out.2 ho)
        have HO := Lib.hid ho
        clear HST ho
        go_wp2_with (go_at_call 88; refine (sOccurs_any s f _ hs hfs).mono ?_; rw [HO.out]; rintro e w' ⟨rfl, rfl⟩)
        go_round
        case rel => exact ⟨k + 1, hlt, by go_num, HN.out⟩
        case measure => simp [intOf]; omega
      · have HN := Lib.hid (HST.out.1 ho)
        have HO := Lib.hid ho
        clear HST ho
        go_wp2_with (go_at_call 88; refine (sOccurs_any s f _ hs hfs).mono ?_; rw [HO.out]; rintro e w' ⟨rfl, rfl⟩)
        go_ret
        exact ⟨ret_bool HN.out.symm, rfl⟩
    · have HE : Hid (avB F s = true) := by
        show _ = _
        rw [← hr.out, List.drop_eq_nil_of_le (by omega)]
        rfl
      clear hr
      go_wp2_with fail
      go_ret
      exact ⟨ret_bool HE.out.symm, rfl⟩
end Go.Proofs.Ytmkodbkbgpjgoaa
