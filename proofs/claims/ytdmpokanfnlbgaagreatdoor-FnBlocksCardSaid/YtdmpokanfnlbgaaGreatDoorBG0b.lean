/- Parts of the proof of a law, joined: SL4Zero StrsApp SIsWord Occ Blk AvS IsShT SPut FiltT Cyc CycN IZeros IIsMatrix SL4One IUnit IFormat WordsT LangT FmtI BlkWT SIdx SHas SAllW SWordsS OBool LivT TwdT OrbA IHas IWords. -/
import Derived.Test.YtdmpokanfnlbgaaGreatDoorProg
import Derived.Maps.AppendAt
import Derived.Deep.AppendLies
import Derived.BigQuiet
import Derived.Test.YtdmpokanfnlbgaaGreatDoorShelf
import Derived.Lib.AppendIntMem
import Derived.Lib.LaidU8
import Derived.MakeChecks
import Derived.Deep.RegionLaw
import Derived.Lib.MinMaxS
import Derived.Lib.Bytes
import Derived.Lib.IndexBytes
import Derived.Test.YtdmpokanfnlbgaaGreatDoorBG0a
namespace Go.Proofs.YtdmpokanfnlbgaaGreatDoor
open Go.RowKit
set_option linter.all false
set_option maxHeartbeats 1600000 in
theorem sL4Zero_any (n c : Nat) (w : World) (hn : n ≤ 1048576) (hc : c ≤ 1048576) :
    Calls Tryz.prog 34 #[.int .i64 n, .int .i64 c] w fun e w' => ∃ v, e = .returned v ∧ OIntss w' w.heap.size v n (List.replicate n (List.replicate c 0)) ∧ Below w.heap.size w w' := by
  have hmk := make_ints c (by omega)
  go_enter Tryz.func34, Tryz.ntmps34
  go_wp2
  go_loopw [5, 6] (fun v i wr => ∃ k : Nat, k ≤ n ∧ i = .int .i64 k ∧ OIntss wr w.heap.size v k (List.replicate k (List.replicate c 0)) ∧ Below w.heap.size w wr) (fun _ i _ => n - (intOf i).toNat)
  case atStart => exact ⟨0, Nat.zero_le _, rfl, OIntss.empty w _ (Nat.le_refl _), (Below.refl _ _).alloc (Nat.le_refl _) _⟩
  case round =>
    obtain ⟨k, hk, rfl, hown, hb⟩ := hrel
    by_cases hlt : k < n
    · have Hown := Lib.hid hown
      have Hb := Lib.hid hb
      clear hown hb
      go_wp2_with (first | (at_builtin; refine wpList_push_fresh _ _ wr rfl _ _ rfl w.heap.size _ k _ rfl Hown.out (by omega) Hb.out.size ((Below.refl _ _).alloc (Nat.le_refl _) _) c _ (OInts.made wr c (by omega)) _ ?ctb rfl ?_))
      case ctb => simp
      intro v' w' hown' hbel _
      rw [rep_push] at hown'
      have hb' := Hb.out.trans hbel
      go_wp2_with fail
      go_roundw
      case rel => exact ⟨k + 1, hlt, by go_num, hown', hb'⟩
      case measure => simp [intOf]; omega
    · go_wp2
      go_ret
      have : k = n := by omega
      subst this
      exact ⟨_, rfl, hown, hb⟩
end Go.Proofs.YtdmpokanfnlbgaaGreatDoor

namespace Go.Proofs.YtdmpokanfnlbgaaGreatDoor
open Go.RowKit
set_option linter.all false
/- Slices of strings: append of a slice, parts of a slice. -/
theorem info_str_parts : ∃ i, Tryz.prog.info? 9 = some i ∧ i.zero = some (.string ⟨#[]⟩) ∧ i.size = 1 ∧ i.bytes = 16 := info_parts info_str
set_option maxRecDepth 8000 in
theorem wpList_app_strs {ops : Array Oper} {rest : List Oper} {o : Oper} {a : Act} {Q : Exit → Act → World → Prop} (w : World) (hgd : o.guard = none) (s x : Operand)
    (ho : o.op = .call { callee := .builtin .append, args := #[s, x], argTypes := #[28, 28] })
    (lo : Nat) (v : Value) (n : Nat) (xs : List ByteArray) (hs : a.eval s = v) (h : OStrs w lo v n xs)
    (ao : Option Addr) (m c : Nat) (ys : List ByteArray) (hx : a.eval x = .slice ao m c) (hy : Strs w ao m ys) (hn : n + m ≤ 1099511627776)
    (hlo : lo ≤ w.heap.size)
    (K : ∀ v' w', OStrs w' lo v' (n + m) (xs ++ ys) → w.grownBy w' v.ownBlock → NewOr w.heap.size v v' → wpList Tryz.prog ops Q rest (a.put o.dst v') w') : wpList Tryz.prog ops Q (o :: rest) a w := by
  refine wpList_plain hgd fun K' hK => ?_
  obtain ⟨i0, hi, hz0, hz1, hz2⟩ := info_str_parts
  rcases ao with _ | ad
  · have hm : m = 0 := by
      rcases Nat.eq_zero_or_pos m with h0 | h0
      · exact h0
      · obtain ⟨y, hy'⟩ : ∃ y, ys[0]? = some y := ⟨_, List.getElem?_eq_getElem (by rw [hy.1]; exact h0)⟩
        obtain ⟨b, o', e, _⟩ := hy.2.2 0 y hy'
        cases e
    subst hm
    have hyn : ys = [] := List.eq_nil_of_length_eq_zero hy.1
    subst hyn
    have hrun := run_append_nil_src (ty := o.type) (lo := lo) Tryz.underlying28 hi h.2 c
    unfold Oper.wp execOp
    simp only [ho, resolve, invoke, builtin, Sem.run_bind, Sem.run_pure, Result.andThen_ok, List.map_toArray, List.map_cons, List.map_nil, hs, hx, hrun]
    exact hK _ _ (K v w (by simpa using h) (World.grownBy.refl w _) (.inl rfl))
  · have hcells : ∀ j u, (ys.map Value.string)[j]? = some u → w.cell? (ad.add j) = some u := by
      intro j u hu
      simp only [List.getElem?_map, Option.map_eq_some_iff] at hu
      obtain ⟨y, hy', rfl⟩ := hu
      obtain ⟨b, o', e, c1⟩ := hy.2.2 _ y hy'
      injection e with e
      subst e
      rw [Addr.add_lit]
      exact c1
    obtain ⟨v', w', hr, h2, h3, _, h5⟩ := run_append_own_at (P := Tryz.prog) w lo 28 o.type 9 i0 (.string ⟨#[]⟩) 1 16 Tryz.underlying28 hi hz0 hz1 hz2 rfl (by decide) v n _ h.2 ad m c (ys.map Value.string) (by simp [hy.1])
      hcells (by intro u hu; simp only [List.mem_map] at hu; obtain ⟨s, _, rfl⟩ := hu; rfl) (by unfold maxLen; omega) (by omega) hlo
    unfold Oper.wp execOp
    simp only [ho, resolve, invoke, builtin, Sem.run_bind, Sem.run_pure, Result.andThen_ok, List.map_toArray, List.map_cons, List.map_nil, hs, hx, hr]
    refine hK _ _ (K v' w' ⟨hn, ?_⟩ h3 ?_)
    · rw [List.map_append]; exact h2
    · rcases h5 with h5 | h5
      · exact .inl h5
      · exact .inr ⟨_, h5, Nat.le_refl _⟩
theorem elem_strs : Tryz.prog.elem 28 = 9 := by kernel_rfl
theorem sizeOf_str (w : World) : (sizeOf 9).run Tryz.prog w = .ok 1 w := Tryz.sizeOf9 w
theorem slice_toS (a : Option Addr) (len cap j : Nat) (hj : j ≤ cap) (w : World) :
    (Instr.slice 28 (.slice a len cap) none (some (.int .i64 (j : Int))) none).run Tryz.prog w = .ok (.slice a j cap) w := by
  rw [run_slice_h (P := Tryz.prog) w 28 a len cap (by rw [elem_strs]; exact Tryz.underlying28) .i64 (j : Int) (by omega) (by omega), elem_strs, sizeOf_str]
  cases a <;> simp [sliced, Result.andThen, Addr.add]
def fromAd (ao : Option Addr) (cap j : Nat) : Option Addr := match ao with
  | none => none
  | some a => if cap = j then some ⟨a.block, 0, none⟩ else some ⟨a.block, j, none⟩
theorem slice_fromS (a : Option Addr) (ha : a = none ∨ ∃ g, a = some ⟨g, 0, none⟩) (len cap j : Nat) (hj : j ≤ len) (w : World) :
    (Instr.slice 28 (.slice a len cap) (some (.int .i64 (j : Int))) none none).run Tryz.prog w = .ok (.slice (fromAd a cap j) (len - j) (cap - j)) w := by
  rw [run_slice_l (P := Tryz.prog) w 28 a len cap (by rw [elem_strs]; exact Tryz.underlying28) .i64 (j : Int) (by omega) (by omega), elem_strs, sizeOf_str]
  rcases ha with rfl | ⟨g, rfl⟩
  · simp [sliced, Result.andThen, fromAd]
  · by_cases e : j = 0
    · subst e
      simp [sliced, Result.andThen, Addr.add, fromAd]
    · simp [sliced, Result.andThen, Addr.add, fromAd, e]
theorem OStrs.cutTo {w : World} {lo n i : Nat} {ao : Option Addr} {cap : Nat} {ys : List ByteArray} (h : OStrs w lo (.slice ao n cap) n ys) (hi : i ≤ n) : OStrs w lo (.slice ao i cap) i (ys.take i) := by
  have hl := h.len
  refine ⟨by have := h.1; omega, by simp [hl]; omega, ?_⟩
  rcases h.2.2 with ⟨e, hn⟩ | ⟨g', c, cur, e, hg, hh, hnc, hcm, hs, ht⟩
  · left
    have hz : i = 0 := by omega
    subst hz
    injection e with e1 e2 e3
    subst e1
    subst e3
    exact ⟨rfl, rfl⟩
  · right
    injection e with e1 e2 e3
    subst e1
    subst e3
    refine ⟨g', cap, cur, rfl, hg, hh, by omega, hcm, hs, ?_⟩
    rw [List.map_take, ← ht, List.take_take]
    congr 1
    omega
theorem OStrs.dropped {w : World} {lo n i cap : Nat} {ao : Option Addr} {ys : List ByteArray} (h : OStrs w lo (.slice ao n cap) n ys) (hi : i ≤ n) : Strs w (fromAd ao cap i) (n - i) (ys.drop i) := by
  have hl := h.len
  have hc := h.capLe rfl
  refine ⟨by simp [hl], by have := h.1; omega, fun j s hj => ?_⟩
  rw [List.getElem?_drop] at hj
  have hjl : i + j < n := by rw [← hl]; exact (List.getElem?_eq_some_iff.1 hj).1
  rcases h.two with ⟨_, h0⟩ | ⟨g, rfl⟩
  · omega
  · refine ⟨g, i, ?_, h.cell hj⟩
    simp only [fromAd]
    rw [if_neg (by omega)]
theorem OStrs.ok2 {w : World} {lo n cap : Nat} {ao : Option Addr} {ys : List ByteArray} (h : OStrs w lo (.slice ao n cap) n ys) : ao = none ∨ ∃ g, ao = some ⟨g, 0, none⟩ := by
  rcases h.two with ⟨h1, _⟩ | h1
  · exact .inl h1
  · exact .inr h1
end Go.Proofs.YtdmpokanfnlbgaaGreatDoor

namespace Go.Proofs.YtdmpokanfnlbgaaGreatDoor
open Go.RowKit
set_option linter.all false
set_option maxHeartbeats 1600000 in
theorem sIsWord_any (k : Int) (s : ByteArray) (w : World) (hs : s.size ≤ 1048576) : Calls Tryz.prog 78 #[.int .i64 k, .string s] w fun e w' => e = .returned (.bool (isWd k s)) ∧ w = w' := by
  go_enter Tryz.func78, Tryz.ntmps78
  go_wp2_with fail
  go_loop [5] (fun x => ∃ i : Nat, i ≤ s.size ∧ x = .int .i64 i ∧ Hid (okW k s i (s.size - i) = okW k s 0 s.size)) (fun x => s.size - (intOf x).toNat)
  case atStart => exact ⟨0, Nat.zero_le _, rfl, rfl⟩
  case round =>
    obtain ⟨i, hi, rfl, hr⟩ := hrel
    by_cases hlt : i < s.size
    · have hr2 := hr.out
      rw [show s.size - i = (s.size - (i + 1)) + 1 by omega] at hr2
      have HST := Lib.hid (okW_step hr2)
      clear hr hr2
      obtain ⟨c, hc⟩ : ∃ c : Nat, s[i].toNat = c := ⟨_, rfl⟩
      have hb : bl s i = c := (bl_get hlt).trans hc
      have hc2 : c < 256 := by rw [← hb]; exact bl_lt s i
      by_cases g1 : 97 ≤ c
      · have d : decide ((c : Int) < 97) = false := decide_eq_false (by omega)
        by_cases g2 : (c : Int) - 97 < k
        · have d2 : decide (k ≤ (c : Int) - 97) = false := decide_eq_false (by omega)
          have HN := Lib.hid (HST.out.2.2 (by rw [hb]; exact g1) (by rw [hb]; exact g2))
          clear hb g1 g2
          go_wp2_with fail
          go_round
          case rel => exact ⟨i + 1, hlt, by go_num, HN.out⟩
          case measure => simp [intOf]; omega
        · have d2 : decide (k ≤ (c : Int) - 97) = true := decide_eq_true (by omega)
          have HF := Lib.hid (HST.out.2.1 (by rw [hb]; exact g2))
          have HR : Hid (isWd k s = false) := by show _ = _; simp [isWd, HF.out]
          clear hb g1 g2
          go_wp2_with fail
          go_ret
          exact ⟨ret_bool HR.out.symm, rfl⟩
      · have d : decide ((c : Int) < 97) = true := decide_eq_true (by omega)
        have HF := Lib.hid (HST.out.1 (by rw [hb]; exact g1))
        have HR : Hid (isWd k s = false) := by show _ = _; simp [isWd, HF.out]
        clear hb g1
        go_wp2_with fail
        go_ret
        exact ⟨ret_bool HR.out.symm, rfl⟩
    · have HT : Hid (okW k s 0 s.size = true) := by show _ = _; rw [← hr.out, show s.size - i = 0 by omega]; rfl
      clear hr
      cases b1 : inR k 1 3
      · have B1 := Lib.hid b1
        have HR : Hid (isWd k s = false) := by show _ = _; simp [isWd, b1]
        clear b1
        go_wp2_with (go_at_call 33; refine (l1In_any _ _ _ _).mono ?_; rw [B1.out]; rintro e w' ⟨rfl, rfl⟩)
        go_ret
        exact ⟨ret_bool HR.out.symm, rfl⟩
      · have B1 := Lib.hid b1
        have HR : Hid (isWd k s = decide (s.size ≤ 16)) := by show _ = _; simp [isWd, b1, HT.out]
        clear b1
        by_cases h16 : s.size ≤ 16
        · have d : decide ((s.size : Int) ≤ 16) = true := decide_eq_true (by omega)
          go_wp2_with (go_at_call 33; refine (l1In_any _ _ _ _).mono ?_; rw [B1.out]; rintro e w' ⟨rfl, rfl⟩)
          go_ret
          exact ⟨ret_bool (by rw [HR.out]; simp [h16]), rfl⟩
        · have d : decide ((s.size : Int) ≤ 16) = false := decide_eq_false (by omega)
          go_wp2_with (go_at_call 33; refine (l1In_any _ _ _ _).mono ?_; rw [B1.out]; rintro e w' ⟨rfl, rfl⟩)
          go_ret
          exact ⟨ret_bool (by rw [HR.out]; simp [h16]), rfl⟩
end Go.Proofs.YtdmpokanfnlbgaaGreatDoor

namespace Go.Proofs.YtdmpokanfnlbgaaGreatDoor
open Go.RowKit
set_option linter.all false
def occB (s p : ByteArray) : Nat → Nat → Bool
  | _, 0 => false
  | i, m + 1 => ((s.extract i (i + p.size)).toList == p.toList) || occB s p (i + 1) m
def occ (s p : ByteArray) : Bool := occB s p 0 (s.size + 1 - p.size)
theorem occ_step {s p : ByteArray} {i m : Nat} {b : Bool} (h : occB s p i (m + 1) = b) :
    (((s.extract i (i + p.size)).toList == p.toList) = true → b = true) ∧ (((s.extract i (i + p.size)).toList == p.toList) = false → occB s p (i + 1) m = b) := by
  rw [occB] at h
  exact ⟨fun e => by rw [e] at h; exact h.symm, fun e => by rw [e] at h; exact h⟩
set_option maxHeartbeats 800000 in
theorem sOccurs_any (s p : ByteArray) (w : World) (hs : s.size ≤ 100) (hp : p.size ≤ 100) : Calls Tryz.prog 102 #[.string s, .string p] w fun e w' => e = .returned (.bool (occ s p)) ∧ w = w' := by
  go_enter Tryz.func102, Tryz.ntmps102
  go_wp2_with fail
  go_loop [5] (fun x => ∃ i : Nat, i ≤ s.size + 1 ∧ x = .int .i64 i ∧ Hid (occB s p i (s.size + 1 - p.size - i) = occ s p)) (fun x => s.size + 1 - (intOf x).toNat)
  case atStart => exact ⟨0, Nat.zero_le _, rfl, rfl⟩
  case round =>
    obtain ⟨i, hi, rfl, hr⟩ := hrel
    by_cases hlt : i + p.size ≤ s.size
    · have d : decide ((i : Int) + (p.size : Int) ≤ (s.size : Int)) = true := decide_eq_true (by omega)
      have hr2 := hr.out
      rw [show s.size + 1 - p.size - i = (s.size + 1 - p.size - (i + 1)) + 1 by omega] at hr2
      have HST := Lib.hid (occ_step hr2)
      clear hr hr2
      cases ht : ((s.extract i (i + p.size)).toList == p.toList)
      · have HN := Lib.hid (HST.out.2 ht)
        clear HST
        go_wp2_with fail
        go_round
        case rel => exact ⟨i + 1, by omega, by go_num, HN.out⟩
        case measure => simp [intOf]; omega
      · have HN := Lib.hid (HST.out.1 ht)
        clear HST
        go_wp2_with fail
        go_ret
        exact ⟨ret_bool HN.out.symm, rfl⟩
    · have d : decide ((i : Int) + (p.size : Int) ≤ (s.size : Int)) = false := decide_eq_false (by omega)
      have HE : Hid (occ s p = false) := by
        show _ = _
        rw [← hr.out, show s.size + 1 - p.size - i = 0 by omega]
        rfl
      clear hr
      go_wp2_with fail
      go_ret
      exact ⟨ret_bool HE.out.symm, rfl⟩
end Go.Proofs.YtdmpokanfnlbgaaGreatDoor

namespace Go.Proofs.YtdmpokanfnlbgaaGreatDoor
open Go.RowKit
set_option linter.all false
def Blk (w : World) (b : Nat) (t : TypeId) (us : Array Value) : Prop := w.heap[b]? = some (.cells us t (0, 0))
section
variable {w w' : World} {b : Nat} {t : TypeId} {us : Array Value}
theorem Blk.lt (h : Blk w b t us) : b < w.heap.size := (Array.getElem?_eq_some_iff.1 h).1
theorem Blk.cell (h : Blk w b t us) (i : Nat) : w.cell? ⟨b, i, none⟩ = us[i]? := cell_of_row w b i us t (0, 0) h
theorem Blk.frozen (h : Blk w b t us) (i : Nat) : w.frozen? ⟨b, i, none⟩ = false := frozen_of_row w b i us t h
theorem Blk.keep (h : Blk w b t us) (hb : Below w.heap.size w w') : Blk w' b t us := (hb.block b h.lt).trans h
theorem Blk.drewN (h : Blk w b t us) (n : Nat) : Blk (w.drewN n) b t us := h
theorem Blk.alloc (h : Blk w b t us) (o : Obj) : Blk (w.alloc o) b t us := h.keep ((Below.refl _ _).alloc (Nat.le_refl _) o)
theorem Blk.new (w : World) (t : TypeId) (us : Array Value) : Blk (w.alloc (.cells us t)) w.heap.size t us := heap_alloc_new w _
theorem Blk.within {lo hi : Nat} (h : Blk w b t us) (hw : Within lo hi w w') (hb : b < lo ∨ hi ≤ b) : Blk w' b t us := (hw.block b h.lt hb).trans h
theorem Blk.grown {row : Option Nat} (h : Blk w b t us) (hg : w.grownBy w' row) (hb : some b ≠ row) : Blk w' b t us := (hg.block b h.lt hb).trans h
theorem Blk.other (h : Blk w b t us) {p : Addr} (hp : b ≠ p.block) (u : Value) : Blk (w.setCell p u) b t us := (heap_setCell_other w p b u hp).trans h
theorem Blk.set (h : Blk w b t us) (i : Nat) (u : Value) : Blk (w.setCell ⟨b, i, none⟩ u) b t (us.setIfInBounds i u) := heap_setCell_same w b i us t u h
end
section
variable {w : World} {b : Nat} {t : TypeId} {u0 u1 u2 : Value}
theorem Blk.c0 (h : Blk w b t #[u0, u1, u2]) : w.cell? ⟨b, 0, none⟩ = some u0 := h.cell 0
theorem Blk.c1 (h : Blk w b t #[u0, u1, u2]) : w.cell? ⟨b, 1, none⟩ = some u1 := h.cell 1
theorem Blk.c2 (h : Blk w b t #[u0, u1, u2]) : w.cell? ⟨b, 2, none⟩ = some u2 := h.cell 2
end
theorem below_lab {B : Nat} {a w : World} (h : Below B a w) {g : Nat} (hg : B ≤ g) (u0 u1 u2 : Value) : Below B a (((w.setCell ⟨g, 0, none⟩ u0).setCell ⟨g, 1, none⟩ u1).setCell ⟨g, 2, none⟩ u2) :=
  ((h.setCell (p := ⟨g, _, none⟩) hg u0).setCell (p := ⟨g, _, none⟩) hg u1).setCell (p := ⟨g, _, none⟩) hg u2
theorem below1 (w : World) (o : Obj) : Below w.heap.size w (w.alloc o) := (Below.refl _ _).alloc (Nat.le_refl _) o
theorem below2 (w : World) (o p : Obj) : Below w.heap.size w ((w.alloc o).alloc p) := (below1 w o).alloc (by simp) p
theorem below3 (w : World) (o p q : Obj) : Below w.heap.size w (((w.alloc o).alloc p).alloc q) := (below2 w o p).alloc (by simp; omega) q
end Go.Proofs.YtdmpokanfnlbgaaGreatDoor

namespace Go.Proofs.YtdmpokanfnlbgaaGreatDoor
open Go.RowKit
set_option linter.all false
/- Words that avoid others (spec). -/
def avB (F : List ByteArray) (s : ByteArray) : Bool := F.all fun f => !occ s f
theorem av_step {F : List ByteArray} {s f : ByteArray} {k : Nat} {b : Bool} (hf : F[k]? = some f) (h : (F.drop k).all (fun f => !occ s f) = b) :
    (occ s f = true → b = false) ∧ (occ s f = false → (F.drop (k + 1)).all (fun f => !occ s f) = b) := by
  rw [drop_of_get hf, List.all_cons] at h
  exact ⟨fun e => by rw [e] at h; exact h.symm, fun e => by rw [e] at h; exact h⟩
set_option maxHeartbeats 800000 in
theorem sAvoids_any (ao : Option Addr) (n cap : Nat) (F : List ByteArray) (s : ByteArray) (w : World) (h : Strs w ao n F) (hs : s.size ≤ 100) (hF : ∀ f ∈ F, f.size ≤ 100) :
    Calls Tryz.prog 100 #[.slice ao n cap, .string s] w fun e w' => e = .returned (.bool (avB F s)) ∧ w = w' := by
  have hn := h.1
  have hm := h.2.1
  have H := Lib.hid h
  clear h
  go_enter Tryz.func100, Tryz.ntmps100
  go_wp2_with fail
  go_loop [5] (fun x => ∃ k : Nat, k ≤ n ∧ x = .int .i64 k ∧ Hid ((F.drop k).all (fun f => !occ s f) = avB F s)) (fun x => n - (intOf x).toNat)
  case atStart => exact ⟨0, Nat.zero_le _, rfl, rfl⟩
  case round =>
    obtain ⟨k, hk, rfl, hr⟩ := hrel
    by_cases hlt : k < n
    · obtain ⟨b, o, f, rfl, hc, hf⟩ := H.out.at_ hlt
      have HST := Lib.hid (av_step hf.out hr.out)
      have hfs := hF f (List.mem_of_getElem? hf.out)
      clear hf hr
      cases ho : occ s f
      · have HN := Lib.hid (HST.out.2 ho)
        have HO := Lib.hid ho
        clear HST ho
        go_wp2_with (go_at_call 102; refine (sOccurs_any s f _ hs hfs).mono ?_; rw [HO.out]; rintro e w' ⟨rfl, rfl⟩)
        go_round
        case rel => exact ⟨k + 1, hlt, by go_num, HN.out⟩
        case measure => simp [intOf]; omega
      · have HN := Lib.hid (HST.out.1 ho)
        have HO := Lib.hid ho
        clear HST ho
        go_wp2_with (go_at_call 102; refine (sOccurs_any s f _ hs hfs).mono ?_; rw [HO.out]; rintro e w' ⟨rfl, rfl⟩)
        go_ret
        exact ⟨ret_bool HN.out.symm, rfl⟩
    · have HE : Hid (avB F s = true) := by
        show _ = _
        rw [← hr.out, List.drop_eq_nil_of_le (by omega)]
        rfl
      clear hr
      go_wp2_with fail
      go_ret
      exact ⟨ret_bool HE.out.symm, rfl⟩
end Go.Proofs.YtdmpokanfnlbgaaGreatDoor

namespace Go.Proofs.YtdmpokanfnlbgaaGreatDoor
open Go.RowKit
set_option linter.all false
/- Valid shifts. -/
def prevF (F : List ByteArray) (k : Nat) : Option ByteArray := if k = 0 then none else F[k - 1]?
def upF (q : Option ByteArray) (f : ByteArray) : Bool := match q with
  | none => true
  | some g => Op.bytesLess g.toList f.toList
def okF (K : Int) : Option ByteArray → List ByteArray → Bool
  | _, [] => true
  | q, f :: r => (isWd K f && (inR f.size 1 3 && upF q f)) && okF K (some f) r
def isSh (K : Int) (F : List ByteArray) : Bool := inR K 1 3 && (decide (F.length ≤ 8) && okF K none F)
theorem okF_step {K : Int} {F : List ByteArray} {k : Nat} {f : ByteArray} {b : Bool} (hf : F[k]? = some f) (h : okF K (prevF F k) (F.drop k) = b) :
    (isWd K f = false → b = false) ∧ (inR f.size 1 3 = false → b = false) ∧ (upF (prevF F k) f = false → b = false) ∧ (isWd K f = true → inR f.size 1 3 = true → upF (prevF F k) f = true → okF K (prevF F (k + 1)) (F.drop (k + 1)) = b) := by
  rw [drop_of_get hf, okF] at h
  have e : prevF F (k + 1) = some f := by simp [prevF, hf]
  rw [e]
  refine ⟨fun q => ?_, fun q => ?_, fun q => ?_, fun q1 q2 q3 => ?_⟩
  · rw [q] at h; exact h.symm
  · rw [q] at h; simpa using h.symm
  · rw [q] at h; simpa using h.symm
  · rw [q1, q2, q3] at h; exact h
theorem okF_end {K : Int} {F : List ByteArray} {k : Nat} {b : Bool} (hk : F.length ≤ k) (h : okF K (prevF F k) (F.drop k) = b) : b = true := by
  rw [List.drop_eq_nil_of_le hk] at h
  exact h.symm
theorem okF_size {K : Int} : ∀ {F : List ByteArray} {q : Option ByteArray}, okF K q F = true → ∀ f ∈ F, 0 < f.size ∧ f.size ≤ 3
  | [], _, _, f, hf => by simp at hf
  | x :: r, q, h, f, hf => by
    simp only [okF, Bool.and_eq_true] at h
    rcases List.mem_cons.1 hf with rfl | hf
    · have := inR_true h.1.2.1; omega
    · exact okF_size h.2 f hf
theorem isSh_get {K : Int} {F : List ByteArray} (h : isSh K F = true) : (1 ≤ K ∧ K ≤ 3) ∧ F.length ≤ 8 ∧ ∀ f ∈ F, 0 < f.size ∧ f.size ≤ 3 := by
  simp only [isSh, Bool.and_eq_true, decide_eq_true_eq] at h
  exact ⟨inR_true h.1, h.2.1, okF_size h.2.2⟩
set_option maxRecDepth 20000 in
set_option maxHeartbeats 3200000 in
theorem sIsShift_any (K : Int) (ao : Option Addr) (n cap : Nat) (F : List ByteArray) (w : World) (h : Strs w ao n F) (hF : ∀ f ∈ F, f.size ≤ 1048576) :
    Calls Tryz.prog 51 #[.agg #[.int .i64 K, .slice ao n cap]] w fun e w' => e = .returned (.bool (isSh K F)) ∧ Below w.heap.size w w' := by
  have hn := h.1
  have hm1 := h.2.1
  have HB := Lib.hid (below1 w (.cells #[.int .i64 K, .slice ao n cap] 30))
  have H := Lib.hid (h.keep HB.out)
  have HK := Blk.new w 30 #[.int .i64 K, .slice ao n cap]
  have k0 : (w.alloc (.cells #[.int .i64 K, .slice ao n cap] 30)).cell? ⟨w.heap.size, 0, none⟩ = some (.int .i64 K) := HK.cell 0
  have k1 : (w.alloc (.cells #[.int .i64 K, .slice ao n cap] 30)).cell? ⟨w.heap.size, 1, none⟩ = some (.slice ao n cap) := HK.cell 1
  have HL := Lib.hid hn
  clear h HK hn
  go_enter Tryz.func51, Tryz.ntmps51
  go_wp2_with fail
  generalize w.alloc (.cells #[.int .i64 K, .slice ao n cap] 30) = w1 at HB H k0 k1 ⊢
  go_loop [3] (fun x => ∃ k : Nat, k ≤ n ∧ x = .int .i64 k ∧ Hid (okF K (prevF F k) (F.drop k) = okF K none F)) (fun x => n - (intOf x).toNat)
  case atStart => exact ⟨0, Nat.zero_le _, rfl, rfl⟩
  case round =>
    obtain ⟨k, hk, rfl, hr⟩ := hrel
    by_cases hlt : k < n
    · obtain ⟨b, o, f, rfl, hc, hf⟩ := H.out.at_ hlt
      have HST := Lib.hid (okF_step hf.out hr.out)
      have hfs := hF f (List.mem_of_getElem? hf.out)
      have HNO : Hid (okF K none F = false → isSh K F = false) := fun e => by simp [isSh, e]
      clear hf hr
      cases hw : isWd K f
      · have HR := Lib.hid (HNO.out (HST.out.1 hw))
        have HW := Lib.hid hw
        clear hw HST
        go_wp2_with (go_at_call 78; refine (sIsWord_any K f _ hfs).mono ?_; rw [HW.out]; rintro e w' ⟨rfl, rfl⟩)
        go_ret
        exact ⟨ret_bool HR.out.symm, HB.out⟩
      have HW := Lib.hid hw
      cases hi : inR f.size 1 3
      · have HR := Lib.hid (HNO.out (HST.out.2.1 hi))
        have HI := Lib.hid hi
        clear hw hi HST
        go_wp2_with (first | (go_at_call 78; refine (sIsWord_any K f _ hfs).mono ?_; rw [HW.out]; rintro e w' ⟨rfl, rfl⟩) | (go_at_call 33; refine (l1In_any _ _ _ _).mono ?_; rw [HI.out]; rintro e w' ⟨rfl, rfl⟩))
        go_ret
        exact ⟨ret_bool HR.out.symm, HB.out⟩
      have HI := Lib.hid hi
      have HST3 := Lib.hid (HST.out.2.2.2 hw hi)
      have HST4 := Lib.hid HST.out.2.2.1
      clear hw hi HST
      by_cases hk0 : k = 0
      · subst hk0
        simp only [Nat.add_zero] at hc
        have HN := Lib.hid (HST3.out rfl)
        clear HST3 HST4
        go_wp2_with (first | (go_at_call 78; refine (sIsWord_any K f _ hfs).mono ?_; rw [HW.out]; rintro e w' ⟨rfl, rfl⟩) | (go_at_call 33; refine (l1In_any _ _ _ _).mono ?_; rw [HI.out]; rintro e w' ⟨rfl, rfl⟩))
        go_round
        case rel => exact ⟨1, hlt, by go_num, HN.out⟩
        case measure => simp [intOf]; omega
      · obtain ⟨j, rfl⟩ : ∃ j, k = j + 1 := ⟨k - 1, by omega⟩
        obtain ⟨b', o', g, e', hc', hg⟩ := H.out.at_ (k := j) (by omega)
        injection e' with e'
        injection e' with e1 e2
        subst e1; subst e2
        have hp : prevF F (j + 1) = some g := by simp [prevF, hg.out]
        rw [hp] at HST3 HST4
        have hd0 : decide ((0 : Int) < ((j + 1 : Nat) : Int)) = true := decide_eq_true (by omega)
        cases hu : Op.bytesLess g.toList f.toList
        · have HR := Lib.hid (HNO.out (HST4.out hu))
          clear HST3 HST4 hp hg
          go_wp2_with (first | (go_at_call 78; refine (sIsWord_any K f _ hfs).mono ?_; rw [HW.out]; rintro e w' ⟨rfl, rfl⟩) | (go_at_call 33; refine (l1In_any _ _ _ _).mono ?_; rw [HI.out]; rintro e w' ⟨rfl, rfl⟩))
          go_ret
          exact ⟨ret_bool HR.out.symm, HB.out⟩
        · have HN := Lib.hid (HST3.out hu)
          clear HST3 HST4 hp hg
          go_wp2_with (first | (go_at_call 78; refine (sIsWord_any K f _ hfs).mono ?_; rw [HW.out]; rintro e w' ⟨rfl, rfl⟩) | (go_at_call 33; refine (l1In_any _ _ _ _).mono ?_; rw [HI.out]; rintro e w' ⟨rfl, rfl⟩))
          go_round
          case rel => exact ⟨j + 2, hlt, by go_num, HN.out⟩
          case measure => simp [intOf]; omega
    · have HE := Lib.hid (okF_end (by have := HL.out; omega) hr.out)
      clear hr
      have hnn : k = n := by omega
      cases hK : inR K 1 3
      · have HR : Hid (isSh K F = false) := by show _ = _; simp [isSh, hK]
        have HK := Lib.hid hK
        clear hK
        go_wp2_with (go_at_call 33; refine (l1In_any _ _ _ _).mono ?_; rw [HK.out]; rintro e w' ⟨rfl, rfl⟩)
        go_ret
        exact ⟨ret_bool HR.out.symm, HB.out⟩
      · have HR : Hid (isSh K F = decide ((n : Int) ≤ 8)) := by show _ = _; simp [isSh, hK, HE.out, HL.out]; omega
        have HK := Lib.hid hK
        clear hK
        go_wp2_with (go_at_call 33; refine (l1In_any _ _ _ _).mono ?_; rw [HK.out]; rintro e w' ⟨rfl, rfl⟩)
        go_ret
        exact ⟨ret_bool HR.out.symm, HB.out⟩
end Go.Proofs.YtdmpokanfnlbgaaGreatDoor

namespace Go.Proofs.YtdmpokanfnlbgaaGreatDoor
open Go.RowKit
set_option linter.all false
theorem own_lt {w : World} {lo n p cap : Nat} {ao : Option Addr} {F : List ByteArray} (h : OStrs w lo (.slice ao n cap) n F) : ∀ g, (Value.slice ao p cap).ownBlock = some g → g < w.heap.size := fun g e => (h.ownlt g (by cases ao <;> exact e)).2
theorem rest_kept {w w7 w8 : World} {m c7 : Nat} {a7 : Option Addr} {R : List ByteArray} {u : Value} (h : OStrs w7 w.heap.size (.slice a7 m c7) m R) (hu : ∀ g, u.ownBlock = some g → g < w.heap.size) (hg : w7.grownBy w8 u.ownBlock) : Strs w8 a7 m R := by
  refine (h.grown hg ?_).read
  cases hv : (Value.slice a7 m c7).ownBlock with
  | none => exact .inl rfl
  | some g =>
    right
    intro e
    have h1 := (h.ownlt g hv).1
    have h2 := hu g e.symm
    omega
theorem put_mem (F : List ByteArray) (x : ByteArray) (p : Nat) : ∀ f ∈ F.take p ++ [x] ++ F.drop p, f ∈ F ∨ f = x := by
  intro f hf
  simp only [List.mem_append, List.mem_singleton] at hf
  rcases hf with (h | h) | h
  · exact .inl (List.mem_of_mem_take h)
  · exact .inr h
  · exact .inl (List.mem_of_mem_drop h)
def putT (lo : Nat) (F : List ByteArray) (x : ByteArray) (w w' : World) (e : Ending) : Prop := ∃ (v : Value) (G : List ByteArray), e = .returned v ∧ OStrs w' lo v G.length G ∧ (∀ f ∈ G, f ∈ F ∨ f = x) ∧ G.length ≤ F.length + 1 ∧ Below lo w w'
set_option maxRecDepth 20000 in
set_option maxHeartbeats 6400000 in
theorem l2Put_any (lo : Nat) (v : Value) (F : List ByteArray) (x : ByteArray) (w : World) (h : OStrs w lo v F.length F) (hn : F.length ≤ 1000) (hlo : lo ≤ w.heap.size) :
    Calls Tryz.prog 88 #[v, .string x] w fun e w' => putT lo F x w w' e := by
  obtain ⟨ao, cap, rfl, hr⟩ := h.form
  have HO := Lib.hid h
  have HI := Lib.hid hr
  obtain ⟨n, hnn⟩ : ∃ n, F.length = n := ⟨_, rfl⟩
  have HN := Lib.hid hnn
  rw [hnn] at HO HI hn ⊢
  clear h hr hnn
  go_enter Tryz.func88, Tryz.ntmps88
  go_wp2_with fail
  go_loop [5] (fun y => ∃ p : Nat, p ≤ n ∧ y = .int .i64 p) (fun y => n - (intOf y).toNat)
  case atStart => exact ⟨0, Nat.zero_le _, rfl⟩
  case round =>
    obtain ⟨p, hp, rfl⟩ := hrel
    by_cases hlt : p < n
    · obtain ⟨b, o, s, rfl, hc, hs⟩ := HI.out.at_ hlt
      clear hs
      cases hl : Op.bytesLess s.toList x.toList
      · cases he : (s.toList == x.toList)
        · have hs1 := slice_fromS (some ⟨b, o, none⟩) HO.out.ok2 n cap p (by omega)
          have hs2 := slice_toS (some ⟨b, o, none⟩) n cap p (by have := HO.out.capLe rfl; omega)
          obtain ⟨pa, hpa⟩ : ∃ pa, fromAd (some ⟨b, o, none⟩) cap p = pa := ⟨_, rfl⟩
          have hdr := HO.out.dropped (i := p) (by omega)
          obtain ⟨q, hq⟩ : ∃ q, n - p = q := ⟨_, rfl⟩
          have HQ : Hid (p + 1 + q = n + 1) := by show _ = _; omega
          have hq1 : p + 1 + q ≤ 1099511627776 := by omega
          have hq0 : 0 + q ≤ 1099511627776 := by omega
          have hp1 : p + 1 ≤ 1099511627776 := by omega
          have hpn' : p ≤ n := by omega
          rw [hpa, hq] at hs1 hdr
          clear hq
          have HDR := Lib.hid hdr
          have HAP : Hid (∀ (g : Nat), (Value.slice (some ⟨b, o, none⟩) p cap).ownBlock = some g → g < w.heap.size) := own_lt HO.out
          clear hdr hpa
          go_wp2_with (first
            | (at_builtin; refine wpList_app_strs w8 rfl (.tmp 44) (.tmp 45) rfl lo _ (p + 1) _ rfl HO8.out _ _ _ (F.drop p) rfl HR8.out hq1 (Nat.le_trans hlo HB8.out.size) ?_; intro v9 w9 ho9 hg9 hn9; have HO9 := Lib.hid ho9; have HB9 : Hid (Below lo w w9) := HB8.out.grown hg9 (Nat.le_trans hlo HB8.out.size) (fun b hb => (HO8.out.ownlt b hb).1); clear ho9 hg9 hn9)
            | (at_builtin; refine wpList_push_strAt w7 x rfl (.tmp 41) (.tmp 43) rfl lo (.slice (some ⟨b, o, none⟩) p cap) p (F.take p) rfl HC7.out hp1 (Nat.le_trans hlo HB7.out.size) _ rfl rfl ?_; intro v8 w8 ho8 hg8 hn8; have HO8 := Lib.hid ho8; have HR8 : Hid (Strs w8 a7 q (F.drop p)) := rest_kept (u := .slice (some ⟨b, o, none⟩) p cap) HO7.out HAP.out (by exact hg8); have HB8 : Hid (Below lo w w8) := HB7.out.grown hg8 (Nat.le_trans hlo HB7.out.size) (fun b hb => (HC7.out.ownlt b hb).1); clear ho8 hg8 hn8)
            | (at_builtin; refine wpList_app_strs (w.alloc (.cells #[] 9)) rfl (.tmp 34) (.tmp 37) rfl w.heap.size _ 0 [] rfl (OStrs.empty _ _ (Nat.le_refl _)) pa q (cap - p) (F.drop p) rfl (HDR.out.keep (belowA w _)) hq0 (by simp) ?_; intro v7 w7 ho7 hg7 _; rw [Nat.zero_add, List.nil_append] at ho7; obtain ⟨a7, c7, rfl, _⟩ := ho7.form; have HO7 := Lib.hid ho7; have HBw : Hid (Below w.heap.size w w7) := (belowA w _).grown hg7 (by simp) (fun b hb => ((OStrs.empty w w.heap.size (Nat.le_refl _)).ownlt b hb).1); have HC7 := Lib.hid ((HO.out.keep HBw.out).cutTo hpn'); have HB7 := Lib.hid (HBw.out.mono hlo); clear ho7 hg7))
          go_ret
          have h9 := HO9.out
          rw [HQ.out] at h9
          have e9 := h9.len
          exact ⟨_, _, rfl, (by rw [← e9] at h9; exact h9), put_mem _ _ _, (by rw [e9, HN.out]; exact Nat.le_refl _), HB9.out⟩
        · go_wp2_with fail
          go_ret
          exact ⟨_, F, rfl, (by rw [HN.out]; exact HO.out), (fun f hf => .inl hf), Nat.le_succ _, Below.refl _ _⟩
      · go_wp2_with fail
        go_round
        case rel => exact ⟨p + 1, hlt, by go_num⟩
        case measure => simp [intOf]; omega
    · have hpn : n ≤ p := by omega
      have hs1 := slice_fromS ao HO.out.ok2 n cap p (by omega)
      have hs2 := slice_toS ao n cap p (by have := HO.out.capLe rfl; omega)
      obtain ⟨pa, hpa⟩ : ∃ pa, fromAd ao cap p = pa := ⟨_, rfl⟩
      have hdr := HO.out.dropped (i := p) (by omega)
      obtain ⟨q, hq⟩ : ∃ q, n - p = q := ⟨_, rfl⟩
      have HQ : Hid (p + 1 + q = n + 1) := by show _ = _; omega
      have hq1 : p + 1 + q ≤ 1099511627776 := by omega
      have hq0 : 0 + q ≤ 1099511627776 := by omega
      have hp1 : p + 1 ≤ 1099511627776 := by omega
      have hpn' : p ≤ n := by omega
      rw [hpa, hq] at hs1 hdr
      clear hq
      have HDR := Lib.hid hdr
      have HAP : Hid (∀ (g : Nat), (Value.slice ao p cap).ownBlock = some g → g < w.heap.size) := own_lt HO.out
      clear hdr hpa
      go_wp2_with (first
        | (at_builtin; refine wpList_app_strs w8 rfl (.tmp 44) (.tmp 45) rfl lo _ (p + 1) _ rfl HO8.out _ _ _ (F.drop p) rfl HR8.out hq1 (Nat.le_trans hlo HB8.out.size) ?_; intro v9 w9 ho9 hg9 hn9; have HO9 := Lib.hid ho9; have HB9 : Hid (Below lo w w9) := HB8.out.grown hg9 (Nat.le_trans hlo HB8.out.size) (fun b hb => (HO8.out.ownlt b hb).1); clear ho9 hg9 hn9)
        | (at_builtin; refine wpList_push_strAt w7 x rfl (.tmp 41) (.tmp 43) rfl lo (.slice ao p cap) p (F.take p) rfl HC7.out hp1 (Nat.le_trans hlo HB7.out.size) _ rfl rfl ?_; intro v8 w8 ho8 hg8 hn8; have HO8 := Lib.hid ho8; have HR8 : Hid (Strs w8 a7 q (F.drop p)) := rest_kept (u := .slice ao p cap) HO7.out HAP.out (by exact hg8); have HB8 : Hid (Below lo w w8) := HB7.out.grown hg8 (Nat.le_trans hlo HB7.out.size) (fun b hb => (HC7.out.ownlt b hb).1); clear ho8 hg8 hn8)
        | (at_builtin; refine wpList_app_strs (w.alloc (.cells #[] 9)) rfl (.tmp 34) (.tmp 37) rfl w.heap.size _ 0 [] rfl (OStrs.empty _ _ (Nat.le_refl _)) pa q (cap - p) (F.drop p) rfl (HDR.out.keep (belowA w _)) hq0 (by simp) ?_; intro v7 w7 ho7 hg7 _; rw [Nat.zero_add, List.nil_append] at ho7; obtain ⟨a7, c7, rfl, _⟩ := ho7.form; have HO7 := Lib.hid ho7; have HBw : Hid (Below w.heap.size w w7) := (belowA w _).grown hg7 (by simp) (fun b hb => ((OStrs.empty w w.heap.size (Nat.le_refl _)).ownlt b hb).1); have HC7 := Lib.hid ((HO.out.keep HBw.out).cutTo hpn'); have HB7 := Lib.hid (HBw.out.mono hlo); clear ho7 hg7))
      go_ret
      have h9 := HO9.out
      rw [HQ.out] at h9
      have e9 := h9.len
      exact ⟨_, _, rfl, (by rw [← e9] at h9; exact h9), put_mem _ _ _, (by rw [e9, HN.out]; exact Nat.le_refl _), HB9.out⟩
end Go.Proofs.YtdmpokanfnlbgaaGreatDoor

namespace Go.Proofs.YtdmpokanfnlbgaaGreatDoor
open Go.RowKit
set_option linter.all false
theorem filt_step {α : Type} {p : α → Bool} {L acc R : List α} {i : Nat} {x : α} (hx : L[i]? = some x) (h : acc ++ (L.drop i).filter p = R) :
    (p x = true → (acc ++ [x]) ++ (L.drop (i + 1)).filter p = R) ∧ (p x = false → acc ++ (L.drop (i + 1)).filter p = R) := by
  rw [drop_of_get hx, List.filter_cons] at h
  constructor
  · intro e; simpa [e] using h
  · intro e; simpa [e] using h
theorem filt_end {α : Type} {p : α → Bool} {L acc R : List α} {i : Nat} (hi : L.length ≤ i) (h : acc ++ (L.drop i).filter p = R) : acc = R := by
  rw [drop_all L i hi] at h
  simpa using h
end Go.Proofs.YtdmpokanfnlbgaaGreatDoor

namespace Go.Proofs.YtdmpokanfnlbgaaGreatDoor
open Go.RowKit
set_option linter.all false
section
variable {α : Type} [DecidableEq α] [Inhabited α]
/-- The letter at i of the word without end. -/
def exw (w : List α) (i : Nat) : α := w.getD (i % w.length) default
theorem exw_lt {w : List α} {i : Nat} (h : i < w.length) : w[i]? = some (exw w i) := by
  unfold exw
  rw [Nat.mod_eq_of_lt h, List.getD_eq_getElem?_getD, List.getElem?_eq_getElem h]
  rfl
theorem exw_of {w : List α} {i : Nat} {a : α} (h : w[i]? = some a) : exw w i = a := by
  have hl := (List.getElem?_eq_some_iff.1 h).1
  rw [exw_lt hl] at h
  exact Option.some.inj h
theorem exw_mod (w : List α) (i : Nat) : exw w (i % w.length) = exw w i := by simp [exw]
theorem exw_modk (w : List α) (i k : Nat) : exw w (i % w.length + k) = exw w (i + k) := by simp [exw, Nat.mod_add_mod]
theorem exw_inj {u w : List α} (hl : u.length = w.length) (h : ∀ i, i < w.length → exw u i = exw w i) : u = w := by
  apply List.ext_getElem? fun i => ?_
  by_cases hi : i < w.length
  · rw [exw_lt hi, exw_lt (by omega), h i hi]
  · rw [List.getElem?_eq_none (by omega), List.getElem?_eq_none (by omega)]
/-- The turn by k leaves the word as it is. -/
def fixes (w : List α) (k : Nat) : Prop := ∀ i, exw w (i + k) = exw w i
def fixB (w : List α) (k : Nat) : Bool := (List.range w.length).all fun i => decide (exw w (i + k) = exw w i)
theorem fixB_iff {w : List α} {k : Nat} : fixB w k = true ↔ fixes w k := by
  simp only [fixB, List.all_eq_true, List.mem_range, decide_eq_true_eq]
  constructor
  · intro h i
    rcases Nat.eq_zero_or_pos w.length with h0 | h0
    · have : w = [] := List.eq_nil_of_length_eq_zero h0
      subst this
      rfl
    · rw [← exw_modk, h _ (Nat.mod_lt _ h0), exw_mod]
  · intro h i _
    exact h i
theorem fixes_zero (w : List α) : fixes w 0 := fun _ => rfl
theorem fixes_len (w : List α) : fixes w w.length := fun i => by simp [exw]
theorem fixes_add {w : List α} {a b : Nat} (h : fixes w a) (k : fixes w b) : fixes w (a + b) := fun i => by rw [← Nat.add_assoc, k, h]
theorem fixes_mul {w : List α} {a : Nat} (h : fixes w a) : ∀ m : Nat, fixes w (a * m)
  | 0 => fixes_zero w
  | m + 1 => by rw [Nat.mul_succ]; exact fixes_add (fixes_mul h m) h
theorem fixes_sub {w : List α} {a b : Nat} (h : fixes w a) (k : fixes w b) (hab : a ≤ b) : fixes w (b - a) := fun i => by
  rw [← h, Nat.add_assoc, Nat.sub_add_cancel hab, k]
theorem fixes_mod {w : List α} {a b : Nat} (h : fixes w a) (k : fixes w b) : fixes w (b % a) := by
  have e : b % a = b - a * (b / a) := by have := Nat.div_add_mod b a; omega
  rw [e]
  exact fixes_sub (fixes_mul h _) k (Nat.mul_div_le b a)
theorem fixes_gcd {w : List α} (a b : Nat) : fixes w a → fixes w b → fixes w (Nat.gcd a b) :=
  Nat.gcd.induction (P := fun a b => fixes w a → fixes w b → fixes w (Nat.gcd a b)) a b (fun n _ h => by rw [Nat.gcd_zero_left]; exact h) (fun m n _ ih h k => by
    rw [Nat.gcd_rec]
    exact ih (fixes_mod h k) h)
/-- No turn but the whole one leaves the word as it is. -/
def isPrim (w : List α) : Prop := ∀ k, 0 < k → k < w.length → ¬ fixes w k
def isPrimB (w : List α) : Bool := (List.range w.length).all fun k => k == 0 || !fixB w k
theorem isPrim_iff {w : List α} : isPrimB w = true ↔ isPrim w := by
  simp only [isPrimB, List.all_eq_true, List.mem_range, Bool.or_eq_true, beq_iff_eq, Bool.not_eq_true']
  constructor
  · intro h k h0 hk hf
    rcases h k hk with e | e
    · omega
    · rw [fixB_iff.2 hf] at e; cases e
  · intro h k hk
    rcases Nat.eq_zero_or_pos k with h0 | h0
    · exact .inl h0
    · right
      cases e : fixB w k with
      | false => rfl
      | true => exact absurd (fixB_iff.1 e) (h k h0 hk)
/-- A word, m times. -/
def rpt (m : Nat) (u : List α) : List α := (List.replicate m u).flatten
theorem rpt_len (m : Nat) (u : List α) : (rpt m u).length = m * u.length := by simp [rpt]
theorem rpt_get (u : List α) : ∀ (m i : Nat), i < m * u.length → (rpt m u)[i]? = u[i % u.length]?
  | 0, i, h => by omega
  | m + 1, i, h => by
    have e : rpt (m + 1) u = u ++ rpt m u := by simp [rpt, List.replicate_succ]
    rw [e]
    by_cases hi : i < u.length
    · rw [List.getElem?_append_left hi, Nat.mod_eq_of_lt hi]
    · have h2 : (m + 1) * u.length = m * u.length + u.length := Nat.succ_mul m u.length
      rw [List.getElem?_append_right (by omega), rpt_get u m (i - u.length) (by omega), ← Nat.mod_eq_sub_mod (by omega)]
theorem exw_rpt {m : Nat} (hm : 0 < m) (u : List α) (i : Nat) : exw (rpt m u) i = exw u i := by
  rcases Nat.eq_zero_or_pos u.length with h0 | h0
  · have : u = [] := List.eq_nil_of_length_eq_zero h0
    subst this
    have e : rpt m ([] : List α) = [] := List.eq_nil_of_length_eq_zero (by rw [rpt_len]; simp)
    rw [e]
  · have hp : 0 < m * u.length := Nat.mul_pos hm h0
    have h1 := rpt_get u m (i % (m * u.length)) (Nat.mod_lt _ hp)
    unfold exw
    rw [rpt_len, List.getD_eq_getElem?_getD, h1, Nat.mod_mul_left_mod, ← List.getD_eq_getElem?_getD]
theorem exw_take {w : List α} {d : Nat} (hd : 0 < d) (hn : d ≤ w.length) (h : fixes w d) (i : Nat) : exw (w.take d) i = exw w i := by
  have hl : (w.take d).length = d := by simp; omega
  have h1 : i % d < d := Nat.mod_lt _ hd
  have h2 : exw (w.take d) i = exw w (i % d) := by
    rw [← exw_mod, hl]
    apply exw_of
    rw [List.getElem?_take_of_lt h1]
    exact exw_lt (by omega)
  have h3 : exw w (i % d + d * (i / d)) = exw w (i % d) := fixes_mul h (i / d) (i % d)
  rw [h2, ← h3, Nat.mod_add_div]
theorem take_rpt {w : List α} {d m : Nat} (hd : 0 < d) (hm : 0 < m) (hn : w.length = m * d) (h : fixes w d) : rpt m (w.take d) = w := by
  have hdn : d ≤ w.length := by rw [hn]; exact Nat.le_mul_of_pos_left d hm
  have hl : (w.take d).length = d := by simp; omega
  refine exw_inj (by rw [rpt_len, hl, hn]) fun i _ => ?_
  rw [exw_rpt hm, exw_take hd hdn h]
theorem rpt_take {u : List α} {m : Nat} (hm : 0 < m) : (rpt m u).take u.length = u := by
  obtain ⟨k, rfl⟩ : ∃ k, m = k + 1 := ⟨m - 1, by omega⟩
  simp [rpt, List.replicate_succ]
theorem fixes_rpt {u : List α} {m k : Nat} (hm : 0 < m) : fixes (rpt m u) k ↔ fixes u k := by
  unfold fixes
  constructor
  · intro h i; have := h i; rwa [exw_rpt hm, exw_rpt hm] at this
  · intro h i; rw [exw_rpt hm, exw_rpt hm]; exact h i
/-- The word turned by k. -/
def turn (k : Nat) (w : List α) : List α := w.drop k ++ w.take k
theorem turn_len {k : Nat} {w : List α} (h : k ≤ w.length) : (turn k w).length = w.length := by simp [turn]; omega
theorem exw_turn {k : Nat} {w : List α} (h : k ≤ w.length) (i : Nat) : exw (turn k w) i = exw w (i + k) := by
  rcases Nat.eq_zero_or_pos w.length with h0 | h0
  · have : w = [] := List.eq_nil_of_length_eq_zero h0
    subst this
    simp [turn, exw]
  · rw [← exw_mod, turn_len h]
    have hi : i % w.length < w.length := Nat.mod_lt _ h0
    rw [← exw_modk w i k]
    generalize i % w.length = j at hi
    apply exw_of
    unfold turn
    by_cases hj : j + k < w.length
    · rw [List.getElem?_append_left (by simp; omega), List.getElem?_drop, Nat.add_comm k j]
      exact exw_lt hj
    · rw [List.getElem?_append_right (by simp; omega), List.length_drop, List.getElem?_take_of_lt (by omega)]
      have e : exw w (j + k) = exw w (j - (w.length - k)) := by
        rw [← exw_mod w (j + k), Nat.mod_eq_sub_mod (by omega), exw_mod]
        congr 1
        omega
      rw [e]
      exact exw_lt (by omega)
/-- All windows of three letters of the word without end. -/
def rings (win : α → α → α → Bool) (w : List α) : Prop := ∀ i, win (exw w i) (exw w (i + 1)) (exw w (i + 2)) = true
def ringB (win : α → α → α → Bool) (w : List α) : Bool := (List.range w.length).all fun i => win (exw w i) (exw w (i + 1)) (exw w (i + 2))
theorem ring_iff {win : α → α → α → Bool} {w : List α} (h : 0 < w.length) : ringB win w = true ↔ rings win w := by
  simp only [ringB, List.all_eq_true, List.mem_range]
  constructor
  · intro k i
    have := k _ (Nat.mod_lt i h)
    rwa [exw_mod, exw_modk, exw_modk] at this
  · intro k i _
    exact k i
theorem ring_congr {win : α → α → α → Bool} {u w : List α} (h : ∀ i, exw u i = exw w i) : rings win u ↔ rings win w := by
  unfold rings
  simp only [h]
theorem ring_turn {win : α → α → α → Bool} {w : List α} {k : Nat} (h : k ≤ w.length) (hr : rings win w) : rings win (turn k w) := by
  intro i
  rw [exw_turn h, exw_turn h, exw_turn h]
  have := hr (i + k)
  rwa [show i + 1 + k = i + k + 1 by omega, show i + 2 + k = i + k + 2 by omega]
theorem fixes_turn {w : List α} {k d : Nat} (h : k ≤ w.length) : fixes (turn k w) d ↔ fixes w d := by
  unfold fixes
  constructor
  · intro hf i
    rcases Nat.eq_zero_or_pos w.length with h0 | h0
    · have : w = [] := List.eq_nil_of_length_eq_zero h0
      subst this
      rfl
    · have h1 := hf (i + (w.length - k))
      rw [exw_turn h, exw_turn h] at h1
      rw [show i + (w.length - k) + d + k = i + d + w.length by omega, show i + (w.length - k) + k = i + w.length by omega] at h1
      have h2 := fixes_len w
      rw [h2, h2] at h1
      exact h1
  · intro hf i
    rw [exw_turn h, exw_turn h, show i + d + k = i + k + d by omega]
    exact hf _
end
end Go.Proofs.YtdmpokanfnlbgaaGreatDoor

namespace Go.Proofs.YtdmpokanfnlbgaaGreatDoor
open Go.RowKit
set_option linter.all false
theorem min_ex {P : Nat → Prop} : ∀ n, P n → ∃ m, m ≤ n ∧ P m ∧ ∀ j, j < m → ¬ P j := by
  intro n
  induction n using Nat.strongRecOn with
  | _ n ih =>
    intro h
    by_cases k : ∃ j, j < n ∧ P j
    · obtain ⟨j, hj, hp⟩ := k
      obtain ⟨m, h1, h2, h3⟩ := ih j hj hp
      exact ⟨m, by omega, h2, h3⟩
    · exact ⟨n, Nat.le_refl _, h, fun j hj hp => k ⟨j, hj, hp⟩⟩
theorem arg_min (f : Nat → Nat) : ∀ n, 0 < n → ∃ k, k < n ∧ ∀ j, j < n → f k ≤ f j
  | 0, h => by omega
  | 1, _ => ⟨0, by omega, fun j hj => by have : j = 0 := by omega
                                         subst this; exact Nat.le_refl _⟩
  | n + 2, _ => by
    obtain ⟨k, hk, h⟩ := arg_min f (n + 1) (by omega)
    by_cases hc : f k ≤ f (n + 1)
    · exact ⟨k, by omega, fun j hj => by
        by_cases e : j = n + 1
        · subst e; exact hc
        · exact h j (by omega)⟩
    · exact ⟨n + 1, by omega, fun j hj => by
        by_cases e : j = n + 1
        · subst e; exact Nat.le_refl _
        · have := h j (by omega); omega⟩
theorem sum_add {β : Type} (f g : β → Nat) : ∀ I : List β, (I.map fun d => f d + g d).sum = (I.map f).sum + (I.map g).sum
  | [] => rfl
  | a :: r => by simp only [List.map_cons, List.sum_cons, sum_add f g r]; omega
theorem sum_nil {β : Type} (f : β → Nat) : ∀ I : List β, (∀ d ∈ I, f d = 0) → (I.map f).sum = 0
  | [], _ => rfl
  | a :: r, h => by
    rw [List.map_cons, List.sum_cons, h a (List.mem_cons_self ..), sum_nil f r fun d hd => h d (List.mem_cons_of_mem _ hd)]
theorem sum_one {p : Nat → Bool} : ∀ {I : List Nat} {d : Nat}, I.Nodup → d ∈ I → p d = true → (∀ e ∈ I, p e = true → e = d) → (I.map fun d => if p d then 1 else 0).sum = 1
  | [], _, _, hd, _, _ => by simp at hd
  | a :: r, d, hn, hd, hp, hu => by
    have hn2 := List.nodup_cons.1 hn
    rw [List.map_cons, List.sum_cons]
    by_cases e : a = d
    · subst e
      rw [if_pos hp, sum_nil _ r fun x hx => by
        rw [if_neg]
        intro hpx
        have := hu x (List.mem_cons_of_mem _ hx) hpx
        subst this
        exact hn2.1 hx]
    · rw [if_neg (fun h => e (hu a (List.mem_cons_self ..) h)), sum_one hn2.2 (by
        rcases List.mem_cons.1 hd with h | h
        · exact absurd h.symm e
        · exact h) hp fun x hx => hu x (List.mem_cons_of_mem _ hx)]
theorem part_len {β : Type} {I : List Nat} (hI : I.Nodup) (p : Nat → β → Bool) : ∀ L : List β, (∀ w ∈ L, ∃ d ∈ I, p d w = true ∧ ∀ e ∈ I, p e w = true → e = d) → L.length = (I.map fun d => (L.filter (p d)).length).sum
  | [], _ => (sum_nil _ I fun _ _ => rfl).symm
  | w :: L, h => by
    have ih := part_len hI p L fun x hx => h x (List.mem_cons_of_mem _ hx)
    obtain ⟨d, hd, hp, hu⟩ := h w (List.mem_cons_self ..)
    have e : (I.map fun d => ((w :: L).filter (p d)).length) = I.map fun d => (if p d w then 1 else 0) + (L.filter (p d)).length := by
      apply List.map_congr_left
      intro a _
      rw [List.filter_cons]
      split <;> simp <;> omega
    rw [e, sum_add, sum_one (p := fun d => p d w) hI hd hp hu, ← ih, List.length_cons]
    omega
theorem flat_len2 {β γ : Type} (f : β → List γ) (n : Nat) : ∀ L : List β, (∀ r ∈ L, (f r).length = n) → (L.flatMap f).length = n * L.length
  | [], _ => by simp
  | r :: L, h => by
    rw [List.flatMap_cons, List.length_append, flat_len2 f n L fun x hx => h x (List.mem_cons_of_mem _ hx), h r (List.mem_cons_self ..), List.length_cons, Nat.mul_succ, Nat.add_comm]
section
variable {α : Type} [DecidableEq α] [Inhabited α]
def wordsL (A : List α) : Nat → List (List α)
  | 0 => [[]]
  | n + 1 => A.flatMap fun a => (wordsL A n).map (a :: ·)
theorem mem_wordsL {A : List α} : ∀ {n : Nat} {w : List α}, w ∈ wordsL A n ↔ w.length = n ∧ ∀ a ∈ w, a ∈ A
  | 0, w => by
    simp only [wordsL, List.mem_singleton]
    constructor
    · rintro rfl; simp
    · rintro ⟨h, _⟩; exact List.eq_nil_of_length_eq_zero h
  | n + 1, w => by
    simp only [wordsL, List.mem_flatMap, List.mem_map]
    constructor
    · rintro ⟨a, ha, u, hu, rfl⟩
      have := mem_wordsL.1 hu
      refine ⟨by simp [this.1], fun b hb => ?_⟩
      rcases List.mem_cons.1 hb with rfl | hb
      · exact ha
      · exact this.2 b hb
    · rintro ⟨hl, hA⟩
      cases w with
      | nil => simp at hl
      | cons a u => exact ⟨a, hA a (List.mem_cons_self ..), u, mem_wordsL.2 ⟨by simpa using hl, fun b hb => hA b (List.mem_cons_of_mem _ hb)⟩, rfl⟩
theorem nodup_wordsL {A : List α} (h : A.Nodup) : ∀ n, (wordsL A n).Nodup
  | 0 => by simp [wordsL]
  | n + 1 => by
    unfold wordsL List.Nodup
    rw [List.pairwise_flatMap]
    refine ⟨fun a _ => ?_, h.imp fun {a b} hab x hx y hy e => ?_⟩
    · rw [List.pairwise_map]
      exact (nodup_wordsL h n).imp fun hne e => hne (by injection e)
    · simp only [List.mem_map] at hx hy
      obtain ⟨u, _, rfl⟩ := hx
      obtain ⟨v, _, rfl⟩ := hy
      injection e with e1 e2
      exact hab e1
variable (A : List α) (win : α → α → α → Bool)
def ringL (n : Nat) : List (List α) := (wordsL A n).filter (ringB win)
def cprimL (n : Nat) : List (List α) := (ringL A win n).filter isPrimB
def divs (n : Nat) : List Nat := (List.range (n + 1)).filter fun d => decide (0 < d) && decide (n % d = 0)
def leastFix (d : Nat) (w : List α) : Bool := fixB w d && (List.range d).all fun k => k == 0 || !fixB w k
variable {A win}
theorem mem_ringL {n : Nat} (hn : 0 < n) {w : List α} : w ∈ ringL A win n ↔ (w.length = n ∧ ∀ a ∈ w, a ∈ A) ∧ rings win w := by
  simp only [ringL, List.mem_filter, mem_wordsL]
  constructor
  · rintro ⟨h, k⟩; exact ⟨h, (ring_iff (by omega)).1 k⟩
  · rintro ⟨h, k⟩; exact ⟨h, (ring_iff (by omega)).2 k⟩
theorem mem_primL {n : Nat} (hn : 0 < n) {w : List α} : w ∈ cprimL A win n ↔ ((w.length = n ∧ ∀ a ∈ w, a ∈ A) ∧ rings win w) ∧ isPrim w := by
  simp only [cprimL, List.mem_filter, mem_ringL hn, isPrim_iff]
theorem nodup_ringL (h : A.Nodup) (n : Nat) : (ringL A win n).Nodup := (nodup_wordsL h n).filter _
theorem nodup_primL (h : A.Nodup) (n : Nat) : (cprimL A win n).Nodup := (nodup_ringL h n).filter _
theorem mem_divs {n d : Nat} (hn : 0 < n) : d ∈ divs n ↔ 0 < d ∧ n % d = 0 := by
  simp only [divs, List.mem_filter, List.mem_range, Bool.and_eq_true, decide_eq_true_eq]
  constructor
  · rintro ⟨_, h⟩; exact h
  · rintro ⟨h0, h⟩
    refine ⟨?_, h0, h⟩
    have := Nat.le_of_dvd hn (Nat.dvd_of_mod_eq_zero h)
    omega
theorem nodup_divs (n : Nat) : (divs n).Nodup := List.nodup_range.filter _
theorem leastFix_iff {d : Nat} {w : List α} : leastFix d w = true ↔ fixes w d ∧ ∀ k, 0 < k → k < d → ¬ fixes w k := by
  simp only [leastFix, Bool.and_eq_true, fixB_iff, List.all_eq_true, List.mem_range, Bool.or_eq_true, beq_iff_eq, Bool.not_eq_true']
  constructor
  · rintro ⟨h, k⟩
    refine ⟨h, fun j h0 hj hf => ?_⟩
    rcases k j hj with e | e
    · omega
    · rw [fixB_iff.2 hf] at e; cases e
  · rintro ⟨h, k⟩
    refine ⟨h, fun j hj => ?_⟩
    rcases Nat.eq_zero_or_pos j with h0 | h0
    · exact .inl h0
    · right
      cases e : fixB w j with
      | false => rfl
      | true => exact absurd (fixB_iff.1 e) (k j h0 hj)
theorem least_fix {n : Nat} {w : List α} (hn : 0 < n) (hw : w.length = n) : ∃ d ∈ divs n, leastFix d w = true ∧ ∀ e ∈ divs n, leastFix e w = true → e = d := by
  obtain ⟨d, hdn, ⟨h0, hf⟩, hmin⟩ := min_ex (P := fun k => 0 < k ∧ fixes w k) n ⟨hn, hw ▸ fixes_len w⟩
  have hlf : leastFix d w = true := leastFix_iff.2 ⟨hf, fun k h1 h2 h3 => hmin k h2 ⟨h1, h3⟩⟩
  have hg : fixes w (Nat.gcd d n) := fixes_gcd d n hf (hw ▸ fixes_len w)
  have hg0 : 0 < Nat.gcd d n := Nat.gcd_pos_of_pos_left n h0
  have hgd : Nat.gcd d n ≤ d := Nat.gcd_le_left n h0
  have hge : Nat.gcd d n = d := by
    rcases Nat.lt_or_ge (Nat.gcd d n) d with h | h
    · exact absurd ⟨hg0, hg⟩ (hmin _ h)
    · omega
  have hdv : n % d = 0 := Nat.mod_eq_zero_of_dvd (by have := Nat.gcd_dvd_right d n; rwa [hge] at this)
  refine ⟨d, (mem_divs hn).2 ⟨h0, hdv⟩, hlf, fun e he hle => ?_⟩
  have he0 := ((mem_divs hn).1 he).1
  have h2 := leastFix_iff.1 hle
  rcases Nat.lt_trichotomy e d with h | h | h
  · exact absurd ⟨he0, h2.1⟩ (hmin e h)
  · exact h
  · exact absurd hf (h2.2 d h0 h)
theorem least_count {n d : Nat} (hA : A.Nodup) (hn : 0 < n) (hd : d ∈ divs n) : ((ringL A win n).filter (leastFix d)).length = (cprimL A win d).length := by
  obtain ⟨h0, hdv⟩ := (mem_divs hn).1 hd
  obtain ⟨m, hm⟩ := Nat.dvd_of_mod_eq_zero hdv
  have hmd : n = m * d := by rw [hm, Nat.mul_comm]
  have hm0 : 0 < m := by
    rcases Nat.eq_zero_or_pos m with h | h
    · subst h; omega
    · exact h
  have hdn : d ≤ n := by rw [hmd]; exact Nat.le_mul_of_pos_left d hm0
  rw [← List.length_map (f := fun w => w.take d)]
  apply List.Perm.length_eq
  have hmem : ∀ w, w ∈ (ringL A win n).filter (leastFix d) → (w.length = n ∧ (∀ a ∈ w, a ∈ A)) ∧ rings win w ∧ fixes w d ∧ ∀ k, 0 < k → k < d → ¬ fixes w k := by
    intro w hw
    have h1 := List.mem_filter.1 hw
    have h2 := (mem_ringL hn).1 h1.1
    exact ⟨h2.1, h2.2, leastFix_iff.1 h1.2⟩
  rw [List.perm_ext_iff_of_nodup]
  · intro u
    rw [List.mem_map, mem_primL h0]
    constructor
    · rintro ⟨w, hw, rfl⟩
      obtain ⟨⟨hl, hA2⟩, hr, hf, hmin⟩ := hmem w hw
      have hl2 : (w.take d).length = d := by simp; omega
      have he := fun i => exw_take h0 (show d ≤ w.length by omega) hf i
      refine ⟨⟨⟨hl2, fun a ha => hA2 a (List.mem_of_mem_take ha)⟩, (ring_congr he).2 hr⟩, fun k hk0 hk hfk => ?_⟩
      rw [hl2] at hk
      refine hmin k hk0 hk fun i => ?_
      have := hfk i
      rwa [he, he] at this
    · rintro ⟨⟨⟨hl, hA2⟩, hr⟩, hp⟩
      refine ⟨rpt m u, List.mem_filter.2 ⟨(mem_ringL hn).2 ⟨⟨by rw [rpt_len, hl, hmd], fun a ha => ?_⟩, (ring_congr fun i => exw_rpt hm0 u i).2 hr⟩, leastFix_iff.2 ⟨?_, fun k h1 h2 h3 => ?_⟩⟩, ?_⟩
      · simp only [rpt, List.mem_flatten, List.mem_replicate] at ha
        obtain ⟨l, ⟨_, rfl⟩, ha⟩ := ha
        exact hA2 a ha
      · rw [fixes_rpt hm0, ← hl]; exact fixes_len u
      · rw [fixes_rpt hm0] at h3
        exact hp k h1 (by omega) h3
      · rw [← hl]; exact rpt_take hm0
  · unfold List.Nodup
    rw [List.pairwise_map]
    refine List.Pairwise.imp_of_mem (fun {a b} ha hb hne e => hne ?_) ((nodup_ringL hA n).filter _)
    obtain ⟨⟨hla, _⟩, _, hfa, _⟩ := hmem a ha
    obtain ⟨⟨hlb, _⟩, _, hfb, _⟩ := hmem b hb
    rw [← take_rpt h0 hm0 (by rw [hla, hmd]) hfa, ← take_rpt h0 hm0 (by rw [hlb, hmd]) hfb, e]
  · exact nodup_primL hA d
/-- All closed words: for each divisor those that are no shorter ones repeated. -/
theorem count_sum {n : Nat} (hA : A.Nodup) (hn : 0 < n) : (ringL A win n).length = ((divs n).map fun d => (cprimL A win d).length).sum := by
  rw [part_len (nodup_divs n) leastFix (ringL A win n) fun w hw => least_fix hn ((mem_ringL hn).1 hw).1.1]
  congr 1
  apply List.map_congr_left
  intro d hd
  exact least_count hA hn hd
/-- Words of one ring are turns of each other. -/
theorem turn_of {r s : List α} {n c : Nat} (hn : 0 < n) (hr : r.length = n) (hs : s.length = n) (h : ∀ i, exw s i = exw r (i + c)) : s = turn (c % n) r := by
  have hc : c % n < n := Nat.mod_lt _ hn
  refine exw_inj (by rw [turn_len (by omega), hr, hs]) fun i _ => ?_
  rw [exw_turn (by omega), h]
  have h1 : exw r (i + c) = exw r ((i + c) % n) := by rw [← hr, exw_mod]
  have h2 : exw r (i + c % n) = exw r ((i + c % n) % n) := by rw [← hr, exw_mod]
  rw [h1, h2, Nat.add_mod_mod]
theorem turn_eq {r : List α} {n j k : Nat} (hr : r.length = n) (hp : isPrim r) (hj : j < n) (hk : k < n) (h : turn j r = turn k r) : j = k := by
  have key : ∀ {j k : Nat}, j < k → k < n → turn j r = turn k r → False := by
    intro j k hjk hk h
    refine hp (k - j) (by omega) (by omega) fun i => ?_
    have h1 : exw (turn j r) (i + (n - j)) = exw (turn k r) (i + (n - j)) := by rw [h]
    rw [exw_turn (by omega), exw_turn (by omega)] at h1
    have h2 := fixes_len r
    rw [hr] at h2
    rw [show i + (n - j) + j = i + n by omega, show i + (n - j) + k = i + (k - j) + n by omega, h2, h2] at h1
    exact h1.symm
  rcases Nat.lt_trichotomy j k with e | e | e
  · exact (key e hk h).elim
  · exact e
  · exact (key e hj h.symm).elim
def leastKey (key : List α → Nat) (n : Nat) (w : List α) : Bool := (List.range n).all fun k => decide (key w ≤ key (turn k w))
theorem leastKey_iff {key : List α → Nat} {n : Nat} {w : List α} : leastKey key n w = true ↔ ∀ k, k < n → key w ≤ key (turn k w) := by
  simp only [leastKey, List.all_eq_true, List.mem_range, decide_eq_true_eq]
theorem cprim_turn {n k : Nat} (hn : 0 < n) (hk : k ≤ n) {w : List α} (h : w ∈ cprimL A win n) : turn k w ∈ cprimL A win n := by
  obtain ⟨⟨⟨hl, hA⟩, hr⟩, hp⟩ := (mem_primL hn).1 h
  refine (mem_primL hn).2 ⟨⟨⟨by rw [turn_len (by omega), hl], fun a ha => ?_⟩, ring_turn (by omega) hr⟩, fun d h0 hd hf => ?_⟩
  · simp only [turn, List.mem_append] at ha
    rcases ha with ha | ha
    · exact hA a (List.mem_of_mem_drop ha)
    · exact hA a (List.mem_of_mem_take ha)
  · rw [turn_len (by omega)] at hd
    exact hp d h0 hd ((fixes_turn (by omega)).1 hf)
/-- Those that are no shorter ones repeated come in rings of n. -/
theorem count_turns {n : Nat} (hA : A.Nodup) (hn : 0 < n) {key : List α → Nat} (hk : ∀ u ∈ wordsL A n, ∀ w ∈ wordsL A n, key u = key w → u = w) : (cprimL A win n).length = n * ((cprimL A win n).filter (leastKey key n)).length := by
  have hw : ∀ {w}, w ∈ cprimL A win n → w ∈ wordsL A n := fun h => mem_wordsL.2 ((mem_primL hn).1 h).1.1
  rw [← flat_len2 (fun r => (List.range n).map fun k => turn k r) n _ (fun r _ => by simp)]
  apply List.Perm.length_eq
  rw [List.perm_ext_iff_of_nodup (nodup_primL hA n)]
  · intro x
    simp only [List.mem_flatMap, List.mem_map, List.mem_range, List.mem_filter, leastKey_iff]
    constructor
    · intro hx
      have hl := ((mem_primL hn).1 hx).1.1.1
      obtain ⟨k, hkn, hmin⟩ := arg_min (fun k => key (turn k x)) n hn
      refine ⟨turn k x, ⟨cprim_turn hn (by omega) hx, fun m hm => ?_⟩, (n - k) % n, Nat.mod_lt _ hn, ?_⟩
      · have e : turn m (turn k x) = turn ((k + m) % n) x := by
          refine turn_of hn hl (by rw [turn_len (by rw [turn_len (by omega)]; omega), turn_len (by omega), hl]) fun i => ?_
          rw [exw_turn (by rw [turn_len (by omega)]; omega), exw_turn (by omega)]
          congr 1
          omega
        rw [e]
        exact hmin _ (Nat.mod_lt _ hn)
      · symm
        refine turn_of hn (by rw [turn_len (by omega), hl]) hl fun i => ?_
        rw [exw_turn (by omega), show i + (n - k) + k = i + n by omega]
        have h2 := fixes_len x
        rw [hl] at h2
        rw [h2]
    · rintro ⟨r, ⟨hr, _⟩, k, hkn, rfl⟩
      exact cprim_turn hn (by omega) hr
  · unfold List.Nodup
    rw [List.pairwise_flatMap]
    constructor
    · intro r hr
      obtain ⟨⟨⟨hl, _⟩, _⟩, hp⟩ := (mem_primL hn).1 (List.mem_filter.1 hr).1
      rw [List.pairwise_map]
      refine List.Pairwise.imp_of_mem (fun {a b} ha hb hne e => hne ?_) List.nodup_range
      exact turn_eq hl hp (List.mem_range.1 ha) (List.mem_range.1 hb) e
    · refine List.Pairwise.imp_of_mem (fun {r s} hr hs hne x hx y hy e => hne ?_) ((nodup_primL hA n).filter _)
      simp only [List.mem_map, List.mem_range] at hx hy
      obtain ⟨j, hj, rfl⟩ := hx
      obtain ⟨k, hk2, e2⟩ := hy
      rw [← e2] at e
      have hr2 := List.mem_filter.1 hr
      have hs2 := List.mem_filter.1 hs
      have hlr := ((mem_primL hn).1 hr2.1).1.1.1
      have hls := ((mem_primL hn).1 hs2.1).1.1.1
      have key2 : ∀ {r s : List α} {j k : Nat}, r.length = n → s.length = n → j < n → k < n → turn j r = turn k s → s = turn ((j + (n - k)) % n) r := by
        intro r s j k hlr hls hj hk e
        refine turn_of hn hlr hls fun i => ?_
        have h1 : exw (turn j r) (i + (n - k)) = exw (turn k s) (i + (n - k)) := by rw [e]
        rw [exw_turn (by omega), exw_turn (by omega), show i + (n - k) + k = i + n by omega] at h1
        have h2 := fixes_len s
        rw [hls] at h2
        rw [h2] at h1
        rw [← h1]
        congr 1
        omega
      have e3 := key2 hlr hls hj hk2 e
      have e4 := key2 hls hlr hk2 hj e.symm
      have k1 := leastKey_iff.1 hr2.2 _ (Nat.mod_lt (j + (n - k)) hn)
      have k2 := leastKey_iff.1 hs2.2 _ (Nat.mod_lt (k + (n - j)) hn)
      rw [← e3] at k1
      rw [← e4] at k2
      exact hk r (hw hr2.1) s (hw hs2.1) (by omega)
end
end Go.Proofs.YtdmpokanfnlbgaaGreatDoor

namespace Go.Proofs.YtdmpokanfnlbgaaGreatDoor
open Go.RowKit
set_option linter.all false
set_option maxHeartbeats 1600000 in
theorem iZeros_any (n : Nat) (w : World) (hn : n ≤ 1048576) :
    Calls Tryz.prog 31 #[.int .i64 n] w fun e w' => ∃ v, e = .returned v ∧ OIntss w' w.heap.size v n (List.replicate n (List.replicate n 0)) ∧ Below w.heap.size w w' := by
  have hmk := make_ints n (by omega)
  go_enter Tryz.func31, Tryz.ntmps31
  go_wp2
  go_loopw [3, 6] (fun v i wr => ∃ k : Nat, k ≤ n ∧ i = .int .i64 k ∧ OIntss wr w.heap.size v k (List.replicate k (List.replicate n 0)) ∧ Below w.heap.size w wr) (fun _ i _ => n - (intOf i).toNat)
  case atStart => exact ⟨0, Nat.zero_le _, rfl, OIntss.empty w _ (Nat.le_refl _), (Below.refl _ _).alloc (Nat.le_refl _) _⟩
  case round =>
    obtain ⟨k, hk, rfl, hown, hb⟩ := hrel
    by_cases hlt : k < n
    · have Hown := Lib.hid hown
      have Hb := Lib.hid hb
      clear hown hb
      go_wp2_with (first | (at_builtin; refine wpList_push_fresh _ _ wr rfl _ _ rfl w.heap.size _ k _ rfl Hown.out (by omega) Hb.out.size ((Below.refl _ _).alloc (Nat.le_refl _) _) n _ (OInts.made wr n (by omega)) _ ?ctb rfl ?_))
      case ctb => simp
      intro v' w' hown' hbel _
      rw [rep_push] at hown'
      have hb' := Hb.out.trans hbel
      go_wp2_with fail
      go_roundw
      case rel => exact ⟨k + 1, hlt, by go_num, hown', hb'⟩
      case measure => simp [intOf]; omega
    · go_wp2
      go_ret
      have : k = n := by omega
      subst this
      exact ⟨_, rfl, hown, hb⟩
end Go.Proofs.YtdmpokanfnlbgaaGreatDoor

namespace Go.Proofs.YtdmpokanfnlbgaaGreatDoor
open Go.RowKit
set_option linter.all false
set_option maxHeartbeats 800000 in
theorem iIsMatrix_any (ao : Option Addr) (n cap : Nat) (xss : List (List Int)) (w : World) (h : Intss w ao n xss) :
    Calls Tryz.prog 39 #[.slice ao n cap] w fun e w' => e = .returned (.bool (isMat xss)) ∧ w = w' := by
  have hm := h.2.1
  have HL := Lib.hid h.1
  have H := Lib.hid h
  have hg0 : Hid (isMat xss = (tabIn n 0 1000000 xss && inR n 1 9)) := by show isMat xss = _; unfold isMat; rw [h.1]
  clear h
  by_cases h1 : n < 1
  · have hg : Hid (isMat xss = false) := by show isMat xss = _; rw [hg0.out, inR_no (.inl (by omega))]; simp
    have hd : decide ((n : Int) < 1) = true := by simp; omega
    clear H hg0
    go_enter Tryz.func39, Tryz.ntmps39
    go_wp2
    go_ret
    exact ⟨ret_bool hg.out.symm, rfl⟩
  · by_cases h9 : 9 < n
    · have hg : Hid (isMat xss = false) := by show isMat xss = _; rw [hg0.out, inR_no (.inr (by omega))]; simp
      have hd : decide ((n : Int) < 1) = false := by simp; omega
      clear H hg0
      go_enter Tryz.func39, Tryz.ntmps39
      go_wp2
      go_ret
      exact ⟨ret_bool hg.out.symm, rfl⟩
    · have hg : Hid (isMat xss = tabIn n 0 1000000 xss) := by show isMat xss = _; rw [hg0.out, inR_mk ⟨by omega, by omega⟩]; simp
      have hd : decide ((n : Int) < 1) = false := by simp; omega
      clear hg0
      go_enter Tryz.func39, Tryz.ntmps39
      go_wp2
      go_loop [17] (fun i => ∃ k : Nat, k ≤ n ∧ i = .int .i64 k ∧ Hid (tabIn n 0 1000000 (xss.drop k) = tabIn n 0 1000000 xss)) (fun i => n - (intOf i).toNat)
      case atStart => exact ⟨0, Nat.zero_le _, rfl, rfl⟩
      case round =>
        obtain ⟨k, hk, rfl, hr⟩ := hrel
        by_cases hlt : k < n
        · obtain ⟨b, o, ai, ci, r, rfl, hcell, hrow, hget⟩ := H.out.at_ hlt
          clear H
          have Hst := Lib.hid (tabIn_step hget.out hr.out)
          have Hrow := Lib.hid hrow
          clear hrow hr
          by_cases hrl : r.length = n
          · have hne : ((r.length : Int) != (n : Int)) = false := by simp [hrl]
            have hrl1 : r.length ≤ n := by omega
            have hrl2 : n ≤ r.length := by omega
            have HRL := Lib.hid hrl
            clear hrl
            go_wp2
            go_loop [28] (fun i => ∃ j : Nat, j ≤ r.length ∧ i = .int .i64 j ∧ Hid (allIn 0 1000000 (r.drop j) = allIn 0 1000000 r)) (fun i => n - (intOf i).toNat)
            case atStart => exact ⟨0, Nat.zero_le _, rfl, rfl⟩
            case round =>
              obtain ⟨j, hj, rfl, hrj⟩ := hrel
              by_cases hjr : j < r.length
              · obtain ⟨b', o', x, rfl, hcell', hget'⟩ := Hrow.out.at_ (k := j) hjr
                clear Hrow
                have Hsj := Lib.hid (allIn_step hget'.out hrj.out)
                clear hrj
                by_cases h0 : x < 0
                · have hr1 : Hid _ := Hst.out.2.1 (Hsj.out.2 (inR_no (.inl h0)))
                  clear Hst Hsj
                  have hx : decide (x < 0) = true := by simpa using h0
                  go_wp2
                  go_ret
                  exact ⟨ret_bool (by rw [hg.out, hr1.out]), rfl⟩
                · have hx : decide (x < 0) = false := by simpa using h0
                  by_cases h2 : 1000000 < x
                  · have hr1 : Hid _ := Hst.out.2.1 (Hsj.out.2 (inR_no (.inr h2)))
                    clear Hst Hsj
                    go_wp2
                    go_ret
                    exact ⟨ret_bool (by rw [hg.out, hr1.out]), rfl⟩
                  · have hr1 : Hid _ := Hsj.out.1 (inR_mk ⟨by omega, by omega⟩)
                    clear Hst Hsj
                    go_wp2
                    go_round
                    case rel => exact ⟨j + 1, hjr, by go_num, hr1⟩
                    case measure => simp [intOf]; omega
              · have hr1 : Hid _ := Hst.out.2.2 HRL.out (by have := hrj.out; rw [drop_all r j (by omega)] at this; exact this.symm)
                clear Hst hrj Hrow
                go_wp2
                go_round
                case rel => exact ⟨k + 1, hlt, by go_num, hr1⟩
                case measure => simp [intOf]; omega
          · have hne : ((r.length : Int) != (n : Int)) = true := by simp; omega
            have hr1 : Hid _ := Hst.out.1 hrl
            clear Hst hrl
            go_wp2
            go_ret
            exact ⟨ret_bool (by rw [hg.out, hr1.out]), rfl⟩
        · rw [drop_all xss k (by have := HL.out; omega)] at hr
          have hr1 : Hid _ := hr.out.symm
          clear hr H
          go_wp2
          go_ret
          exact ⟨ret_bool (by rw [hg.out, hr1.out]; rfl), rfl⟩
end Go.Proofs.YtdmpokanfnlbgaaGreatDoor

namespace Go.Proofs.YtdmpokanfnlbgaaGreatDoor
open Go.RowKit
set_option linter.all false
set_option maxHeartbeats 1600000 in
theorem sL4One_any (n : Nat) (w : World) (hn : n ≤ 1048576) :
    Calls Tryz.prog 69 #[.int .i64 n] w fun e w' => ∃ v, e = .returned v ∧ OIntss w' w.heap.size v n (oneT n) ∧ Below w.heap.size w w' := by
  go_enter Tryz.func69, Tryz.ntmps69
  go_wp2_with fail
  refine (sL4Zero_any n n _ hn hn).mono ?_
  rintro e w1 ⟨v, rfl, hown, hb⟩
  go_wp2_with fail
  go_loopw [4] (fun i wr => ∃ k : Nat, k ≤ n ∧ i = .int .i64 k ∧ OIntss wr w.heap.size v n ((oneT n).take k ++ List.replicate (n - k) (List.replicate n 0)) ∧ Below w.heap.size w wr) (fun i _ => n - (intOf i).toNat)
  case atStart => exact ⟨0, Nat.zero_le _, rfl, by rw [fill_start]; exact hown, hb⟩
  case round =>
    obtain ⟨k, hk, rfl, hown, hb⟩ := hrel
    by_cases hlt : k < n
    · rw [fill_open hlt] at hown
      obtain ⟨g, cap, rfl⟩ := hown.head (by omega)
      have hAl : ((oneT n).take k).length = k := take_len (by rw [oneT_len]; omega)
      obtain ⟨gk, ck, hc, ho, hne, hlo⟩ := hown.rowAt (at_mid hAl) (by simp; omega)
      have hset := hown.setIn (at_mid hAl) hc ho k 1
      rw [set_mid hAl] at hset
      have hset' := (congrArg (OIntss _ w.heap.size _ n) (fill_shut (oneT_get hlt))) ▸ hset
      have hc0 := ho.cell k (by simp; omega)
      have hf0 := ho.frozen k
      have hb' := hb.setCell (p := ⟨gk, k, none⟩) hlo (.int .i64 1)
      simp only [List.length_replicate] at hc hc0
      clear hown ho hset hb hAl
      go_wp2_with fail
      go_roundw
      case rel => exact ⟨k + 1, hlt, by go_num, hset', hb'⟩
      case measure => simp [intOf]; omega
    · go_wp2_with fail
      go_ret
      have : k = n := by omega
      subst this
      rw [fill_end (oneT_len k)] at hown
      exact ⟨_, rfl, hown, hb⟩
end Go.Proofs.YtdmpokanfnlbgaaGreatDoor

namespace Go.Proofs.YtdmpokanfnlbgaaGreatDoor
open Go.RowKit
set_option linter.all false
set_option maxHeartbeats 1600000 in
theorem iUnit_any (n : Nat) (w : World) (hn : n ≤ 1048576) :
    Calls Tryz.prog 67 #[.int .i64 n] w fun e w' => ∃ v, e = .returned v ∧ OIntss w' w.heap.size v n (oneT n) ∧ Below w.heap.size w w' := by
  go_enter Tryz.func67, Tryz.ntmps67
  go_wp2_with fail
  refine (iZeros_any n _ hn).mono ?_
  rintro e w1 ⟨v, rfl, hown, hb⟩
  obtain ⟨ao, cap, rfl, _⟩ := hown.form
  go_wp2_with fail
  go_loopw [9] (fun i wr => ∃ k : Nat, k ≤ n ∧ i = .int .i64 k ∧ OIntss wr w.heap.size (.slice ao n cap) n ((oneT n).take k ++ List.replicate (n - k) (List.replicate n 0)) ∧ Below w.heap.size w wr) (fun i _ => n - (intOf i).toNat)
  case atStart => exact ⟨0, Nat.zero_le _, rfl, by rw [fill_start]; exact hown, hb⟩
  case round =>
    obtain ⟨k, hk, rfl, hown, hb⟩ := hrel
    by_cases hlt : k < n
    · rw [fill_open hlt] at hown
      obtain ⟨g, cap', e⟩ := hown.head (by omega)
      injection e with e1 e2 e3
      subst e1
      clear e2 e3 cap'
      have hAl : ((oneT n).take k).length = k := take_len (by rw [oneT_len]; omega)
      obtain ⟨gk, ck, hc, ho, hne, hlo⟩ := hown.rowAt (at_mid hAl) (by simp; omega)
      have hset := hown.setIn (at_mid hAl) hc ho k 1
      rw [set_mid hAl] at hset
      have hset' := (congrArg (OIntss _ w.heap.size _ n) (fill_shut (oneT_get hlt))) ▸ hset
      have hc0 := ho.cell k (by simp; omega)
      have hf0 := ho.frozen k
      have hb' := hb.setCell (p := ⟨gk, k, none⟩) hlo (.int .i64 1)
      simp only [List.length_replicate] at hc hc0
      clear hown ho hset hb hAl
      go_wp2_with fail
      go_roundw
      case rel => exact ⟨k + 1, hlt, by go_num, hset', hb'⟩
      case measure => simp [intOf]; omega
    · go_wp2_with fail
      go_ret
      have : k = n := by omega
      subst this
      rw [fill_end (oneT_len k)] at hown
      exact ⟨_, rfl, hown, hb⟩
end Go.Proofs.YtdmpokanfnlbgaaGreatDoor

namespace Go.Proofs.YtdmpokanfnlbgaaGreatDoor
open Go.RowKit
set_option linter.all false
/-- The library's table of powers of 10 is as it was laid. -/
def PowV (w : World) : Prop := Lib.TabIs Tryz.prog w "internal/strconv.uint64pow10" .u64 Lib.pow10Tab
theorem PowV.keep {w w' : World} (h : PowV w) (hb : Below w.heap.size w w') : PowV w' := by
  have hgn : (Tryz.prog).globalNamed "internal/strconv.uint64pow10" = some 1 := by kernel_rfl
  unfold PowV Lib.TabIs World.var? at h ⊢
  rw [hgn] at h ⊢
  simp only [Option.bind_some] at h ⊢
  have hlt : 1 < w.heap.size := by
    rcases Nat.lt_or_ge 1 w.heap.size with h' | h'
    · exact h'
    · rw [Array.getElem?_eq_none h'] at h; cases h
  rw [hb.block _ hlt]
  exact h
theorem powV_of {w : World} {l : List (String × DataW Unit)} (hn : (l.all fun x => x.2.handleName?.isNone) = true) (hm : ("internal/strconv.uint64pow10", Lib.tabData .u64 Lib.pow10Tab) ∈ l) (h : laidMetH Tryz.prog l w) : PowV w := by
  rw [MakeChecks.laidMetH_plain _ _ _ hn] at h
  obtain ⟨g', t', cs, fuel, p, hg', ht', hvar, hd⟩ := Lib.laidMet.reads h hm
  have hgn : (Tryz.prog).globalNamed "internal/strconv.uint64pow10" = some 1 := by kernel_rfl
  obtain rfl := Option.some.inj (hgn.symm.trans hg')
  unfold PowV Lib.TabIs
  have hty : (((Tryz.prog).globals[1]?).map (·.type)) = some 107 := by kernel_rfl
  obtain rfl := Option.some.inj (hty.symm.trans ht')
  rw [hvar, ← Lib.cells_of_tab Tryz.underlying107 Tryz.underlying100 (by kernel_rfl) (by kernel_rfl) hd]
theorem iFormat_any (u : Nat) (w : World) (hu : u ≤ 9223372036854775807) (ht : PowV w) :
    Calls Tryz.prog 49 #[.int .i64 u] w fun e w' => e = .returned (.string (decB u)) ∧ Below w.heap.size w w' := by
  have hc := Tryz.strconv_Itoa (u : Int) (by omega) (by omega) w ht
  rw [Lib.itoa_nonneg] at hc
  have HC := Lib.hid hc
  clear hc ht
  go_enter Tryz.func49, Tryz.ntmps49
  go_wp2_with (go_at_call 77; refine HC.out.mono ?_; rintro e w' ⟨rfl, k, os, rfl⟩)
  go_ret
  exact ⟨rfl, Lib.below_grow _ _ (Nat.le_refl _) _ _⟩
end Go.Proofs.YtdmpokanfnlbgaaGreatDoor

namespace Go.Proofs.YtdmpokanfnlbgaaGreatDoor
open Go.RowKit
set_option linter.all false
def wdB (k : Nat) : Nat → Nat → List UInt8
  | 0, _ => []
  | n + 1, i => wdB k n (i / k) ++ [97 + UInt8.ofNat (i % k)]
def wordN (k n i : Nat) : ByteArray := ⟨(wdB k n i).toArray⟩
def allW (k n : Nat) : List ByteArray := (List.range (k ^ n)).map (wordN k n)
theorem wdB_len (k : Nat) : ∀ n i, (wdB k n i).length = n
  | 0, _ => rfl
  | n + 1, i => by rw [wdB, List.length_append, wdB_len k n]; rfl
theorem wordN_size (k n i : Nat) : (wordN k n i).size = n := by
  have h := wdB_len k n i
  simpa [wordN, ByteArray.size] using h
theorem allW_len (k n : Nat) : (allW k n).length = k ^ n := by simp [allW]
theorem allW_get {k n i : Nat} (h : i < k ^ n) : (allW k n)[i]? = some (wordN k n i) := by simp [allW, h]
theorem allW_zero (k : Nat) : allW k 0 = [⟨#[]⟩] := by simp [allW, wordN, wdB]
theorem abc_at {x : Nat} (h : x < 3) : (⟨#[97, 98, 99]⟩ : ByteArray).extract x (x + 1) = ⟨#[97 + UInt8.ofNat x]⟩ := by
  have h3 : x = 0 ∨ x = 1 ∨ x = 2 := by omega
  rcases h3 with rfl | rfl | rfl <;> decide +kernel
theorem word_snoc {k n j x : Nat} (hx : x < k) : wordN k (n + 1) (j * k + x) = wordN k n j ++ (⟨#[97 + UInt8.ofNat x]⟩ : ByteArray) := by
  have e1 : (j * k + x) / k = j := by
    rw [Nat.mul_comm, Nat.mul_add_div (by omega), Nat.div_eq_of_lt hx, Nat.add_zero]
  have e2 : (j * k + x) % k = x := by
    rw [Nat.mul_comm, Nat.mul_add_mod, Nat.mod_eq_of_lt hx]
  unfold wordN
  rw [wdB, e1, e2]
  apply ByteArray.ext
  simp
theorem pow_le_of {k n : Nat} (hk : k ≤ 3) (hn : n ≤ 8) : k ^ n ≤ 6561 :=
  Nat.le_trans (Nat.pow_le_pow_left hk n) (Nat.le_trans (Nat.pow_le_pow_right (by omega) hn) (by decide))
theorem idx_lt {k n j x : Nat} (hj : j < k ^ n) (hx : x < k) : j * k + x < k ^ (n + 1) := by
  rw [Nat.pow_succ]
  have h1 : (j + 1) * k ≤ k ^ n * k := Nat.mul_le_mul_right k hj
  rw [Nat.add_mul, Nat.one_mul] at h1
  omega
/-- What is still to be written of a word, its end first. -/
theorem wdB_step {k t i : Nat} {S R : List UInt8} (h : wdB k (t + 1) i ++ S = R) : wdB k t (i / k) ++ ([97 + UInt8.ofNat (i % k)] ++ S) = R := by
  rw [← h, wdB]
  simp
theorem wdB_bytes {k : Nat} (hk : 1 ≤ k) (hk3 : k ≤ 3) : ∀ n i, ∀ b ∈ wdB k n i, 97 ≤ b.toNat ∧ b.toNat < 97 + k
  | 0, _ => by simp [wdB]
  | n + 1, i => by
    intro b hb
    rw [wdB] at hb
    rcases List.mem_append.1 hb with hb | hb
    · exact wdB_bytes hk hk3 n _ b hb
    · simp at hb
      subst hb
      have hm : i % k < k := Nat.mod_lt _ (by omega)
      have h3 : i % k = 0 ∨ i % k = 1 ∨ i % k = 2 := by omega
      rcases h3 with h | h | h <;> rw [h] at hm ⊢ <;> refine ⟨by decide, ?_⟩
      · show (97 : Nat) < _; omega
      · show (98 : Nat) < _; omega
      · show (99 : Nat) < _; omega
theorem bl_list {s : ByteArray} {j : Nat} (h : j < s.size) : ∃ b, s.data.toList[j]? = some b ∧ bl s j = b.toNat := by
  have hl : j < s.data.toList.length := by rw [Array.length_toList]; exact h
  refine ⟨s.data.toList[j], List.getElem?_eq_getElem hl, ?_⟩
  rw [bl_get h]
  congr 1
theorem okW_of {k : Int} {s : ByteArray} : ∀ (m i : Nat), (∀ j, i ≤ j → j < i + m → 97 ≤ bl s j ∧ (bl s j : Int) - 97 < k) → okW k s i m = true
  | 0, _, _ => rfl
  | m + 1, i, h => by
    have h0 := h i (Nat.le_refl _) (by omega)
    have hr := okW_of m (i + 1) (fun j h1 h2 => h j (by omega) (by omega))
    simp [okW, h0.1, h0.2, hr]
theorem isWd_word {k n i : Nat} (hk : 1 ≤ k) (hk3 : k ≤ 3) (hn : n ≤ 16) : isWd k (wordN k n i) = true := by
  have hs := wordN_size k n i
  have h1 : inR (k : Int) 1 3 = true := inR_mk ⟨by omega, by omega⟩
  have h2 : okW k (wordN k n i) 0 (wordN k n i).size = true := by
    refine okW_of _ _ fun j _ hj => ?_
    obtain ⟨b, hb, e⟩ := bl_list (s := wordN k n i) (j := j) (by omega)
    have hm : b ∈ wdB k n i := by
      have h := List.mem_of_getElem? hb
      simpa [wordN] using h
    have := wdB_bytes hk hk3 n i b hm
    rw [e]
    omega
  unfold isWd
  rw [h1, h2]
  simp
  omega
end Go.Proofs.YtdmpokanfnlbgaaGreatDoor

namespace Go.Proofs.YtdmpokanfnlbgaaGreatDoor
open Go.RowKit
set_option linter.all false
def hasT (P : List ByteArray) (x : ByteArray) : Bool := P.any fun p => p.toList == x.toList
theorem any_step {α : Type} {f : α → Bool} {P : List α} {p : α} {k : Nat} {b : Bool} (hp : P[k]? = some p) (h : (P.drop k).any f = b) :
    (f p = true → b = true) ∧ (f p = false → (P.drop (k + 1)).any f = b) := by
  rw [drop_of_get hp, List.any_cons] at h
  exact ⟨fun e => by rw [e] at h; exact h.symm, fun e => by rw [e] at h; exact h⟩
theorem any_end {α : Type} {f : α → Bool} {P : List α} {k : Nat} {b : Bool} (hk : P.length ≤ k) (h : (P.drop k).any f = b) : b = false := by
  rw [List.drop_eq_nil_of_le hk] at h
  exact h.symm
def goP (F : List ByteArray) (x : ByteArray) (beh : Bool) (p : ByteArray) : Bool :=
  if beh then (bl p 0 == bl x 1) && avB F (x ++ p.extract 1 p.size) else (bl p 1 == bl x 0) && avB F (p ++ x.extract 1 x.size)
def goesB (F P : List ByteArray) (x : ByteArray) (beh : Bool) : Bool := P.any (goP F x beh)
def okP (F P : List ByteArray) (x : ByteArray) : Bool := goesB F P x true && goesB F P x false
def pairsF (F : List ByteArray) : Nat → List ByteArray → List ByteArray
  | 0, P => P
  | f + 1, P => if (P.filter (okP F P)).length = P.length then P else pairsF F f (P.filter (okP F P))
def pairsS (K : Nat) (F : List ByteArray) : List ByteArray := pairsF F 10 ((allW K 2).filter (avB F))
theorem pairsF_step {F P R : List ByteArray} {f : Nat} (h : pairsF F f P = R) (hf : P.length < f) :
    ((P.filter (okP F P)).length = P.length → P = R) ∧ ((P.filter (okP F P)).length ≠ P.length → pairsF F (f - 1) (P.filter (okP F P)) = R ∧ (P.filter (okP F P)).length < f - 1) := by
  obtain ⟨g, rfl⟩ : ∃ g, f = g + 1 := ⟨f - 1, by omega⟩
  rw [pairsF] at h
  refine ⟨fun e => ?_, fun e => ?_⟩
  · rw [if_pos e] at h; exact h
  · rw [if_neg e] at h
    have := List.length_filter_le (okP F P) P
    exact ⟨h, by omega⟩
theorem pairsF_sub {F : List ByteArray} : ∀ {f : Nat} {P : List ByteArray} {x : ByteArray}, x ∈ pairsF F f P → x ∈ P
  | 0, _, _, h => h
  | f + 1, P, x, h => by
    rw [pairsF] at h
    split at h
    · exact h
    · exact (List.mem_filter.1 (pairsF_sub h)).1
theorem allW_mem {K n : Nat} {s : ByteArray} (h : s ∈ allW K n) : ∃ i, i < K ^ n ∧ s = wordN K n i := by
  simp only [allW, List.mem_map, List.mem_range] at h
  obtain ⟨i, hi, rfl⟩ := h
  exact ⟨i, hi, rfl⟩
theorem pairs_size {K : Nat} {F : List ByteArray} {x : ByteArray} (h : x ∈ pairsS K F) : x.size = 2 := by
  obtain ⟨i, _, rfl⟩ := allW_mem (List.mem_filter.1 (pairsF_sub h)).1
  exact wordN_size K 2 i
theorem words2_len {K : Nat} {F : List ByteArray} (hK : K ≤ 3) : ((allW K 2).filter (avB F)).length ≤ 9 := by
  refine Nat.le_trans (List.length_filter_le _ _) ?_
  rw [allW_len]
  have : K ^ 2 ≤ 3 ^ 2 := Nat.pow_le_pow_left hK 2
  omega
theorem pairsF_len {F : List ByteArray} : ∀ {f : Nat} {P : List ByteArray}, (pairsF F f P).length ≤ P.length
  | 0, _ => Nat.le_refl _
  | f + 1, P => by
    rw [pairsF]
    split
    · exact Nat.le_refl _
    · exact Nat.le_trans pairsF_len (List.length_filter_le _ _)
theorem pairs_len {K : Nat} {F : List ByteArray} (hK : K ≤ 3) : (pairsS K F).length ≤ 9 := Nat.le_trans pairsF_len (words2_len hK)
def inL (F P : List ByteArray) (s : ByteArray) : Bool :=
  (!P.isEmpty && avB F s) && (if 2 ≤ s.size then hasT P (s.extract 0 2) && hasT P (s.extract (s.size - 2) s.size) else P.any fun p => occ p s)
def lang (K : Int) (F : List ByteArray) (n : Int) : List ByteArray := if isSh K F && inR n 0 6 then (allW K.toNat n.toNat).filter (inL F (pairsS K.toNat F)) else []
theorem lang_mem {K : Int} {F : List ByteArray} {n : Int} {s : ByteArray} (h : s ∈ lang K F n) : (isSh K F = true ∧ (0 ≤ n ∧ n ≤ 6)) ∧ s ∈ allW K.toNat n.toNat ∧ inL F (pairsS K.toNat F) s = true := by
  unfold lang at h
  split at h
  · rename_i e
    simp only [Bool.and_eq_true] at e
    have := List.mem_filter.1 h
    exact ⟨⟨e.1, inR_true e.2⟩, this⟩
  · simp at h
theorem lang_size {K : Int} {F : List ByteArray} {n : Int} {s : ByteArray} (h : s ∈ lang K F n) : (s.size : Int) = n := by
  obtain ⟨⟨_, h0⟩, h1, _⟩ := lang_mem h
  obtain ⟨i, _, rfl⟩ := allW_mem h1
  rw [wordN_size]
  omega
theorem lang_wd {K : Int} {F : List ByteArray} {n : Int} {s : ByteArray} (h : s ∈ lang K F n) : isWd K s = true := by
  obtain ⟨⟨hs, h0⟩, h1, _⟩ := lang_mem h
  have hg := (isSh_get hs).1
  obtain ⟨i, _, rfl⟩ := allW_mem h1
  have := isWd_word (k := K.toNat) (n := n.toNat) (i := i) (by omega) (by omega) (by omega)
  rwa [Int.toNat_of_nonneg (by omega)] at this
theorem lang_len {K : Int} {F : List ByteArray} {n : Int} : (lang K F n).length ≤ 3 ^ n.toNat := by
  unfold lang
  split
  · rename_i e
    simp only [Bool.and_eq_true] at e
    have hg := (isSh_get e.1).1
    refine Nat.le_trans (List.length_filter_le _ _) ?_
    rw [allW_len]
    exact Nat.pow_le_pow_left (by omega) _
  · simp
def adj (F : List ByteArray) (x y : ByteArray) : Bool := (bl x 1 == bl y 0) && avB F (x ++ y.extract 1 y.size)
def adjI (F : List ByteArray) (x y : ByteArray) : Int := if adj F x y then 1 else 0
def adjRow (F S : List ByteArray) (x : ByteArray) : List Int := S.map (adjI F x)
def graphL (F S : List ByteArray) : List (List Int) := S.map (adjRow F S)
theorem adjRow_len (F S : List ByteArray) (x : ByteArray) : (adjRow F S x).length = S.length := by simp [adjRow]
theorem graphL_len (F S : List ByteArray) : (graphL F S).length = S.length := by simp [graphL]
theorem adjRow_get {F S : List ByteArray} {x y : ByteArray} {j : Nat} (h : S[j]? = some y) : (adjRow F S x)[j]? = some (adjI F x y) := by simp [adjRow, h]
theorem graphL_get {F S : List ByteArray} {x : ByteArray} {i : Nat} (h : S[i]? = some x) : (graphL F S)[i]? = some (adjRow F S x) := by simp [graphL, h]
end Go.Proofs.YtdmpokanfnlbgaaGreatDoor

namespace Go.Proofs.YtdmpokanfnlbgaaGreatDoor
open Go.RowKit
set_option linter.all false
def fmI (x : Int) : ByteArray := ⟨(Lib.itoa x).toArray⟩
theorem fmI_nat (u : Nat) : fmI (u : Int) = decB u := by unfold fmI decB; rw [Lib.itoa_nonneg]
theorem fmI_m1 : fmI (-1) = ⟨#[45, 49]⟩ := by decide +kernel
theorem fmI_size {x : Int} (h0 : -1 ≤ x) (h1 : x ≤ 1000000) : (fmI x).size ≤ 21 := by
  have h := Lib.itoa_length_le x (by omega) (by omega)
  show ((Lib.itoa x).toArray).size ≤ 21
  simpa using h
def idxF : List ByteArray → ByteArray → Nat → Int
  | [], _, _ => -1
  | p :: r, x, k => if p.toList == x.toList then (k : Int) else idxF r x (k + 1)
theorem idxF_range : ∀ (P : List ByteArray) (x : ByteArray) (k : Nat), -1 ≤ idxF P x k ∧ idxF P x k ≤ (k : Int) + (P.length : Int)
  | [], _, k => by simp only [idxF, List.length_nil]; omega
  | p :: r, x, k => by
    rw [idxF]
    split
    · simp only [List.length_cons]; omega
    · have := idxF_range r x (k + 1)
      simp only [List.length_cons]
      omega
theorem idxF_step {P : List ByteArray} {x p : ByteArray} {k : Nat} {b : Int} (hp : P[k]? = some p) (h : idxF (P.drop k) x k = b) :
    ((p.toList == x.toList) = true → b = k) ∧ ((p.toList == x.toList) = false → idxF (P.drop (k + 1)) x (k + 1) = b) := by
  rw [drop_of_get hp, idxF] at h
  exact ⟨fun e => by rw [if_pos e] at h; exact h.symm, fun e => by rw [if_neg (by simp [e])] at h; exact h⟩
theorem idxF_end {P : List ByteArray} {x : ByteArray} {k : Nat} {b : Int} (hk : P.length ≤ k) (h : idxF (P.drop k) x k = b) : b = -1 := by
  rw [List.drop_eq_nil_of_le hk] at h
  exact h.symm
set_option maxRecDepth 20000 in
set_option maxHeartbeats 1600000 in
theorem sFormatM1_any (w : World) : Calls Tryz.prog 53 #[.int .i64 (-1)] w fun e w' => e = .returned (.string (fmI (-1))) ∧ Below w.heap.size w w' := by
  have HG := Lib.hid fmI_m1
  go_enter Tryz.func53, Tryz.ntmps53
  go_wp2_with fail
  go_loopw [0, 4] (fun x o wr => ((x = .int .i64 (-1) ∧ o = .string ⟨#[]⟩) ∨ (x = .int .i64 0 ∧ o = .string ⟨#[49]⟩)) ∧ Below w.heap.size w wr) (fun x _ _ => (-(intOf x)).toNat)
  case atStart => exact ⟨.inl ⟨rfl, rfl⟩, Below.refl _ _⟩
  case round =>
    obtain ⟨hq, hbl⟩ := hrel
    have Hbl := Lib.hid hbl
    clear hbl
    rcases hq with ⟨rfl, rfl⟩ | ⟨rfl, rfl⟩
    · have hcv := fun z => conv_one wr z 5
      go_wp2_with fail
      go_roundw
      case rel => exact ⟨.inr ⟨by rfl, by rfl⟩, step2 Hbl.out (belowA _ _)⟩
      case measure => (simp [intOf] <;> decide)
    · go_wp2_with fail
      go_ret
      rw [HG.out]
      exact ⟨rfl, Hbl.out⟩
theorem sFmtI_any (x : Int) (w : World) (h0 : -1 ≤ x) (h1 : x ≤ 1000000) : Calls Tryz.prog 53 #[.int .i64 x] w fun e w' => e = .returned (.string (fmI x)) ∧ Below w.heap.size w w' := by
  by_cases e : x = -1
  · subst e
    exact sFormatM1_any w
  · obtain ⟨u, rfl⟩ : ∃ u : Nat, x = u := ⟨x.toNat, by omega⟩
    rw [fmI_nat]
    exact sFormat_any u w (by omega)
theorem iFmtI_any (x : Int) (w : World) (h0 : -1 ≤ x) (h1 : x ≤ 1000000) (ht : PowV w) :
    Calls Tryz.prog 49 #[.int .i64 x] w fun e w' => e = .returned (.string (fmI x)) ∧ Below w.heap.size w w' := by
  have hc := Tryz.strconv_Itoa x (by omega) (by omega) w ht
  have HC := Lib.hid hc
  clear hc ht
  go_enter Tryz.func49, Tryz.ntmps49
  go_wp2_with (go_at_call 77; refine HC.out.mono ?_; rintro e w' ⟨rfl, k, os, rfl⟩)
  go_ret
  exact ⟨rfl, Lib.below_grow _ _ (Nat.le_refl _) _ _⟩
end Go.Proofs.YtdmpokanfnlbgaaGreatDoor

namespace Go.Proofs.YtdmpokanfnlbgaaGreatDoor
open Go.RowKit
set_option linter.all false
def blkOne (L : List ByteArray) (m : Nat) (s : ByteArray) : ByteArray := fmI (idxF L (s.extract 0 m) 0) ++ fmI (idxF L (s.extract 1 s.size) 0)
def blkW (K : Int) (F : List ByteArray) (n : Int) : List ByteArray :=
  if isSh K F && (inR n 1 3 && decide ((lang K F n).length ≤ 10)) then (lang K F (n + 1)).map (blkOne (lang K F n) n.toNat) else []
theorem map_step {α β : Type} {f : α → β} {M : List α} {acc R : List β} {i : Nat} {x : α} (hx : M[i]? = some x) (h : acc ++ (M.drop i).map f = R) : (acc ++ [f x]) ++ (M.drop (i + 1)).map f = R := by
  rw [drop_of_get hx, List.map_cons] at h
  rw [← h]
  simp
theorem map_end {α β : Type} {f : α → β} {M : List α} {acc R : List β} {i : Nat} (hi : M.length ≤ i) (h : acc ++ (M.drop i).map f = R) : acc = R := by
  rw [List.drop_eq_nil_of_le hi] at h
  simpa using h
theorem blk_no {K : Int} {F : List ByteArray} {n : Int} (h : isSh K F = false ∨ inR n 1 3 = false ∨ 10 < (lang K F n).length) : blkW K F n = [] := by
  rcases h with h | h | h
  · simp [blkW, h]
  · simp [blkW, h]
  · have : ¬ (lang K F n).length ≤ 10 := by omega
    simp [blkW, this]
theorem blk_yes {K : Int} {F : List ByteArray} {n : Int} (h1 : isSh K F = true) (h2 : inR n 1 3 = true) (h3 : (lang K F n).length ≤ 10) : blkW K F n = (lang K F (n + 1)).map (blkOne (lang K F n) n.toNat) := by
  simp [blkW, h1, h2, h3]
theorem idx_ok {L : List ByteArray} (h : L.length ≤ 1000) (x : ByteArray) : -1 ≤ idxF L x 0 ∧ idxF L x 0 ≤ 1000000 := by
  have := idxF_range L x 0
  omega
theorem Strs.cellAt {w : World} {b o n i : Nat} {ss : List ByteArray} {s : ByteArray} (h : Strs w (some ⟨b, o, none⟩) n ss) (hs : ss[i]? = some s) : w.cell? ⟨b, o + i, none⟩ = some (.string s) := by
  obtain ⟨b', o', e, hc⟩ := h.2.2 i s hs
  injection e with e
  injection e with e1 e2
  subst e1
  subst e2
  exact hc
end Go.Proofs.YtdmpokanfnlbgaaGreatDoor

namespace Go.Proofs.YtdmpokanfnlbgaaGreatDoor
open Go.RowKit
set_option linter.all false
set_option maxHeartbeats 800000 in
theorem sIdx_any (ao : Option Addr) (n cap : Nat) (P : List ByteArray) (x : ByteArray) (w : World) (h : Strs w ao n P) :
    Calls Tryz.prog 54 #[.slice ao n cap, .string x] w fun e w' => e = .returned (.int .i64 (idxF P x 0)) ∧ w = w' := by
  have hn := h.1
  have hm := h.2.1
  have H := Lib.hid h
  clear h
  go_enter Tryz.func54, Tryz.ntmps54
  go_wp2_with fail
  go_loop [5] (fun v => ∃ k : Nat, k ≤ n ∧ v = .int .i64 k ∧ Hid (idxF (P.drop k) x k = idxF P x 0)) (fun v => n - (intOf v).toNat)
  case atStart => exact ⟨0, Nat.zero_le _, rfl, rfl⟩
  case round =>
    obtain ⟨k, hk, rfl, hr⟩ := hrel
    by_cases hlt : k < n
    · obtain ⟨b, o, p, rfl, hc, hp⟩ := H.out.at_ hlt
      have HST := Lib.hid (idxF_step hp.out hr.out)
      clear hp hr
      cases ho : (p.toList == x.toList)
      · have HN := Lib.hid (HST.out.2 ho)
        clear HST
        go_wp2_with fail
        go_round
        case rel => exact ⟨k + 1, hlt, by go_num, HN.out⟩
        case measure => simp [intOf]; omega
      · have HN := Lib.hid (HST.out.1 ho)
        clear HST
        go_wp2_with fail
        go_ret
        exact ⟨ret_int HN.out.symm, rfl⟩
    · have HE := Lib.hid (idxF_end (by omega) hr.out)
      clear hr
      go_wp2_with fail
      go_ret
      exact ⟨ret_int HE.out.symm, rfl⟩
end Go.Proofs.YtdmpokanfnlbgaaGreatDoor

namespace Go.Proofs.YtdmpokanfnlbgaaGreatDoor
open Go.RowKit
set_option linter.all false
set_option maxHeartbeats 800000 in
theorem sHas_any (ao : Option Addr) (n cap : Nat) (P : List ByteArray) (x : ByteArray) (w : World) (h : Strs w ao n P) :
    Calls Tryz.prog 101 #[.slice ao n cap, .string x] w fun e w' => e = .returned (.bool (hasT P x)) ∧ w = w' := by
  have hn := h.1
  have hm := h.2.1
  have H := Lib.hid h
  clear h
  go_enter Tryz.func101, Tryz.ntmps101
  go_wp2_with fail
  go_loop [5] (fun v => ∃ k : Nat, k ≤ n ∧ v = .int .i64 k ∧ Hid ((P.drop k).any (fun p => p.toList == x.toList) = hasT P x)) (fun v => n - (intOf v).toNat)
  case atStart => exact ⟨0, Nat.zero_le _, rfl, rfl⟩
  case round =>
    obtain ⟨k, hk, rfl, hr⟩ := hrel
    by_cases hlt : k < n
    · obtain ⟨b, o, p, rfl, hc, hp⟩ := H.out.at_ hlt
      have HST := Lib.hid (any_step hp.out hr.out)
      clear hp hr
      cases ho : (p.toList == x.toList)
      · have HN := Lib.hid (HST.out.2 ho)
        clear HST
        go_wp2_with fail
        go_round
        case rel => exact ⟨k + 1, hlt, by go_num, HN.out⟩
        case measure => simp [intOf]; omega
      · have HN := Lib.hid (HST.out.1 ho)
        clear HST
        go_wp2_with fail
        go_ret
        exact ⟨ret_bool HN.out.symm, rfl⟩
    · have HE := Lib.hid (any_end (by omega) hr.out)
      clear hr
      go_wp2_with fail
      go_ret
      exact ⟨ret_bool HE.out.symm, rfl⟩
end Go.Proofs.YtdmpokanfnlbgaaGreatDoor

namespace Go.Proofs.YtdmpokanfnlbgaaGreatDoor
open Go.RowKit
set_option linter.all false
set_option maxRecDepth 20000 in
set_option maxHeartbeats 6400000 in
theorem sAllW_any (k n : Nat) (w : World) (hk : 1 ≤ k) (hk3 : k ≤ 3) (hn : n ≤ 8) :
    Calls Tryz.prog 80 #[.int .i64 k, .int .i64 n] w fun e w' => ∃ v, e = .returned v ∧ OStrs w' w.heap.size v (allW k n).length (allW k n) ∧ Below w.heap.size w w' := by
  have H0 := Lib.hid (OStrs.lit w w.heap.size [⟨#[]⟩] (Nat.le_refl _) (by simp))
  go_enter Tryz.func80, Tryz.ntmps80
  go_wp2_with fail
  go_loopw [5, 6] (fun v x wr => ∃ i : Nat, i ≤ n ∧ x = .int .i64 i ∧ OStrs wr w.heap.size v (k ^ i) (allW k i) ∧ Below w.heap.size w wr) (fun _ x _ => n - (intOf x).toNat)
  case atStart => exact ⟨0, Nat.zero_le _, rfl, by rw [allW_zero]; simpa using H0.out, belowA _ _⟩
  case round =>
    obtain ⟨i, hi, rfl, hown, hbl⟩ := hrel
    obtain ⟨wo, rfl⟩ : ∃ wo : World, wo = wr := ⟨_, rfl⟩
    clear H0
    by_cases hlt : i < n
    · obtain ⟨a5, c5, rfl, hi5⟩ := hown.form
      have HR := Lib.hid hi5
      have HB := Lib.hid hbl
      obtain ⟨M, hM⟩ : ∃ M, k ^ i = M := ⟨_, rfl⟩
      have HM := Lib.hid hM
      have hMb : M ≤ 6561 := by rw [← hM]; exact pow_le_of hk3 (by omega)
      rw [hM] at HR hown ⊢
      have HEm := Lib.hid (OStrs.empty wo wo.heap.size (Nat.le_refl _))
      clear hown hbl hi5 hM
      go_wp2_with fail
      go_loopw [7, 8] (fun v x wx => ∃ j q : Nat, j ≤ M ∧ q = j * k ∧ q ≤ 19683 ∧ x = .int .i64 j ∧ OStrs wx wo.heap.size v q ((allW k (i + 1)).take q) ∧ Below wo.heap.size wo wx) (fun _ x _ => M - (intOf x).toNat)
      case atStart => exact ⟨0, 0, Nat.zero_le _, by simp, Nat.zero_le _, rfl, by simpa using HEm.out, belowA _ _⟩
      case round =>
        obtain ⟨j, q, hj, hq, hqb, rfl, hown, hbl⟩ := hrel
        clear HEm
        by_cases hjt : j < M
        · obtain ⟨b, o, s, rfl, hcw, hs⟩ := HR.out.at_ hjt
          have hsj : s = wordN k i j := Option.some.inj (hs.out.symm.trans (allW_get (by rw [HM.out]; exact hjt)))
          have hss : s.size ≤ 8 := by rw [hsj, wordN_size]; omega
          have HSJ := Lib.hid hsj
          have Hcw := Lib.hid hcw
          have HO := Lib.hid hown
          have HBx := Lib.hid hbl
          have HQ := Lib.hid hq
          clear hcw hs hown hbl hsj hq
          go_wp2_with fail
          go_loopw [7, 9] (fun v x wx => ∃ y z : Nat, y ≤ k ∧ z ≤ q + y ∧ q + y ≤ z ∧ x = .int .i64 y ∧ OStrs wx wo.heap.size v z ((allW k (i + 1)).take z) ∧ Below wo.heap.size wo wx) (fun _ x _ => k - (intOf x).toNat)
          case atStart => exact ⟨0, q, Nat.zero_le _, by omega, by omega, rfl, HO.out, HBx.out⟩
          case round =>
            obtain ⟨y, z, hy, hz1, hz2, rfl, hown, hbl⟩ := hrel
            have hz : Hid (z = q + y) := by show _ = _; omega
            obtain ⟨a7, c7, rfl, _⟩ := hown.form
            by_cases hyt : y < k
            · have hx3 : y < 3 := by omega
              have hget : (allW k (i + 1))[z]? = some (s ++ (⟨#[97, 98, 99]⟩ : ByteArray).extract y (y + 1)) := by
                rw [abc_at hx3, HSJ.out, ← word_snoc hyt, hz.out, HQ.out]
                exact allW_get (idx_lt (by rw [HM.out]; exact hjt) hyt)
              have HG := Lib.hid hget
              have hc0 : wr.drew.cell? ⟨b, o + j, none⟩ = some (.string s) := (hbl.cell (World.block_lt_of_cell? wo _ Hcw.out)).trans Hcw.out
              have HO2 : Hid (OStrs wr.drew wo.heap.size (.slice a7 z c7) z ((allW k (i + 1)).take z)) := hown.drewN 1
              have HB2 : Hid (Below wo.heap.size wo wr.drew) := hbl.drew
              have hzb : z ≤ 19700 := by omega
              clear hget hown hbl
              go_wp2_with fail
              have hw1 : IntKind.i64.wrap ((y : Int) + 1) = (y : Int) + 1 := IntWalk.i64_in _ (by omega)
              have hw2 : (0 : Int) ≤ (y : Int) + 1 := by omega
              have hcs : ¬ (9223372036854775807 < s.size + (min (y + 1) 3 - y)) := by omega
              have hw4 : (y : Int) + 1 ≤ 3 := by omega
              have hw5 : (y : Int) ≤ (y : Int) + 1 := by omega
              have hw3 : ((y : Int) + 1).toNat = y + 1 := by omega
              go_region_law (first
                | (refine step_of_wp rfl (wp_push_str wr.drew _ (.tmp 28) (.tmp 38) rfl wo.heap.size _ _ _ rfl HO2.out (by omega) (by exact HB2.out.size) _ rfl rfl ?_); intro v1 w1 ho1 hb1; have HO3 := Lib.hid ho1; have HB3 := Lib.hid (HB2.out.trans hb1); clear ho1 hb1))
              all_goals (go_wp2_with fail)
              all_goals go_roundw
              all_goals first
                | (have h3 := HO3.out
                   rw [push_take HG.out] at h3
                   exact ⟨y + 1, z + 1, hyt, by omega, by omega, by go_num, h3, HB3.out⟩)
                | (simp [intOf] <;> omega)
            · have e : y = k := by omega
              subst e
              have HO3 := Lib.hid hown
              have HB3 := Lib.hid hbl
              have hqq : z = (j + 1) * y := by rw [Nat.add_mul, Nat.one_mul, hz.out, HQ.out]
              have HQQ := Lib.hid hqq
              have hzb : z ≤ 19683 := by rw [hqq]; exact Nat.le_trans (Nat.mul_le_mul (show j + 1 ≤ 6561 by omega) hk3) (by decide)
              clear hown hbl hqq
              go_wp2_with fail
              go_roundw
              case rel => exact ⟨j + 1, z, hjt, HQQ.out, hzb, by go_num, HO3.out, HB3.out⟩
              case measure => (simp [intOf] <;> omega)
        · have e : j = M := by omega
          subst e
          have he : q = k ^ (i + 1) := by rw [hq, Nat.pow_succ, HM.out]
          rw [List.take_of_length_le (by rw [allW_len, he]; exact Nat.le_refl _), he] at hown
          obtain ⟨a7, c7, rfl, _⟩ := hown.form
          have HO3 := Lib.hid (hown.mono HB.out.size)
          have HB3 := Lib.hid (HB.out.trans (hbl.mono HB.out.size))
          clear hown hbl he hq
          go_wp2_with fail
          go_roundw
          case rel => exact ⟨i + 1, hlt, by go_num, HO3.out, HB3.out⟩
          case measure => (simp [intOf] <;> omega)
    · have e : i = n := by omega
      subst e
      have HO := Lib.hid hown
      have HB := Lib.hid hbl
      clear hown hbl
      go_wp2_with fail
      go_ret
      rw [allW_len]
      exact ⟨_, rfl, HO.out, HB.out⟩
end Go.Proofs.YtdmpokanfnlbgaaGreatDoor

namespace Go.Proofs.YtdmpokanfnlbgaaGreatDoor
open Go.RowKit
set_option linter.all false
set_option maxRecDepth 20000 in
set_option maxHeartbeats 6400000 in
theorem sWordsS_any (K : Nat) (aF : Option Addr) (nF cF : Nat) (F : List ByteArray) (m : Nat) (w : World) (h : Strs w aF nF F) (hF : ∀ f ∈ F, f.size ≤ 100) (hK1 : 1 ≤ K) (hK3 : K ≤ 3) (hm8 : m ≤ 8) :
    Calls Tryz.prog 98 #[.agg #[.int .i64 K, .slice aF nF cF], .int .i64 m] w fun e w' => ∃ v, e = .returned v ∧ OStrs w' w.heap.size v ((allW K m).filter (avB F)).length ((allW K m).filter (avB F)) ∧ Below w.heap.size w w' := by
  have HB1 := Lib.hid (below1 w (.cells #[.int .i64 K, .slice aF nF cF] 30))
  have HA1 := Lib.hid (h.keep HB1.out)
  have HK1 := Lib.hid (Blk.new w 30 #[.int .i64 K, .slice aF nF cF])
  have H := Lib.hid h
  clear h
  have HBE := Lib.hid (belowA (w.alloc (.cells #[.int .i64 K, .slice aF nF cF] 30)) (.cells #[] 9))
  have HE0 := Lib.hid (OStrs.empty (w.alloc (.cells #[.int .i64 K, .slice aF nF cF] 30)) (w.alloc (.cells #[.int .i64 K, .slice aF nF cF] 30)).heap.size (Nat.le_refl _))
  have HK2 := Lib.hid (HK1.out.keep HBE.out)
  have k0 : ((w.alloc (.cells #[.int .i64 K, .slice aF nF cF] 30)).alloc (.cells #[] 9)).cell? ⟨w.heap.size, 0, none⟩ = some (.int .i64 K) := HK2.out.cell 0
  obtain ⟨R, hR⟩ : ∃ R, allW K m = R := ⟨_, rfl⟩
  have HC := fun W => sAllW_any K m W hK1 hK3 hm8
  have hLB : R.length ≤ 6561 := by rw [← hR, allW_len]; exact pow_le_of hK3 hm8
  have HSZ : Hid (∀ s ∈ R, s.size ≤ 100) := by
    show ∀ s ∈ R, _
    intro s hs
    rw [← hR] at hs
    obtain ⟨i, _, rfl⟩ := allW_mem hs
    rw [wordN_size]
    omega
  rw [hR] at HC ⊢
  have HC := Lib.hid HC
  have HZ : Hid ((w.alloc (.cells #[.int .i64 K, .slice aF nF cF] 30)).heap.size = w.heap.size + 1) := by show _ = _; simp
  clear hR HK2
  go_enter Tryz.func98, Tryz.ntmps98
  go_wp2_with fail
  generalize w.alloc (.cells #[.int .i64 K, .slice aF nF cF] 30) = w1 at HB1 HA1 HK1 HBE HE0 HZ k0 ⊢
  generalize w1.alloc (.cells #[] 9) = w2 at HBE HE0 k0 ⊢
  refine (HC.out _).mono ?_
  rintro e w4 ⟨v4, rfl, ho4, hb4⟩
  obtain ⟨a4, c4, rfl, _⟩ := ho4.form
  have HAp : Hid (Apart (.slice a4 R.length c4) (.slice (some ⟨w1.heap.size, 0, none⟩) 0 0)) := by
    show Apart _ _
    intro b hb e
    have h1 := (ho4.ownlt b hb).1
    injection e with e
    simp at e
    have h2 := HE0.out.lt.2
    omega
  have HO4 := Lib.hid (ho4.mono HBE.out.size)
  have HB4 := Lib.hid (HBE.out.trans (hb4.mono HBE.out.size))
  have HE4 := Lib.hid (HE0.out.keep hb4)
  clear ho4 hb4 k0 HE0 HBE
  go_wp2_with fail
  go_loopw [5, 7] (fun v x wr => ∃ (i : Nat) (acc : List ByteArray), i ≤ R.length ∧ acc.length ≤ i ∧ x = .int .i64 i ∧ OStrs wr w1.heap.size v acc.length acc ∧ OStrs wr w1.heap.size (.slice a4 R.length c4) R.length R ∧ Apart (.slice a4 R.length c4) v ∧ Hid (acc ++ (R.drop i).filter (avB F) = R.filter (avB F)) ∧ Below w1.heap.size w1 wr) (fun _ x _ => R.length - (intOf x).toNat)
  case atStart => exact ⟨0, [], Nat.zero_le _, Nat.le_refl _, rfl, (by have q := HE4.out; rw [HZ.out] at q ⊢; exact q), HO4.out, (by have q := HAp.out; rw [HZ.out] at q; exact q), rfl, HB4.out⟩
  case round =>
    obtain ⟨i, acc, hi, hal, rfl, hown, hst, hap, hr, hbl⟩ := hrel
    obtain ⟨a7, c7, rfl, _⟩ := hown.form
    have HO := Lib.hid hown
    have HB := Lib.hid hbl
    have HST := Lib.hid hst
    have HAP := Lib.hid hap
    have HFr := Lib.hid (HA1.out.keep hbl)
    have k1 : wr.cell? ⟨w.heap.size, 1, none⟩ = some (.slice aF nF cF) := (HK1.out.keep hbl).cell 1
    clear hown hbl hst hap HE4 HO4 HAp
    by_cases hlt : i < R.length
    · obtain ⟨b, o, s, rfl, hc, hs⟩ := HST.out.read.at_ hlt
      have HFI := Lib.hid (filt_step (p := avB F) hs.out hr.out)
      have hs100 := HSZ.out s (List.mem_of_getElem? hs.out)
      clear hs hr
      cases ha : avB F s
      · have HN := Lib.hid (HFI.out.2 ha)
        have HAV := fun W (q : Strs W aF nF F) => sAvoids_any aF nF cF F s W q hs100 hF
        rw [ha] at HAV
        have HAV := Lib.hid HAV
        clear HFI ha
        go_wp2_with fail
        go_quiet ((go_at_call 100; first | exact quiet_La (HAV.out _ (HFr.out.drewN _)) | exact quiet_L (HAV.out _ (HFr.out.drewN _))))
        go_wp2_with fail
        go_roundw
        case rel => exact ⟨i + 1, acc, hlt, by omega, by go_num, HO.out.drewN _, HST.out.drewN _, HAP.out, HN.out, below_drewN HB.out _⟩
        case measure => (simp [intOf] <;> omega)
      · have HN := Lib.hid (HFI.out.1 ha)
        have HAV := fun W (q : Strs W aF nF F) => sAvoids_any aF nF cF F s W q hs100 hF
        rw [ha] at HAV
        have HAV := Lib.hid HAV
        clear HFI ha
        go_wp2_with fail
        go_quiet ((go_at_call 100; first | exact quiet_La (HAV.out _ (HFr.out.drewN _)) | exact quiet_L (HAV.out _ (HFr.out.drewN _))))
        go_wp2_with (at_builtin; refine wpList_push_strAt (wr.drewN nq) _ rfl (.tmp 26) (.tmp 31) rfl w1.heap.size _ _ _ rfl (by exact HO.out.drewN _) (by omega) (by exact HB.out.size) _ rfl rfl ?_; intro v3 w3 ho3 hg3 hn3; have HO3 := Lib.hid ho3; have HB6 := Lib.hid ((below_drewN HB.out _).grown hg3 HB.out.size (fun b hb => (HO.out.ownlt b hb).1)); have HST3 := Lib.hid ((HST.out.drewN _).far hg3 HAP.out); have HAP3 := Lib.hid (hn3.apart HAP.out (fun b hb => (HST.out.ownlt b hb).2)); clear ho3 hg3 hn3)
        go_roundw
        case rel => exact ⟨i + 1, _, hlt, by simp; omega, by go_num, by simpa using HO3.out, HST3.out, HAP3.out, HN.out, HB6.out⟩
        case measure => (simp [intOf] <;> omega)
    · have HFI := Lib.hid (filt_end (by omega) hr.out)
      clear hr
      go_wp2_with fail
      go_ret
      rw [← HFI.out]
      exact ⟨_, rfl, HO.out.mono HB1.out.size, HB1.out.trans (HB.out.mono HB1.out.size)⟩
end Go.Proofs.YtdmpokanfnlbgaaGreatDoor

namespace Go.Proofs.YtdmpokanfnlbgaaGreatDoor
open Go.RowKit
set_option linter.all false
/- Own slices of truth values, by number. -/
theorem info_bool : (Tryz.prog.info? 4).map (fun i => (i.zero, i.size, i.bytes)) = some (some (.bool false), 1, 1) := by kernel_rfl
def OBo (w : World) (lo : Nat) (v : Value) (n : Nat) (f : Nat → Bool) : Prop := n ≤ 1099511627776 ∧ w.ownsRow lo 4 1 v n ((List.range n).map fun i => Value.bool (f i))
def upd (f : Nat → Bool) (k : Nat) (x : Bool) : Nat → Bool := fun i => if i = k then x else f i
theorem upd_list (f : Nat → Bool) (n k : Nat) (x : Bool) : ((List.range n).map fun i => Value.bool (f i)).set k (.bool x) = (List.range n).map fun i => Value.bool (upd f k x i) := by
  apply List.ext_getElem?
  intro i
  by_cases e : k = i
  · subst e
    by_cases hk : k < n
    · simp [upd, hk]
    · simp [hk]
  · have e2 : ¬ i = k := fun q => e q.symm
    rw [List.getElem?_set_ne e]
    by_cases hi : i < n
    · simp [upd, hi, e2]
    · simp [hi]
section
variable {w w' : World} {lo n : Nat} {v : Value} {f : Nat → Bool}
theorem OBo.keep (h : OBo w lo v n f) (hb : Below w.heap.size w w') : OBo w' lo v n f := ⟨h.1, own_keep h.2 hb⟩
theorem OBo.grown {row : Option Nat} (h : OBo w lo v n f) (hg : w.grownBy w' row) (hne : v.ownBlock = none ∨ v.ownBlock ≠ row) : OBo w' lo v n f := ⟨h.1, h.2.kept hg hne⟩
theorem OBo.alloc (h : OBo w lo v n f) (o : Obj) : OBo (w.alloc o) lo v n f := ⟨h.1, h.2.alloc o⟩
theorem OBo.mono {lo' : Nat} (h : OBo w lo v n f) (hl : lo' ≤ lo) : OBo w lo' v n f := by
  refine ⟨h.1, h.2.1, ?_⟩
  rcases h.2.2 with h2 | ⟨g, cap, cur, hv, hg, r⟩
  · exact .inl h2
  · exact .inr ⟨g, cap, cur, hv, Nat.le_trans hl hg, r⟩
end
section
variable {w w' : World} {lo g n cap : Nat} {f : Nat → Bool}
theorem OBo.lt (h : OBo w lo (.slice (some ⟨g, 0, none⟩) n cap) n f) : lo ≤ g ∧ g < w.heap.size := h.2.lt g rfl
theorem OBo.frozen (h : OBo w lo (.slice (some ⟨g, 0, none⟩) n cap) n f) (k : Nat) : w.frozen? ⟨g, k, none⟩ = false := h.2.frozenAt k
theorem OBo.cell (h : OBo w lo (.slice (some ⟨g, 0, none⟩) n cap) n f) {k : Nat} (hk : k < n) : w.cell? ⟨g, k, none⟩ = some (.bool (f k)) := by
  have hc := h.2.cells (g := g) rfl k (.bool (f k)) (by simp [hk])
  rw [Addr.add_lit] at hc
  simpa using hc
theorem OBo.set (h : OBo w lo (.slice (some ⟨g, 0, none⟩) n cap) n f) (k : Nat) (x : Bool) : OBo (w.setCell ⟨g, k, none⟩ (.bool x)) lo (.slice (some ⟨g, 0, none⟩) n cap) n (upd f k x) := by
  refine ⟨h.1, ?_⟩
  rw [← upd_list]
  exact (h.2.stored k _).1
theorem OBo.setFar {lo' g' n' c' : Nat} {f' : Nat → Bool} (h : OBo w lo (.slice (some ⟨g, 0, none⟩) n cap) n f) (hne : g' ≠ g) (k : Nat) (x : Value) (hx : OBo w lo' (.slice (some ⟨g', 0, none⟩) n' c') n' f') :
    OBo (w.setCell ⟨g', k, none⟩ x) lo (.slice (some ⟨g, 0, none⟩) n cap) n f := by
  have hg := (hx.2.stored k x).2
  exact h.grown hg (.inr (by simp [Value.ownBlock]; exact fun e => hne e.symm))
end
theorem OBo.made (w : World) (n : Nat) (hn : n ≤ 1099511627776) : OBo (w.alloc (.cells (madeCells #[.bool false] n) 4)) w.heap.size (.slice (some ⟨w.heap.size, 0, none⟩) n n) n (fun _ => false) := by
  refine ⟨hn, ?_⟩
  have h := World.ownsRow_lit (base := w.heap.size) (e := 4) (size := 1) w (madeCells #[.bool false] n) n (Nat.le_refl _) (by unfold maxLen; omega) (by simp [madeCells])
  rw [toList_madeCells_one] at h
  have e : (List.range n).map (fun _ => Value.bool false) = List.replicate n (.bool false) := by
    apply List.ext_getElem?
    intro i
    by_cases hi : i < n <;> simp [hi]
  rw [e]
  exact h
theorem make_bools (n : Nat) (hn : n ≤ 1099511627776) (w : World) :
    (Instr.makeSlice 89 (.int .i64 (n : Int)) (.int .i64 (n : Int))).run Tryz.prog w = .ok (.slice (some ⟨w.heap.size, 0, none⟩) n n) (w.alloc (.cells (madeCells #[.bool false] n) 4)) :=
  run_make_row' (P := Tryz.prog) 89 4 (.bool false) 1 Tryz.underlying89 info_bool rfl .i64 .i64 n (by omega) (by omega) w
end Go.Proofs.YtdmpokanfnlbgaaGreatDoor

namespace Go.Proofs.YtdmpokanfnlbgaaGreatDoor
open Go.RowKit
set_option linter.all false
def rowL (O : Nat → Bool) (i : Nat) : List Int → (Nat → Bool) × (Nat → Bool) → (Nat → Bool) × (Nat → Bool)
  | [], p => p
  | x :: r, p => rowL O i r (if O i && O x.toNat then (upd p.1 i true, upd p.2 x.toNat true) else p)
def rowsL (O : Nat → Bool) : Nat → List (List Int) → (Nat → Bool) × (Nat → Bool) → (Nat → Bool) × (Nat → Bool)
  | _, [], p => p
  | i, r :: t, p => rowsL O (i + 1) t (rowL O i r p)
def partL (O F T : Nat → Bool) (j : Nat) : Nat → Bool := fun i => if i < j then O i && F i && T i else O i
def stepF (N : List (List Int)) (n : Nat) (O : Nat → Bool) : Nat → Bool := partL O (rowsL O 0 N (fun _ => false, fun _ => false)).1 (rowsL O 0 N (fun _ => false, fun _ => false)).2 n
def livF (N : List (List Int)) (n : Nat) : Nat → (Nat → Bool) → Nat → Bool
  | 0, O => O
  | k + 1, O => livF N n k (stepF N n O)
theorem rowL_step {O : Nat → Bool} {i j : Nat} {r : List Int} {k : Nat} {F T : Nat → Bool} {Y : (Nat → Bool) × (Nat → Bool)} {G : (Nat → Bool) × (Nat → Bool) → (Nat → Bool) × (Nat → Bool)} (hk : r[j]? = some (k : Int)) (h : G (rowL O i (r.drop j) (F, T)) = Y) :
    ((O i && O k) = true → G (rowL O i (r.drop (j + 1)) (upd F i true, upd T k true)) = Y) ∧ ((O i && O k) = false → G (rowL O i (r.drop (j + 1)) (F, T)) = Y) := by
  rw [drop_of_get hk, rowL, Int.toNat_natCast] at h
  exact ⟨fun e => by rw [if_pos e] at h; exact h, fun e => by rw [if_neg (by simp [e])] at h; exact h⟩
theorem rowL_end {O : Nat → Bool} {i j : Nat} {r : List Int} {p Y : (Nat → Bool) × (Nat → Bool)} {G : (Nat → Bool) × (Nat → Bool) → (Nat → Bool) × (Nat → Bool)} (hj : r.length ≤ j) (h : G (rowL O i (r.drop j) p) = Y) : G p = Y := by
  rw [List.drop_eq_nil_of_le hj] at h
  exact h
theorem rowsL_step {O : Nat → Bool} {i : Nat} {N : List (List Int)} {r : List Int} {p Y : (Nat → Bool) × (Nat → Bool)} (hk : N[i]? = some r) (h : rowsL O i (N.drop i) p = Y) : rowsL O (i + 1) (N.drop (i + 1)) (rowL O i (r.drop 0) p) = Y := by
  rw [drop_of_get hk, rowsL] at h
  exact h
theorem rowsL_end {O : Nat → Bool} {i : Nat} {N : List (List Int)} {p Y : (Nat → Bool) × (Nat → Bool)} (hj : N.length ≤ i) (h : rowsL O i (N.drop i) p = Y) : p = Y := by
  rw [List.drop_eq_nil_of_le hj] at h
  exact h
theorem partL_zero (O F T : Nat → Bool) : partL O F T 0 = O := by funext i; simp [partL]
theorem partL_at (O F T : Nat → Bool) (j : Nat) : partL O F T j j = O j := by simp [partL]
theorem partL_step (O F T : Nat → Bool) (j : Nat) {b : Bool} (hb : b = (O j && F j && T j)) : upd (partL O F T j) j b = partL O F T (j + 1) := by
  funext i
  subst hb
  by_cases e : i = j
  · subst e
    simp [upd, partL]
  · by_cases h : i < j
    · simp [upd, partL, e, h, Nat.lt_succ_of_lt h]
    · have : ¬ i < j + 1 := by omega
      simp [upd, partL, e, h, this]
theorem true_step (k : Nat) : upd (fun i => decide (i < k)) k true = fun i => decide (i < k + 1) := by
  funext i
  by_cases e : i = k
  · subst e
    simp [upd]
  · by_cases h : i < k
    · simp [upd, e, h, Nat.lt_succ_of_lt h]
    · have : ¬ i < k + 1 := by omega
      simp [upd, e, h, this]
theorem livF_step {N : List (List Int)} {n j : Nat} {O R : Nat → Bool} (hj : j < n) (h : livF N n (n - j) O = R) : livF N n (n - (j + 1)) (stepF N n O) = R := by
  rw [show n - j = (n - (j + 1)) + 1 by omega, livF] at h
  exact h
theorem two_bools (w : World) (n : Nat) (hn : n ≤ 1099511627776) :
    OBo ((w.alloc (.cells (madeCells #[.bool false] n) 4)).alloc (.cells (madeCells #[.bool false] n) 4)) w.heap.size (.slice (some ⟨w.heap.size, 0, none⟩) n n) n (fun _ => false) ∧
    OBo ((w.alloc (.cells (madeCells #[.bool false] n) 4)).alloc (.cells (madeCells #[.bool false] n) 4)) w.heap.size (.slice (some ⟨w.heap.size + 1, 0, none⟩) n n) n (fun _ => false) ∧
    Below w.heap.size w ((w.alloc (.cells (madeCells #[.bool false] n) 4)).alloc (.cells (madeCells #[.bool false] n) 4)) := by
  refine ⟨(OBo.made w n hn).alloc _, ?_, ((Below.refl _ _).alloc (Nat.le_refl _) _).alloc (by simp) _⟩
  have h := OBo.made (w.alloc (.cells (madeCells #[.bool false] n) 4)) n hn
  have e : (w.alloc (.cells (madeCells #[.bool false] n) 4)).heap.size = w.heap.size + 1 := by simp
  rw [e] at h
  exact h.mono (Nat.le_succ _)
end Go.Proofs.YtdmpokanfnlbgaaGreatDoor

namespace Go.Proofs.YtdmpokanfnlbgaaGreatDoor
open Go.RowKit
set_option linter.all false
/- Words turned and repeated, least turns, roots: plain. -/
def repB (s : ByteArray) : Nat → ByteArray
  | 0 => ⟨#[]⟩
  | n + 1 => repB s n ++ s
theorem repB_size (s : ByteArray) : ∀ n, (repB s n).size = n * s.size
  | 0 => by rw [Nat.zero_mul]; rfl
  | n + 1 => by rw [repB, ByteArray.size_append, repB_size s n, Nat.succ_mul]
theorem notEmpty {s : ByteArray} (h : 0 < s.size) : s.toList.isEmpty = false := by
  rw [Lib.toList_data]
  cases hl : s.data.toList with
  | nil => exfalso; have := congrArg List.length hl; rw [Array.length_toList] at this; have h2 : s.data.size = s.size := rfl; rw [h2] at this; rw [this] at h; exact absurd h (by simp)
  | cons => rfl
def turnB (s : ByteArray) (i : Nat) : ByteArray := s.extract i s.size ++ s.extract 0 i
def leastF (s : ByteArray) : Nat → ByteArray
  | 0 => turnB s 0
  | k + 1 => if Op.bytesLess (turnB s (k + 1)).toList (leastF s k).toList then turnB s (k + 1) else leastF s k
def leastB (s : ByteArray) : ByteArray := leastF s (s.size - 1)
theorem turnB_size {s : ByteArray} {i : Nat} (h : i ≤ s.size) : (turnB s i).size = s.size := by
  unfold turnB
  rw [ByteArray.size_append, ByteArray.size_extract, ByteArray.size_extract]
  omega
theorem leastF_size {s : ByteArray} : ∀ {k : Nat}, k ≤ s.size → (leastF s k).size = s.size
  | 0, _ => turnB_size (Nat.zero_le _)
  | k + 1, h => by
    unfold leastF
    split
    · exact turnB_size h
    · exact leastF_size (by omega)
def rtB (s : ByteArray) (n : Nat) : Bool := decide (s.size % n = 0) && ((repB (s.extract 0 n) (s.size / n)).toList == s.toList)
def Root (s : ByteArray) (n : Nat) : Prop := 1 ≤ n ∧ n ≤ s.size ∧ rtB s n = true ∧ ∀ j, 1 ≤ j → j < n → rtB s j = false
theorem Root.uniq {s : ByteArray} {n m : Nat} (h : Root s n) (h' : Root s m) : n = m := by
  rcases Nat.lt_trichotomy n m with l | l | l
  · have := h'.2.2.2 n h.1 l; rw [h.2.2.1] at this; cases this
  · exact l
  · have := h.2.2.2 m h'.1 l; rw [h'.2.2.1] at this; cases this
theorem extract_all (s : ByteArray) : s.extract 0 s.size = s := by
  apply ByteArray.ext
  simp
theorem rtB_full {s : ByteArray} (h : 0 < s.size) : rtB s s.size = true := by
  have e : repB (s.extract 0 s.size) (s.size / s.size) = s := by
    rw [Nat.div_self h, extract_all]
    show (⟨#[]⟩ : ByteArray) ++ s = s
    apply ByteArray.ext
    simp
  unfold rtB
  rw [e]
  simp
theorem occB_iff {s p : ByteArray} : ∀ (m i : Nat), occB s p i m = true ↔ ∃ j, i ≤ j ∧ j < i + m ∧ ((s.extract j (j + p.size)).toList == p.toList) = true
  | 0, i => by
    rw [occB]
    constructor
    · intro h; cases h
    · rintro ⟨j, h1, h2, _⟩; omega
  | m + 1, i => by
    rw [occB, Bool.or_eq_true, occB_iff m (i + 1)]
    constructor
    · rintro (h | ⟨j, h1, h2, h3⟩)
      · exact ⟨i, Nat.le_refl _, by omega, h⟩
      · exact ⟨j, by omega, by omega, h3⟩
    · rintro ⟨j, h1, h2, h3⟩
      by_cases e : j = i
      · subst e; exact .inl h3
      · exact .inr ⟨j, by omega, by omega, h3⟩
theorem occ_iff {s p : ByteArray} (h0 : 0 < p.size) : occ s p = true ↔ ∃ j, j + p.size ≤ s.size ∧ Lib.occAt s.data.toList p.data.toList j = true := by
  unfold occ
  rw [occB_iff]
  constructor
  · rintro ⟨j, _, h2, h3⟩
    exact ⟨j, by omega, by rw [Lib.occ_of_piece _ _ _ (by omega)]; exact h3⟩
  · rintro ⟨j, h1, h2⟩
    exact ⟨j, Nat.zero_le _, by omega, by rw [← Lib.occ_of_piece _ _ _ h1]; exact h2⟩
theorem least_of {P : Nat → Prop} : ∀ n, P n → ∃ m, m ≤ n ∧ P m ∧ ∀ j, j < m → ¬ P j := by
  intro n
  induction n using Nat.strongRecOn with
  | _ n ih =>
    intro hn
    by_cases h : ∃ j, j < n ∧ P j
    · obtain ⟨j, hj, hp⟩ := h
      obtain ⟨m, h1, h2, h3⟩ := ih j hj hp
      exact ⟨m, by omega, h2, h3⟩
    · exact ⟨n, Nat.le_refl _, hn, fun j hj hp => h ⟨j, hj, hp⟩⟩
theorem rep_len (s : ByteArray) (k : Nat) : (repB s k).data.toList.length = k * s.size := by
  rw [Array.length_toList]; exact repB_size s k
theorem rep_get (s : ByteArray) : ∀ (k j : Nat), j < k * s.size → (repB s k).data.toList[j]? = s.data.toList[j % s.size]?
  | 0, j, h => by omega
  | k + 1, j, h => by
    have hl := rep_len s k
    have e : (repB s (k + 1)).data.toList = (repB s k).data.toList ++ s.data.toList := by rw [repB]; simp
    rw [e]
    rw [Nat.succ_mul] at h
    by_cases hj : j < k * s.size
    · rw [List.getElem?_append_left (by omega)]
      exact rep_get s k j hj
    · rw [List.getElem?_append_right (by omega), hl]
      congr 1
      rw [show j = (j - k * s.size) + s.size * k by rw [Nat.mul_comm s.size k]; omega, Nat.add_mul_mod_self_left, Nat.mod_eq_of_lt (by omega)]
      rw [Nat.mul_comm s.size k]; omega
theorem occ_move {s p : ByteArray} {a b i j : Nat} (h0 : 0 < s.size) (hi : i + p.size ≤ a * s.size) (hj : j + p.size ≤ b * s.size) (hm : i % s.size = j % s.size) :
    Lib.occAt (repB s a).data.toList p.data.toList i = Lib.occAt (repB s b).data.toList p.data.toList j := by
  have hps : p.data.toList.length = p.size := Array.length_toList
  rw [Lib.occAt_iff_take _ _ _ (by rw [rep_len]; omega), Lib.occAt_iff_take _ _ _ (by rw [rep_len]; omega)]
  congr 1
  apply List.ext_getElem?
  intro t
  by_cases ht : t < p.data.toList.length
  · rw [List.getElem?_take_of_lt ht, List.getElem?_take_of_lt ht, List.getElem?_drop, List.getElem?_drop, rep_get s a _ (by omega), rep_get s b _ (by omega)]
    congr 1
    rw [Nat.add_mod, hm, ← Nat.add_mod]
  · rw [List.getElem?_eq_none (by rw [List.length_take]; omega), List.getElem?_eq_none (by rw [List.length_take]; omega)]
/-- What occurs in five turns occurs in four. -/
theorem occ_five {s p : ByteArray} (h0 : 0 < s.size) (hp : 0 < p.size) (hp3 : p.size ≤ 3) : occ (repB s 5) p = occ (repB s 4) p := by
  have h5 := repB_size s 5
  have h4 := repB_size s 4
  rw [Bool.eq_iff_iff, occ_iff hp, occ_iff hp]
  constructor
  · rintro ⟨j, h1, h2⟩
    have hlt := Nat.mod_lt j h0
    refine ⟨j % s.size, by omega, ?_⟩
    rw [← h2]
    exact occ_move h0 (by omega) (by omega) (Nat.mod_mod _ _)
  · rintro ⟨j, h1, h2⟩
    refine ⟨j, by omega, ?_⟩
    rw [← h2]
    exact occ_move h0 (by omega) (by omega) rfl
theorem av_five {s : ByteArray} {F : List ByteArray} (h0 : 0 < s.size) (hF : ∀ f ∈ F, 0 < f.size ∧ f.size ≤ 3) : avB F (repB s 5) = avB F (repB s 4) := by
  unfold avB
  induction F with
  | nil => rfl
  | cons f F ih =>
    rw [List.all_cons, List.all_cons, ih (fun g hg => hF g (List.mem_cons_of_mem _ hg)), occ_five h0 (hF f (List.mem_cons_self ..)).1 (hF f (List.mem_cons_self ..)).2]
def primB (s : ByteArray) : Bool := (List.range s.size).all fun j => j == 0 || !rtB s j
theorem prim_root {s : ByteArray} {n : Nat} (h : Root s n) : ((s.extract 0 n).toList == s.toList) = primB s := by
  obtain ⟨h1, h2, h3, h4⟩ := h
  by_cases e : n = s.size
  · subst e
    rw [extract_all]
    have : primB s = true := by
      unfold primB
      rw [List.all_eq_true]
      intro j hj
      have hj := List.mem_range.1 hj
      by_cases j0 : j = 0
      · simp [j0]
      · rw [h4 j (by omega) hj]; simp
    rw [this]; simp
  · have hp : primB s = false := by
      cases hb : primB s
      · rfl
      · unfold primB at hb
        rw [List.all_eq_true] at hb
        have := hb n (List.mem_range.2 (by omega))
        rw [h3] at this
        simp at this; omega
    rw [hp]
    cases hq : ((s.extract 0 n).toList == s.toList)
    · rfl
    · exfalso
      have hl := congrArg List.length (beq_iff_eq.1 hq)
      rw [Lib.toList_data, Lib.toList_data, Array.length_toList, Array.length_toList] at hl
      have e1 : (s.extract 0 n).data.size = (s.extract 0 n).size := rfl
      have e2 : s.data.size = s.size := rfl
      rw [e1, e2, ByteArray.size_extract] at hl
      omega
def orbP (F : List ByteArray) (s : ByteArray) : Bool := ((leastB s).toList == s.toList) && (primB s && avB F (repB s 5))
def orbWV (K : Int) (F : List ByteArray) (n : Int) : List ByteArray := if isSh K F && inR n 1 6 then (allW K.toNat n.toNat).filter (orbP F) else []
end Go.Proofs.YtdmpokanfnlbgaaGreatDoor

namespace Go.Proofs.YtdmpokanfnlbgaaGreatDoor
open Go.RowKit
set_option linter.all false
/- Words that avoid forbidden ones. -/
def MaxM (w : World) : Prop := ∃ m, w.cell? ⟨0, 0, none⟩ = some (.int .i64 m)
theorem maxM_of {w : World} (h : w.ShapedOpen Tryz.prog) : MaxM w := Tryz.laysM144.s1_3 w h
theorem MaxM.keep {w w' : World} (h : MaxM w) (hb : Below w.heap.size w w') : MaxM w' := by
  obtain ⟨m, h⟩ := h
  exact ⟨m, (hb.cell (World.block_lt_of_cell? w _ h)).trans h⟩
theorem occ_contains (s p : ByteArray) (h0 : 0 < p.size) : occ s p = Lib.contains s.data.toList p.data.toList := by
  have hps : p.data.toList.length = p.size := Array.length_toList
  have hss : s.data.toList.length = s.size := Array.length_toList
  unfold Lib.contains
  cases h : occ s p
  · have hn : Lib.index s.data.toList p.data.toList = -1 := by
      refine Lib.index_none fun j hj => ?_
      cases hq : Lib.occAt s.data.toList p.data.toList j
      · rfl
      · rcases Lib.occAt_room hq with h1 | h1
        · have := (occ_iff h0).2 ⟨j, by omega, hq⟩
          rw [h] at this; cases this
        · rw [h1] at hps; simp at hps; omega
    rw [hn]; rfl
  · obtain ⟨j, h1, h2⟩ := (occ_iff h0).1 h
    obtain ⟨m, h3, h4, h5⟩ := least_of (P := fun j => Lib.occAt s.data.toList p.data.toList j = true) j h2
    have hi := Lib.index_first (s := s.data.toList) (sub := p.data.toList) (i := m) (by omega) h4 (fun j hj => by simpa using h5 j hj)
    rw [hi]; symm; simp
set_option maxHeartbeats 800000 in
theorem iAvoids_any (K : Int) (ao : Option Addr) (n cap : Nat) (F : List ByteArray) (s : ByteArray) (w : World) (h : Strs w ao n F) (hs : s.size ≤ 100) (hF : ∀ f ∈ F, 0 < f.size ∧ f.size ≤ 100) (hm : MaxM w) :
    Calls Tryz.prog 93 #[.agg #[.int .i64 K, .slice ao n cap], .string s] w fun e w' => e = .returned (.bool (avB F s)) ∧ Below w.heap.size w w' := by
  have hn := h.1
  have hm1 := h.2.1
  have HB := Lib.hid (below1 w (.cells #[.int .i64 K, .slice ao n cap] 30))
  have H := Lib.hid (h.keep HB.out)
  have HK := Blk.new w 30 #[.int .i64 K, .slice ao n cap]
  have k1 : (w.alloc (.cells #[.int .i64 K, .slice ao n cap] 30)).cell? ⟨w.heap.size, 1, none⟩ = some (.slice ao n cap) := HK.cell 1
  obtain ⟨mx, hmx⟩ := hm.keep HB.out
  have HX := Lib.hid hmx
  clear h hm HK hmx
  go_enter Tryz.func93, Tryz.ntmps93
  go_wp2_with fail
  generalize w.alloc (.cells #[.int .i64 K, .slice ao n cap] 30) = w1 at HB H k1 HX ⊢
  clear k1
  go_loop [10] (fun x => ∃ k : Nat, k ≤ n ∧ x = .int .i64 k ∧ Hid ((F.drop k).all (fun f => !occ s f) = avB F s)) (fun x => n - (intOf x).toNat)
  case atStart => exact ⟨0, Nat.zero_le _, rfl, rfl⟩
  case round =>
    obtain ⟨k, hk, rfl, hr⟩ := hrel
    by_cases hlt : k < n
    · obtain ⟨b, o, f, rfl, hc, hf⟩ := H.out.at_ hlt
      have HST := Lib.hid (av_step hf.out hr.out)
      have hfs := hF f (List.mem_of_getElem? hf.out)
      have HOC := Lib.hid (occ_contains s f hfs.1)
      clear hf hr
      cases ho : occ s f
      · have HN := Lib.hid (HST.out.2 ho)
        have HO : Hid (Lib.contains s.data.toList f.data.toList = false) := by show _ = _; rw [← HOC.out]; exact ho
        clear HST ho
        go_wp2_with (go_at_call 96; refine (Tryz.strings_Contains s f mx _ (by omega) HX.out).mono ?_; rw [HO.out]; rintro e w' ⟨rfl, rfl⟩)
        go_round
        case rel => exact ⟨k + 1, hlt, by go_num, HN.out⟩
        case measure => simp [intOf]; omega
      · have HN := Lib.hid (HST.out.1 ho)
        have HO : Hid (Lib.contains s.data.toList f.data.toList = true) := by show _ = _; rw [← HOC.out]; exact ho
        clear HST ho
        go_wp2_with (go_at_call 96; refine (Tryz.strings_Contains s f mx _ (by omega) HX.out).mono ?_; rw [HO.out]; rintro e w' ⟨rfl, rfl⟩)
        go_ret
        exact ⟨ret_bool HN.out.symm, HB.out⟩
    · have HE : Hid (avB F s = true) := by
        show _ = _
        rw [← hr.out, List.drop_eq_nil_of_le (by omega)]
        rfl
      clear hr
      go_wp2_with fail
      go_ret
      exact ⟨ret_bool HE.out.symm, HB.out⟩
end Go.Proofs.YtdmpokanfnlbgaaGreatDoor

namespace Go.Proofs.YtdmpokanfnlbgaaGreatDoor
open Go.RowKit
set_option linter.all false
/- Has of a shift (impl). -/
def hasI (F P : List ByteArray) (s : ByteArray) : Bool :=
  if s.size < 2 then P.any (fun u => occ u s) else avB F s && (hasT P (s.extract 0 2) && hasT P (s.extract (s.size - 2) s.size))
theorem or_step {α : Type} {f : α → Bool} {P : List α} {x : α} {k : Nat} {b r : Bool} (hx : P[k]? = some x) (h : (b || (P.drop k).any f) = r) : ∀ c, c = (b || f x) → (c || (P.drop (k + 1)).any f) = r := by
  intro c hc
  rw [drop_of_get hx, List.any_cons] at h
  rw [hc, Bool.or_assoc]
  exact h
theorem or_end {α : Type} {f : α → Bool} {P : List α} {k : Nat} {b r : Bool} (hk : P.length ≤ k) (h : (b || (P.drop k).any f) = r) : b = r := by
  rw [List.drop_eq_nil_of_le hk] at h
  simpa using h
set_option maxRecDepth 20000 in
set_option maxHeartbeats 3200000 in
theorem iHas_any (K : Int) (aF : Option Addr) (nF cF : Nat) (F : List ByteArray) (aP : Option Addr) (n cP : Nat) (P : List ByteArray) (s : ByteArray) (w : World) (h : Strs w aF nF F) (hF : ∀ f ∈ F, 0 < f.size ∧ f.size ≤ 100) (hp : Strs w aP n P) (hP : ∀ p ∈ P, p.size ≤ 100) (h0 : 0 < s.size) (hs : s.size ≤ 100) (hm : MaxM w) :
    Calls Tryz.prog 76 #[.agg #[.int .i64 K, .slice aF nF cF], .slice aP n cP, .string s] w fun e w' => e = .returned (.bool (hasI F P s)) ∧ Below w.heap.size w w' := by
  have hm1 := hp.2.1
  have HB1 := Lib.hid (below1 w (.cells #[.int .i64 K, .slice aF nF cF] 30))
  have HF1 := Lib.hid (h.keep HB1.out)
  have HP1 := Lib.hid (hp.keep HB1.out)
  have HM1 := Lib.hid (hm.keep HB1.out)
  have HK1 := Lib.hid (Blk.new w 30 #[.int .i64 K, .slice aF nF cF])
  have k0 : (w.alloc (.cells #[.int .i64 K, .slice aF nF cF] 30)).cell? ⟨w.heap.size, 0, none⟩ = some (.int .i64 K) := HK1.out.cell 0
  have k1 : (w.alloc (.cells #[.int .i64 K, .slice aF nF cF] 30)).cell? ⟨w.heap.size, 1, none⟩ = some (.slice aF nF cF) := HK1.out.cell 1
  have HL := Lib.hid hp.1
  have HPs := Lib.hid hP
  have hFs := Lib.hid hF
  clear h hp hP hF hm
  by_cases h2 : s.size < 2
  · have d2 : decide ((s.size : Int) < 2) = true := decide_eq_true (by omega)
    have HR : Hid (hasI F P s = P.any fun u => occ u s) := by show _ = _; simp [hasI, h2]
    obtain ⟨mx, hmx⟩ := HM1.out
    have HX := Lib.hid hmx
    clear k0 k1 hmx
    go_enter Tryz.func76, Tryz.ntmps76
    go_wp2_with fail
    generalize w.alloc (.cells #[.int .i64 K, .slice aF nF cF] 30) = w1 at HB1 HF1 HP1 HM1 HK1 HX ⊢
    go_loop [18] (fun v => ∃ k : Nat, k ≤ n ∧ v = .int .i64 k ∧ Hid ((P.drop k).any (fun p => occ p s) = hasI F P s)) (fun v => n - (intOf v).toNat)
    case atStart => exact ⟨0, Nat.zero_le _, rfl, HR.out.symm⟩
    case round =>
      obtain ⟨k, hk, rfl, hr⟩ := hrel
      clear HR
      by_cases hlt : k < n
      · obtain ⟨b, o, p, rfl, hc, hp⟩ := HP1.out.at_ hlt
        have hp100 := HPs.out p (List.mem_of_getElem? hp.out)
        have HST := Lib.hid (any_step hp.out hr.out)
        have HOC := Lib.hid (occ_contains p s h0)
        clear hp hr
        cases ho : occ p s
        · have HN := Lib.hid (HST.out.2 ho)
          have HO : Hid (Lib.contains p.data.toList s.data.toList = false) := by show _ = _; rw [← HOC.out]; exact ho
          clear HST ho
          go_wp2_with (go_at_call 96; refine (Tryz.strings_Contains p s mx _ (by omega) HX.out).mono ?_; rw [HO.out]; rintro e w' ⟨rfl, rfl⟩)
          go_round
          case rel => exact ⟨k + 1, hlt, by go_num, HN.out⟩
          case measure => simp [intOf]; omega
        · have HN := Lib.hid (HST.out.1 ho)
          have HO : Hid (Lib.contains p.data.toList s.data.toList = true) := by show _ = _; rw [← HOC.out]; exact ho
          clear HST ho
          go_wp2_with (go_at_call 96; refine (Tryz.strings_Contains p s mx _ (by omega) HX.out).mono ?_; rw [HO.out]; rintro e w' ⟨rfl, rfl⟩)
          go_ret
          exact ⟨ret_bool HN.out.symm, HB1.out⟩
      · have HE := Lib.hid (any_end (by have := HL.out; omega) hr.out)
        clear hr
        go_wp2_with fail
        go_ret
        exact ⟨ret_bool HE.out.symm, HB1.out⟩
  have d2 : decide ((s.size : Int) < 2) = false := decide_eq_false (by omega)
  go_enter Tryz.func76, Tryz.ntmps76
  go_wp2_with fail
  generalize w.alloc (.cells #[.int .i64 K, .slice aF nF cF] 30) = w1 at HB1 HF1 HP1 HM1 HK1 k0 k1 ⊢
  refine (iAvoids_any K aF nF cF F s _ HF1.out hs hFs.out HM1.out).mono ?_
  rintro e w2 ⟨rfl, hb2⟩
  have HB2 := Lib.hid (step2 HB1.out hb2)
  have HP2 := Lib.hid (HP1.out.keep hb2)
  clear hb2 k0 k1
  cases ha : avB F s
  · have HR : Hid (hasI F P s = false) := by show _ = _; simp [hasI, h2, ha]
    clear ha
    go_wp2_with fail
    go_ret
    exact ⟨ret_bool HR.out.symm, HB2.out⟩
  have HR : Hid (hasI F P s = (hasT P (s.extract 0 2) && hasT P (s.extract (s.size - 2) s.size))) := by show _ = _; simp [hasI, h2, ha]
  clear ha
  have hw1 : (0 : Int) ≤ (s.size : Int) - 2 := by omega
  have hw2 : (2 : Int) ≤ (s.size : Int) := by omega
  have hw3 : (s.size : Int) - 2 ≤ (s.size : Int) := by omega
  have HY : Hid (((s.size : Int) - 2).toNat = s.size - 2) := by show _ = _; omega
  go_wp2_with fail
  go_loop [9, 10, 32] (fun v9 v10 v => ∃ (k : Nat) (f l : Bool), k ≤ n ∧ v = .int .i64 k ∧ v9 = .bool f ∧ v10 = .bool l ∧ Hid ((f || (P.drop k).any (fun p => p.toList == (s.extract 0 2).toList)) = hasT P (s.extract 0 2)) ∧ Hid ((l || (P.drop k).any (fun p => p.toList == (s.extract (s.size - 2) s.size).toList)) = hasT P (s.extract (s.size - 2) s.size))) (fun _ _ v => n - (intOf v).toNat)
  case atStart => exact ⟨0, false, false, Nat.zero_le _, rfl, rfl, rfl, rfl, rfl⟩
  case round =>
    obtain ⟨k, f, l, hk, rfl, rfl, rfl, hf, hl⟩ := hrel
    by_cases hlt : k < n
    · obtain ⟨b, o, p, rfl, hc, hp⟩ := HP2.out.at_ hlt
      have HS1 := Lib.hid (or_step hp.out hf.out)
      have HS2 := Lib.hid (or_step hp.out hl.out)
      clear hp hf hl
      cases f
      · cases e1 : (p.toList == (s.extract 0 2).toList)
        · skip
          cases l
          · cases e2 : (p.toList == (s.extract (s.size - 2) s.size).toList)
            · have e3 : (p.toList == (s.extract ((s.size : Int) - 2).toNat s.size).toList) = false := by rw [HY.out]; exact e2
              go_wp2_with fail
              go_round
              case rel => exact ⟨k + 1, _, _, hlt, by go_num, rfl, rfl, HS1.out _ (by simp [e1]), HS2.out _ (by simp [e2])⟩
              case measure => simp [intOf]; omega
            · have e3 : (p.toList == (s.extract ((s.size : Int) - 2).toNat s.size).toList) = true := by rw [HY.out]; exact e2
              go_wp2_with fail
              go_round
              case rel => exact ⟨k + 1, _, _, hlt, by go_num, rfl, rfl, HS1.out _ (by simp [e1]), HS2.out _ (by simp [e2])⟩
              case measure => simp [intOf]; omega
          · skip
            go_wp2_with fail
            go_round
            case rel => exact ⟨k + 1, _, _, hlt, by go_num, rfl, rfl, HS1.out _ (by simp [e1]), HS2.out _ (by simp)⟩
            case measure => simp [intOf]; omega
        · skip
          cases l
          · cases e2 : (p.toList == (s.extract (s.size - 2) s.size).toList)
            · have e3 : (p.toList == (s.extract ((s.size : Int) - 2).toNat s.size).toList) = false := by rw [HY.out]; exact e2
              go_wp2_with fail
              go_round
              case rel => exact ⟨k + 1, _, _, hlt, by go_num, rfl, rfl, HS1.out _ (by simp [e1]), HS2.out _ (by simp [e2])⟩
              case measure => simp [intOf]; omega
            · have e3 : (p.toList == (s.extract ((s.size : Int) - 2).toNat s.size).toList) = true := by rw [HY.out]; exact e2
              go_wp2_with fail
              go_round
              case rel => exact ⟨k + 1, _, _, hlt, by go_num, rfl, rfl, HS1.out _ (by simp [e1]), HS2.out _ (by simp [e2])⟩
              case measure => simp [intOf]; omega
          · skip
            go_wp2_with fail
            go_round
            case rel => exact ⟨k + 1, _, _, hlt, by go_num, rfl, rfl, HS1.out _ (by simp [e1]), HS2.out _ (by simp)⟩
            case measure => simp [intOf]; omega
      · skip
        cases l
        · cases e2 : (p.toList == (s.extract (s.size - 2) s.size).toList)
          · have e3 : (p.toList == (s.extract ((s.size : Int) - 2).toNat s.size).toList) = false := by rw [HY.out]; exact e2
            go_wp2_with fail
            go_round
            case rel => exact ⟨k + 1, _, _, hlt, by go_num, rfl, rfl, HS1.out _ (by simp), HS2.out _ (by simp [e2])⟩
            case measure => simp [intOf]; omega
          · have e3 : (p.toList == (s.extract ((s.size : Int) - 2).toNat s.size).toList) = true := by rw [HY.out]; exact e2
            go_wp2_with fail
            go_round
            case rel => exact ⟨k + 1, _, _, hlt, by go_num, rfl, rfl, HS1.out _ (by simp), HS2.out _ (by simp [e2])⟩
            case measure => simp [intOf]; omega
        · skip
          go_wp2_with fail
          go_round
          case rel => exact ⟨k + 1, _, _, hlt, by go_num, rfl, rfl, HS1.out _ (by simp), HS2.out _ (by simp)⟩
          case measure => simp [intOf]; omega
    · have HE1 := Lib.hid (or_end (by have := HL.out; omega) hf.out)
      have HE2 := Lib.hid (or_end (by have := HL.out; omega) hl.out)
      clear hf hl
      rw [← HE1.out, ← HE2.out] at HR
      cases f
      · go_wp2_with fail
        go_ret
        exact ⟨ret_bool HR.out.symm, HB2.out⟩
      · cases l
        · go_wp2_with fail
          go_ret
          exact ⟨ret_bool HR.out.symm, HB2.out⟩
        · go_wp2_with fail
          go_ret
          exact ⟨ret_bool HR.out.symm, HB2.out⟩
end Go.Proofs.YtdmpokanfnlbgaaGreatDoor

namespace Go.Proofs.YtdmpokanfnlbgaaGreatDoor
open Go.RowKit
set_option linter.all false
theorem letter_int {k i : Nat} (hk : 1 ≤ k) (hk3 : k ≤ 3) : (((97 + UInt8.ofNat (i % k)).toNat : Nat) : Int) = 97 + (i : Int) % (k : Int) := by
  have hm : i % k < k := Nat.mod_lt _ (by omega)
  have e : (i : Int) % (k : Int) = ((i % k : Nat) : Int) := by simp
  rw [e]
  have h3 : i % k = 0 ∨ i % k = 1 ∨ i % k = 2 := by omega
  rcases h3 with h | h | h <;> rw [h] <;> decide
theorem set_last {t : Nat} {b : UInt8} {S : List UInt8} : (List.replicate (t + 1) 0 ++ S).set t b = List.replicate t 0 ++ ([b] ++ S) := by
  rw [List.replicate_succ', List.append_assoc]
  exact set_mid (by simp)
theorem get_last {t : Nat} {S : List UInt8} : (List.replicate (t + 1) (0 : UInt8) ++ S)[t]? = some 0 := by
  rw [List.replicate_succ', List.append_assoc]
  exact at_mid (by simp)
set_option maxRecDepth 20000 in
set_option maxHeartbeats 3200000 in
theorem iWordAt_any (k n i : Nat) (w : World) (hk : 1 ≤ k) (hk3 : k ≤ 3) (hn : n ≤ 16) (hi : i ≤ 100000) :
    Calls Tryz.prog 106 #[.int .i64 k, .int .i64 n, .int .i64 i] w fun e w' => e = .returned (.string (wordN k n i)) ∧ Below w.heap.size w w' := by
  have hmk := make_bytes n (by omega) w
  have HM := Lib.hid (OB.made w n (by omega))
  have hk0 : ((k : Int) == 0) = false := by rw [beq_eq_false_iff_ne]; omega
  go_enter Tryz.func106, Tryz.ntmps106
  go_wp2_with fail
  clear hmk
  go_loopw [2, 8] (fun x y wr => ∃ (t j : Nat) (S : List UInt8), t ≤ n ∧ j ≤ 100000 ∧ x = .int .i64 j ∧ y = .int .i64 ((t : Int) - 1) ∧ OB wr w.heap.size (.slice (some ⟨w.heap.size, 0, none⟩) n n) (List.replicate t 0 ++ S) ∧ Hid (wdB k t j ++ S = wdB k n i) ∧ Below w.heap.size w wr) (fun _ y _ => (intOf y + 1).toNat)
  case atStart => exact ⟨n, i, [], Nat.le_refl _, hi, rfl, rfl, by simpa using HM.out, by show _ = _; simp, belowA _ _⟩
  case round =>
    obtain ⟨t, j, S, ht, hj, rfl, rfl, hown, hr, hbl⟩ := hrel
    have HB := Lib.hid hbl
    clear hbl HM
    rcases Nat.eq_zero_or_pos t with h0 | h0
    · subst h0
      have e : S = wdB k n i := by have := hr.out; simpa [wdB] using this
      have hl : S.length = n := by rw [e]; exact wdB_len k n i
      have ho : OB wr w.heap.size (.slice (some ⟨w.heap.size, 0, none⟩) n n) S := by simpa using hown
      have hcv := conv_u8 _ _ _ _ ho
      have HE : Hid ((⟨S.toArray⟩ : ByteArray) = wordN k n i) := by show _ = _; rw [e]; rfl
      rw [show (((0 : Nat) : Int) - 1) = -1 from rfl]
      clear hown hr hl ho e
      go_wp2_with fail
      go_ret
      exact ⟨ret_text HE.out, HB.out⟩
    · obtain ⟨t, rfl⟩ : ∃ q, t = q + 1 := ⟨t - 1, by omega⟩
      have HN := Lib.hid (wdB_step hr.out)
      have hs := hown.set t (97 + UInt8.ofNat (j % k))
      rw [letter_int hk hk3, set_last] at hs
      have hc := hown.cell (get_last (t := t) (S := S))
      have hf := hown.frozen t
      have HS := Lib.hid hs
      have HB2 := Lib.hid (HB.out.setCell (p := ⟨w.heap.size, t, none⟩) (Nat.le_refl _) (.int .u8 (97 + (j : Int) % (k : Int))))
      have hm1 : 0 ≤ (j : Int) % (k : Int) := Int.emod_nonneg _ (by omega)
      have hm2 : (j : Int) % (k : Int) < 3 := by have := Int.emod_lt_of_pos (j : Int) (show (0 : Int) < k by omega); omega
      have htn : t < n := by omega
      have hjd : j / k ≤ 100000 := Nat.le_trans (Nat.div_le_self _ _) hj
      have HWD : Hid (wrap64 ((j : Int) / (k : Int)) = ((j / k : Nat) : Int)) := by
        show _ = _
        have e : (j : Int) / (k : Int) = ((j / k : Nat) : Int) := by simp
        obtain ⟨q, hq⟩ : ∃ q, j / k = q := ⟨_, rfl⟩
        have hq2 : q ≤ 100000 := by rw [← hq]; exact hjd
        rw [e, hq]; unfold wrap64; clear hm1 hm2 e; omega
      rw [show (((t + 1 : Nat) : Int) - 1) = (t : Int) from by omega]
      clear hr hs hown
      go_wp2_with fail
      go_roundw
      case rel => exact ⟨t, j / k, _, by omega, hjd, by rw [HWD.out], rfl, HS.out, HN.out, HB2.out⟩
      case measure => (simp [intOf] <;> omega)
theorem wrap_small {x : Int} (h : 0 ≤ x) (h2 : x ≤ 1000000) : wrap64 x = x := by unfold wrap64; omega
set_option maxRecDepth 20000 in
set_option maxHeartbeats 1600000 in
theorem iPower_any (k n : Nat) (w : World) (hk3 : k ≤ 3) (hn : n ≤ 8) :
    Calls Tryz.prog 105 #[.int .i64 k, .int .i64 n] w fun e w' => e = .returned (.int .i64 ((k ^ n : Nat) : Int)) ∧ w = w' := by
  go_enter Tryz.func105, Tryz.ntmps105
  go_wp2_with fail
  go_loop [5, 7] (fun u x => ∃ (i : Nat) (v : Int), i ≤ n ∧ x = .int .i64 i ∧ u = .int .i64 v ∧ Hid (v = ((k ^ i : Nat) : Int))) (fun _ x => n - (intOf x).toNat)
  case atStart => exact ⟨0, 1, Nat.zero_le _, rfl, rfl, by show _ = _; simp⟩
  case round =>
    obtain ⟨i, v, hi, rfl, rfl, hv⟩ := hrel
    by_cases hlt : i < n
    · have HN : Hid (wrap64 (v * (k : Int)) = ((k ^ (i + 1) : Nat) : Int)) := by
        show _ = _
        have h1 : v * (k : Int) = ((k ^ (i + 1) : Nat) : Int) := by rw [hv.out, Nat.pow_succ]; simp
        have h2 := pow_le_of (k := k) (n := i + 1) hk3 (by omega)
        rw [h1]
        exact wrap_small (by omega) (by omega)
      clear hv
      go_wp2_with fail
      go_round
      case rel => exact ⟨i + 1, _, hlt, by go_num, rfl, HN.out⟩
      case measure => (simp [intOf] <;> omega)
    · have e : i = n := by omega
      subst e
      have HV := Lib.hid hv.out
      clear hv
      go_wp2_with fail
      go_ret
      exact ⟨ret_int HV.out, rfl⟩
set_option maxRecDepth 20000 in
set_option maxHeartbeats 1600000 in
theorem iWordsOf_any (k n : Nat) (w : World) (hk : 1 ≤ k) (hk3 : k ≤ 3) (hn : n ≤ 8) :
    Calls Tryz.prog 95 #[.int .i64 k, .int .i64 n] w fun e w' => ∃ v, e = .returned v ∧ OStrs w' w.heap.size v (allW k n).length (allW k n) ∧ Below w.heap.size w w' := by
  have HE := Lib.hid (OStrs.empty w w.heap.size (Nat.le_refl _))
  obtain ⟨M, hM⟩ : ∃ M, k ^ n = M := ⟨_, rfl⟩
  have hMb : M ≤ 6561 := by rw [← hM]; exact pow_le_of hk3 hn
  have HML : Hid ((allW k n).length = M) := by show _ = _; rw [allW_len, hM]
  have HM := Lib.hid hM
  clear hM
  rw [HML.out]
  go_enter Tryz.func95, Tryz.ntmps95
  go_wp2_with (go_at_call 105; refine (iPower_any k n _ hk3 hn).mono ?_; rw [HM.out]; rintro e w' ⟨rfl, rfl⟩)
  go_loopw [5, 11] (fun v x wr => ∃ i : Nat, i ≤ M ∧ x = .int .i64 i ∧ OStrs wr w.heap.size v i ((allW k n).take i) ∧ Below w.heap.size w wr) (fun _ x _ => M - (intOf x).toNat)
  case atStart => exact ⟨0, Nat.zero_le _, rfl, by simpa using HE.out, belowA _ _⟩
  case round =>
    obtain ⟨i, hi, rfl, hown, hbl⟩ := hrel
    obtain ⟨a5, c5, rfl, _⟩ := hown.form
    have HO := Lib.hid hown
    have HB := Lib.hid hbl
    clear hown hbl HE
    by_cases hlt : i < M
    · have HG : Hid ((allW k n)[i]? = some (wordN k n i)) := allW_get (by rw [HM.out]; exact hlt)
      go_wp2_with (first
        | (go_at_call 106; refine (iWordAt_any k n i _ hk hk3 (by omega) (by omega)).mono ?_; rintro e w1 ⟨rfl, hb1⟩; have HO1 := Lib.hid (HO.out.keep hb1); have HB1 := Lib.hid (step2 HB.out hb1); clear hb1)
        | (refine wpList_push_str _ _ rfl (.tmp 14) (.tmp 19) rfl w.heap.size _ _ _ rfl HO1.out (by omega) HB1.out.size _ rfl rfl ?_; intro v2 w2 ho2 hb2; have HO2 := Lib.hid ho2; have HB2 := Lib.hid (HB1.out.trans hb2); clear ho2 hb2))
      go_roundw
      case rel => exact ⟨i + 1, hlt, by go_num, by have h := HO2.out; rw [push_take HG.out] at h; exact h, HB2.out⟩
      case measure => (simp [intOf] <;> omega)
    · have e : i = M := by omega
      subst e
      have ho := HO.out
      rw [List.take_of_length_le (by rw [HML.out]; omega)] at ho
      have HO2 := Lib.hid ho
      clear ho
      go_wp2_with fail
      go_ret
      exact ⟨_, rfl, HO2.out, HB.out⟩
end Go.Proofs.YtdmpokanfnlbgaaGreatDoor
