/- Parts of the proof of a law, joined: TxtT WordT SSplB SFormat SRead1 RowAt SIsMatrix SParse SL4Zero L1Max Mn L1Min Stretch FarAll SplT2 SCopy Row0 RowV0 Clone IIsMatrix TurnT ITurnM STurnM TabOk ITimes PartsT. -/
import Derived.Lib.ItoaLen
import Derived.Laws.BytesString
import Derived.Laws.Cells
import Derived.Test.YtblkgkgopneleaaProg
import Derived.Lib.AppendStr
import Derived.Lib.Join
import Derived.Lib.SliceRun
import Derived.Test.YtblkgkgopneleaaBG0a
namespace Go.Proofs.Ytblkgkgopneleaa
open Go.RowKit
set_option linter.all false
/- The decimal digits of a number, as both programs and the laws' marks write them. -/
def decB (u : Nat) : ByteArray := ⟨(Lib.decDigits u).toArray⟩
def dg (x : Nat) : List UInt8 := if x = 0 then [] else Lib.decDigits x
theorem dg_zero : dg 0 = [] := rfl
theorem dg_pos {x : Nat} (h : 0 < x) : dg x = Lib.decDigits x := by simp [dg]; omega
theorem ofNat48 (k : Nat) : UInt8.ofNat (48 + k) = 48 + UInt8.ofNat k := by rw [UInt8.ofNat_add]; rfl
theorem belowA (w : World) (o : Obj) : Below w.heap.size w (w.alloc o) := (Below.refl _ _).alloc (Nat.le_refl _) o
theorem dg_step {x : Nat} (h : 0 < x) : dg x = dg (x / 10) ++ [48 + UInt8.ofNat (x % 10)] := by
  rw [← ofNat48]
  rw [dg_pos h, Lib.decDigits]
  by_cases h10 : x < 10
  · rw [dif_pos h10, show x / 10 = 0 by omega, dg_zero, show x % 10 = x by omega]; rfl
  · rw [dif_neg h10, dg_pos (by omega)]
theorem dec_len {u : Nat} (h : u < 18446744073709551616) : (Lib.decDigits u).length ≤ 20 := by
  rw [Lib.decDigits_length]; exact Lib.nDigits_le20 u h
theorem decB_size {u : Nat} (h : u < 18446744073709551616) : (decB u).size ≤ 20 := by
  have := dec_len h
  simpa [decB, ByteArray.size] using this
def catB (b : UInt8) (o : ByteArray) : ByteArray := (⟨#[b]⟩ : ByteArray) ++ o
theorem catB_list (b : UInt8) (o : ByteArray) : (catB b o).data.toList = b :: o.data.toList := by simp [catB]
theorem catB_size (b : UInt8) (o : ByteArray) : (catB b o).size = o.size + 1 := by
  have h := congrArg List.length (catB_list b o)
  simp at h
  exact h
theorem dig_next {x : Nat} {o : ByteArray} {R : List UInt8} (hx : 0 < x) (h : dg x ++ o.data.toList = R) : dg (x / 10) ++ (catB (48 + UInt8.ofNat (x % 10)) o).data.toList = R := by
  rw [dg_step hx] at h
  rw [catB_list, ← h]
  simp
theorem dig_done {o : ByteArray} {u : Nat} (hu : 0 < u) (h : dg 0 ++ o.data.toList = dg u) : o = decB u := by
  rw [dg_zero, dg_pos hu] at h
  apply ByteArray.ext
  apply Array.ext'
  simpa [decB] using h
theorem dig_size {x u : Nat} {o : ByteArray} (hu : u < 18446744073709551616) (h : dg x ++ o.data.toList = dg u) : o.size ≤ 20 := by
  have h2 := congrArg List.length h
  have h3 : (dg u).length ≤ 20 := by
    by_cases h0 : u = 0
    · rw [h0, dg_zero]; exact Nat.zero_le _
    · rw [dg_pos (by omega)]; exact dec_len hu
  simp only [List.length_append] at h2
  have h4 : o.data.toList.length = o.size := Array.length_toList
  omega
/-- One byte made a string. -/
theorem conv_one (w : World) (z : Int) (t : TypeId) : (convert 22 9 (.slice (some ⟨w.heap.size, 0, none⟩) 1 1)).run Try.prog (w.alloc (.cells #[.int .u8 z] t)) = .ok (.string ⟨#[UInt8.ofNat z.toNat]⟩) (w.alloc (.cells #[.int .u8 z] t)) := by
  rw [run_convert_bytes_string _ 22 9 5 _ _ _ Try.underlying22 Try.underlying5 Try.underlying9]
  have hc := run_loadCells_list (P := Try.prog) (w.alloc (.cells #[.int .u8 z] t)) ⟨w.heap.size, 0, none⟩ (([z] : List Int).map (Value.int .u8)) (by
    intro j u hu
    match j, hu with
    | 0, hu =>
      simp at hu
      subst hu
      exact World.cell?_alloc_new _ _ _ _)
  rw [run_bytesToString _ ⟨w.heap.size, 0, none⟩ 1 1 [z] hc]
  rfl
theorem ret_text {a b : ByteArray} (h : a = b) : Ending.returned (.string a) = .returned (.string b) := by rw [h]
end Go.Proofs.Ytblkgkgopneleaa

namespace Go.Proofs.Ytblkgkgopneleaa
open Go.RowKit
set_option linter.all false
/- Words for memory: a slice of strings. -/
theorem info_str : (Try.prog.info? 9).map (fun i => (i.zero, i.size, i.bytes)) = some (some (.string ⟨#[]⟩), 1, 16) := by kernel_rfl
def Strs (w : World) (ao : Option Addr) (n : Nat) (ss : List ByteArray) : Prop :=
  ss.length = n ∧ n ≤ 1099511627776 ∧ ∀ i s, ss[i]? = some s → ∃ b o, ao = some ⟨b, o, none⟩ ∧ w.cell? ⟨b, o + i, none⟩ = some (.string s)
theorem Strs.keep {w w' : World} {ao : Option Addr} {n : Nat} {ss : List ByteArray} (h : Strs w ao n ss) (hb : Below w.heap.size w w') : Strs w' ao n ss := by
  refine ⟨h.1, h.2.1, fun i s hi => ?_⟩
  obtain ⟨b, o, e, hc⟩ := h.2.2 i s hi
  exact ⟨b, o, e, (hb.cell (p := ⟨b, o + i, none⟩) (World.block_lt_of_cell? w _ hc)).trans hc⟩
theorem Strs.drewN {w : World} {ao : Option Addr} {n : Nat} {ss : List ByteArray} (h : Strs w ao n ss) (k : Nat) : Strs (w.drewN k) ao n ss := h
theorem Strs.at_ {w : World} {ao : Option Addr} {n k : Nat} {ss : List ByteArray} (h : Strs w ao n ss) (hk : k < n) :
    ∃ b o s, ao = some ⟨b, o, none⟩ ∧ w.cell? ⟨b, o + k, none⟩ = some (.string s) ∧ Hid (ss[k]? = some s) := by
  have hl : k < ss.length := by rw [h.1]; exact hk
  obtain ⟨b, o, e, hc⟩ := h.2.2 k _ (List.getElem?_eq_getElem hl)
  exact ⟨b, o, _, e, hc, List.getElem?_eq_getElem hl⟩
def OStrs (w : World) (lo : Nat) (v : Value) (n : Nat) (ss : List ByteArray) : Prop := n ≤ 1099511627776 ∧ w.ownsRow lo 9 1 v n (ss.map Value.string)
section
variable {w w' : World} {lo n : Nat} {v : Value} {ss : List ByteArray}
theorem OStrs.len (h : OStrs w lo v n ss) : ss.length = n := by simpa using h.2.1
theorem OStrs.keep (h : OStrs w lo v n ss) (hb : Below w.heap.size w w') : OStrs w' lo v n ss := ⟨h.1, own_keep h.2 hb⟩
theorem OStrs.grown {row : Option Nat} (h : OStrs w lo v n ss) (hg : w.grownBy w' row) (hne : v.ownBlock = none ∨ v.ownBlock ≠ row) : OStrs w' lo v n ss := ⟨h.1, h.2.kept hg hne⟩
theorem OStrs.alloc (h : OStrs w lo v n ss) (o : Obj) : OStrs (w.alloc o) lo v n ss := ⟨h.1, h.2.alloc o⟩
theorem OStrs.drewN (h : OStrs w lo v n ss) (k : Nat) : OStrs (w.drewN k) lo v n ss := h
theorem OStrs.ownlt (h : OStrs w lo v n ss) : ∀ k, v.ownBlock = some k → lo ≤ k ∧ k < w.heap.size := h.2.lt
theorem OStrs.mono {lo' : Nat} (h : OStrs w lo v n ss) (hl : lo' ≤ lo) : OStrs w lo' v n ss := by
  refine ⟨h.1, h.2.1, ?_⟩
  rcases h.2.2 with h2 | ⟨g, cap, cur, hv, hg, r⟩
  · exact .inl h2
  · exact .inr ⟨g, cap, cur, hv, Nat.le_trans hl hg, r⟩
theorem OStrs.form (h : OStrs w lo v n ss) : ∃ ao cap, v = .slice ao n cap ∧ Strs w ao n ss := by
  have hl := h.len
  rcases h.2.2 with ⟨rfl, rfl⟩ | ⟨g, cap, cur, rfl, hg, hh, hnc, _, _, ht⟩
  · exact ⟨none, 0, rfl, hl, h.1, fun i s hi => by rw [List.eq_nil_of_length_eq_zero hl] at hi; simp at hi⟩
  · refine ⟨some ⟨g, 0, none⟩, cap, rfl, hl, h.1, fun i s hi => ⟨g, 0, rfl, ?_⟩⟩
    have hc := h.2.cells (g := g) rfl i (.string s) (by simp [hi])
    rw [Addr.add_lit] at hc
    simpa using hc
theorem OStrs.capLe {m cap : Nat} {ao : Option Addr} (h : OStrs w lo v n ss) (e : v = .slice ao m cap) : n ≤ cap := by
  rcases h.2.2 with ⟨rfl, rfl⟩ | ⟨g, c, cur, rfl, _, _, hnc, _⟩
  · exact Nat.zero_le _
  · injection e with _ _ e3
    omega
theorem OStrs.head (h : OStrs w lo v n ss) (hn : 0 < n) : ∃ g cap, v = .slice (some ⟨g, 0, none⟩) n cap := by
  rcases h.2.2 with ⟨_, h0⟩ | ⟨g, cap, cur, e, _⟩
  · omega
  · exact ⟨g, cap, e⟩
theorem OStrs.none_ (w : World) (lo : Nat) : OStrs w lo (.slice none 0 0) 0 [] := ⟨by omega, by simp, .inl ⟨rfl, rfl⟩⟩
theorem OStrs.empty (w : World) (lo : Nat) (hlo : lo ≤ w.heap.size) : OStrs (w.alloc (.cells #[] 9)) lo (.slice (some ⟨w.heap.size, 0, none⟩) 0 0) 0 [] :=
  ⟨by omega, World.ownsRow_made (base := lo) (e := 9) (size := 1) w #[] 0 hlo (by unfold maxLen; omega) rfl⟩
end
section
variable {w w' : World} {lo g n cap : Nat} {ss : List ByteArray}
theorem OStrs.read {ao : Option Addr} (h : OStrs w lo (.slice ao n cap) n ss) : Strs w ao n ss := by
  obtain ⟨ao', cap', e, hi⟩ := h.form
  injection e with e1
  subst e1
  exact hi
theorem OStrs.two {ao : Option Addr} (h : OStrs w lo (.slice ao n cap) n ss) : (ao = none ∧ n = 0) ∨ ∃ g, ao = some ⟨g, 0, none⟩ := by
  rcases h.2.2 with ⟨e, hn⟩ | ⟨g, c, cur, e, _⟩
  · injection e with e1
    exact .inl ⟨e1, hn⟩
  · injection e with e1
    exact .inr ⟨g, e1⟩
theorem OStrs.lt (h : OStrs w lo (.slice (some ⟨g, 0, none⟩) n cap) n ss) : lo ≤ g ∧ g < w.heap.size := h.2.lt g rfl
theorem OStrs.frozen (h : OStrs w lo (.slice (some ⟨g, 0, none⟩) n cap) n ss) (k : Nat) : w.frozen? ⟨g, k, none⟩ = false := h.2.frozenAt k
theorem OStrs.cell (h : OStrs w lo (.slice (some ⟨g, 0, none⟩) n cap) n ss) {k : Nat} {s : ByteArray} (hk : ss[k]? = some s) : w.cell? ⟨g, k, none⟩ = some (.string s) := by
  obtain ⟨b, o, e, hc⟩ := h.read.2.2 k s hk
  injection e with e
  injection e with e1 e2
  subst e1
  subst e2
  simpa using hc
theorem OStrs.set (h : OStrs w lo (.slice (some ⟨g, 0, none⟩) n cap) n ss) (k : Nat) (s : ByteArray) : OStrs (w.setCell ⟨g, k, none⟩ (.string s)) lo (.slice (some ⟨g, 0, none⟩) n cap) n (ss.set k s) := by
  refine ⟨h.1, ?_⟩
  rw [List.map_set]
  exact (h.2.stored k _).1
end
theorem wp_push_str {o : Oper} {a : Act} {K0 : Act → World → Prop} {Q : Exit → Act → World → Prop} (W : World) (y : ByteArray) (s x : Operand)
    (ho : o.op = .call { callee := .builtin .append, args := #[s, x], argTypes := #[101, 101] })
    (lo : Nat) (v : Value) (n : Nat) (xs : List ByteArray) (hs : a.eval s = v) (h : OStrs W lo v n xs) (hn : n + 1 ≤ 1099511627776) (hlo : lo ≤ W.heap.size)
    (tb : Nat) (htb : tb = W.heap.size) (hx : a.eval x = .slice (some ⟨tb, 0, none⟩) 1 1)
    (K : ∀ v' w', OStrs w' lo v' (n + 1) (xs ++ [y]) → Below lo W w' → K0 (a.put o.dst v') w') : o.wp Try.prog a (W.alloc (.cells #[.string y] 9)) K0 Q := by
  subst htb
  obtain ⟨i0, hi, hz0, hz1, hz2⟩ := info_parts info_str
  refine wp_append_own _ s x 101 ho lo 9 i0 (.string ⟨#[]⟩) 1 16 Try.underlying101 hi hz0 hz1 hz2 rfl (by decide) v n _ hs (h.alloc _).2 ⟨W.heap.size, 0, none⟩ 1 1 [.string y] hx rfl ?_ ?_ ?_ ?_ (by simp; omega) ?_
  · intro j u' hj
    match j, hj with
    | 0, hj =>
      simp at hj
      subst hj
      exact World.cell?_alloc_new _ _ _ _
  · intro u' hu'
    simp at hu'
    subst hu'
    rfl
  · unfold maxLen; omega
  · omega
  · intro v' w' hown hgrow _
    refine K v' w' ⟨hn, ?_⟩ (((Below.refl lo W).alloc hlo _).grown hgrow (by simp; omega) (fun k hk => (h.ownlt k hk).1))
    rw [List.map_append]
    exact hown
theorem wpList_push_str {ops : Array Oper} {rest : List Oper} {o : Oper} {a : Act} {Q : Exit → Act → World → Prop} (W : World) (y : ByteArray) (hgd : o.guard = none) (s x : Operand)
    (ho : o.op = .call { callee := .builtin .append, args := #[s, x], argTypes := #[101, 101] })
    (lo : Nat) (v : Value) (n : Nat) (xs : List ByteArray) (hs : a.eval s = v) (h : OStrs W lo v n xs) (hn : n + 1 ≤ 1099511627776) (hlo : lo ≤ W.heap.size)
    (tb : Nat) (htb : tb = W.heap.size) (hx : a.eval x = .slice (some ⟨tb, 0, none⟩) 1 1)
    (K : ∀ v' w', OStrs w' lo v' (n + 1) (xs ++ [y]) → Below lo W w' → wpList Try.prog ops Q rest (a.put o.dst v') w') : wpList Try.prog ops Q (o :: rest) a (W.alloc (.cells #[.string y] 9)) := by
  refine wpList_plain hgd fun K' hK => ?_
  exact wp_push_str W y s x ho lo v n xs hs h hn hlo tb htb hx fun v' w' h1 h2 => hK _ _ (K v' w' h1 h2)
theorem OStrs.lit (w : World) (lo : Nat) (ss : List ByteArray) (hlo : lo ≤ w.heap.size) (hn : ss.length ≤ 1048576) : OStrs (w.alloc (.cells (ss.map Value.string).toArray 9)) lo (.slice (some ⟨w.heap.size, 0, none⟩) ss.length ss.length) ss.length ss := by
  refine ⟨by omega, ?_⟩
  have h := World.ownsRow_lit (base := lo) (e := 9) (size := 1) w (ss.map Value.string).toArray ss.length hlo (by unfold maxLen; omega) (by simp)
  simpa using h
theorem OStrs.far {w w' : World} {lo n : Nat} {u v : Value} {ss : List ByteArray} (h : OStrs w lo u n ss) (hg : w.grownBy w' v.ownBlock) (ha : Apart u v) : OStrs w' lo u n ss := h.grown hg ha.ne
theorem wpList_push_strAt {ops : Array Oper} {rest : List Oper} {o : Oper} {a : Act} {Q : Exit → Act → World → Prop} (W : World) (y : ByteArray) (hgd : o.guard = none) (s x : Operand)
    (ho : o.op = .call { callee := .builtin .append, args := #[s, x], argTypes := #[101, 101] })
    (lo : Nat) (v : Value) (n : Nat) (xs : List ByteArray) (hs : a.eval s = v) (h : OStrs W lo v n xs) (hn : n + 1 ≤ 1099511627776) (hlo : lo ≤ W.heap.size)
    (tb : Nat) (htb : tb = W.heap.size) (hx : a.eval x = .slice (some ⟨tb, 0, none⟩) 1 1)
    (K : ∀ v' w', OStrs w' lo v' (n + 1) (xs ++ [y]) → W.grownBy w' v.ownBlock → NewOr W.heap.size v v' → wpList Try.prog ops Q rest (a.put o.dst v') w') : wpList Try.prog ops Q (o :: rest) a (W.alloc (.cells #[.string y] 9)) := by
  refine wpList_plain hgd fun K' hK => ?_
  subst htb
  obtain ⟨i0, hi, hz0, hz1, hz2⟩ := info_parts info_str
  obtain ⟨v', w', hr, h2, h3, _, h5⟩ := run_append_own_at (P := Try.prog) (W.alloc (.cells #[.string y] 9)) lo 101 o.type 9 i0 (.string ⟨#[]⟩) 1 16 Try.underlying101 hi hz0 hz1 hz2 rfl (by decide) v n _ (h.alloc _).2 ⟨W.heap.size, 0, none⟩ 1 1 [.string y] rfl
    (by
      intro j u' hj
      match j, hj with
      | 0, hj =>
        simp at hj
        subst hj
        exact World.cell?_alloc_new _ _ _ _) (by intro u hu; simp at hu; subst hu; rfl) (by unfold maxLen; omega) (by omega) (by simp; omega)
  unfold Oper.wp execOp
  simp only [ho, resolve, invoke, builtin, Sem.run_bind, Sem.run_pure, Result.andThen_ok, List.map_toArray, List.map_cons, List.map_nil, hs, hx, hr]
  refine hK _ _ (K v' w' ⟨hn, ?_⟩ ((grown_alloc W _ _).trans h3) ?_)
  · rw [List.map_append]; exact h2
  · rcases h5 with h5 | h5
    · exact .inl h5
    · exact .inr ⟨_, h5, by simp⟩
end Go.Proofs.Ytblkgkgopneleaa

namespace Go.Proofs.Ytblkgkgopneleaa
open Go.RowKit
set_option linter.all false
def u8C (B : List UInt8) : List Value := B.map fun b => Value.int .u8 (b.toNat : Int)
def OB (w : World) (lo : Nat) (v : Value) (B : List UInt8) : Prop := B.length ≤ 1099511627776 ∧ w.ownsRow lo 5 1 v B.length (u8C B)
theorem info_u8 : (Try.prog.info? 5).map (fun i => (i.zero, i.size, i.bytes)) = some (some (.int .u8 0), 1, 1) := by kernel_rfl
section
variable {w w' : World} {lo : Nat} {v : Value} {B : List UInt8}
theorem OB.keep (h : OB w lo v B) (hb : Below w.heap.size w w') : OB w' lo v B := ⟨h.1, own_keep h.2 hb⟩
theorem OB.alloc (h : OB w lo v B) (o : Obj) : OB (w.alloc o) lo v B := ⟨h.1, h.2.alloc o⟩
theorem OB.ownlt (h : OB w lo v B) : ∀ k, v.ownBlock = some k → lo ≤ k ∧ k < w.heap.size := h.2.lt
theorem OB.form (h : OB w lo v B) : ∃ ao cap, v = .slice ao B.length cap := by
  rcases h.2.2 with ⟨rfl, h0⟩ | ⟨g, cap, cur, rfl, _⟩
  · exact ⟨none, 0, by rw [h0]⟩
  · exact ⟨some ⟨g, 0, none⟩, cap, rfl⟩
theorem OB.empty (w : World) (lo : Nat) (hlo : lo ≤ w.heap.size) : OB (w.alloc (.cells #[] 5)) lo (.slice (some ⟨w.heap.size, 0, none⟩) 0 0) [] :=
  ⟨Nat.zero_le _, World.ownsRow_made (base := lo) (e := 5) (size := 1) w #[] 0 hlo (by unfold maxLen; omega) rfl⟩
end
theorem u8C_app (A B : List UInt8) : u8C (A ++ B) = u8C A ++ u8C B := by simp [u8C]
theorem u8C_str (s : ByteArray) : u8C s.data.toList = Lib.strCells s := rfl
theorem fold_u8 : ∀ (B : List UInt8) (s : ByteArray), (B.map fun b => (b.toNat : Int)).foldl (fun r n => r.push (UInt8.ofNat n.toNat)) s = ⟨s.data ++ B.toArray⟩
  | [], s => by simp
  | b :: r, s => by
    rw [List.map_cons, List.foldl_cons, fold_u8 r]
    simp [ByteArray.push]
theorem conv_u8 (w : World) (lo : Nat) (v : Value) (B : List UInt8) (h : OB w lo v B) : (convert 22 9 v).run Try.prog w = .ok (.string ⟨B.toArray⟩) w := by
  rcases h.2.2 with ⟨rfl, h0⟩ | ⟨g, cap, cur, rfl, _⟩
  · have e : B = [] := List.eq_nil_of_length_eq_zero h0
    subst e
    rw [run_convert_bytes_string w 22 9 5 _ _ _ Try.underlying22 Try.underlying5 Try.underlying9]
    simp [Conv.bytesToString]
    rfl
  · rw [run_convert_bytes_string w 22 9 5 _ _ _ Try.underlying22 Try.underlying5 Try.underlying9]
    have e : u8C B = (B.map fun b => (b.toNat : Int)).map (Value.int .u8) := by simp [u8C]
    have hc := run_loadCells_list (P := Try.prog) w ⟨g, 0, none⟩ ((B.map fun b => (b.toNat : Int)).map (Value.int .u8)) (fun j u hu => h.2.cells (g := g) rfl j u (by rw [e]; exact hu))
    rw [List.length_map, List.length_map] at hc
    rw [run_bytesToString w ⟨g, 0, none⟩ B.length cap (B.map fun b => (b.toNat : Int)) hc, fold_u8]
    simp [ByteArray.empty, ByteArray.emptyWithCapacity]
    rfl
/-- Pieces joined. -/
def joinB (ss : List ByteArray) (sep : ByteArray) : ByteArray := ⟨(Lib.join (ss.map (·.data.toList)) sep.data.toList).toArray⟩
def toCome (sep : ByteArray) (k : Nat) (ss : List ByteArray) : List UInt8 :=
  if k = 0 then Lib.join (ss.map (·.data.toList)) sep.data.toList else Lib.joinTail sep.data.toList (ss.map (·.data.toList))
theorem toCome_first {sep s : ByteArray} {ss : List ByteArray} {R : List UInt8} (hs : ss[0]? = some s) (h : [] ++ toCome sep 0 (ss.drop 0) = R) : ([] ++ s.data.toList) ++ toCome sep 1 (ss.drop 1) = R := by
  rw [← h, drop_of_get hs]
  simp [toCome, Lib.join_cons]
theorem toCome_next {sep s : ByteArray} {k : Nat} {ss : List ByteArray} {B R : List UInt8} (hk : 0 < k) (hs : ss[k]? = some s) (h : B ++ toCome sep k (ss.drop k) = R) : ((B ++ sep.data.toList) ++ s.data.toList) ++ toCome sep (k + 1) (ss.drop (k + 1)) = R := by
  rw [← h, drop_of_get hs]
  have h0 : k ≠ 0 := by omega
  simp [toCome, h0, Lib.joinTail]
theorem toCome_end {sep : ByteArray} {k : Nat} {ss : List ByteArray} {B R : List UInt8} (hk : ss.length ≤ k) (h : B ++ toCome sep k (ss.drop k) = R) : B = R := by
  rw [drop_all ss k hk] at h
  rw [← h]
  unfold toCome
  split <;> simp [Lib.join, Lib.joinTail]
theorem toCome_len {sep : ByteArray} {k : Nat} {ss : List ByteArray} {B R : List UInt8} (h : B ++ toCome sep k ss = R) : B.length ≤ R.length := by rw [← h]; simp
set_option maxRecDepth 20000 in
theorem wpList_app_str {ops : Array Oper} {rest : List Oper} {o : Oper} {a : Act} {Q : Exit → Act → World → Prop} (W : World) (hgd : o.guard = none) (s x : Operand)
    (ho : o.op = .call { callee := .builtin .append, args := #[s, x], argTypes := #[22, 9] })
    (lo : Nat) (v : Value) (B : List UInt8) (hs : a.eval s = v) (h : OB W lo v B) (y : ByteArray) (hx : a.eval x = .string y) (hn : B.length + y.size ≤ 1099511627776) (hlo : lo ≤ W.heap.size)
    (K : ∀ v' w', OB w' lo v' (B ++ y.data.toList) → Below lo W w' → wpList Try.prog ops Q rest (a.put o.dst v') w') : wpList Try.prog ops Q (o :: rest) a W := by
  obtain ⟨i0, hi, hz0, hz1, hz2⟩ := info_parts info_u8
  have hyl : y.data.toList.length = y.size := Array.length_toList
  refine Lib.wpList_append_own_string W hgd s x 22 9 ho lo 5 i0 Try.underlying22 Try.underlying9 hi hz0 hz1 hz2 v B.length (u8C B) hs h.2 y hx (by unfold maxLen; omega) (by omega) hlo ?_
  intro v' w' hown hgrow _
  have e : (B ++ y.data.toList).length = B.length + y.size := by rw [List.length_append, hyl]
  refine K v' w' ⟨by rw [e]; exact hn, ?_⟩ ((Below.refl lo W).grown hgrow hlo (fun k hk => (h.ownlt k hk).1))
  rw [e, u8C_app]
  exact hown
section
variable {w w' : World} {lo g cap : Nat} {B : List UInt8}
theorem OB.num {n : Nat} (h : OB w lo (.slice (some ⟨g, 0, none⟩) n cap) B) : n = B.length := by
  rcases h.2.2 with ⟨e, _⟩ | ⟨g', c, cur, e, _⟩
  · cases e
  · injection e with _ e2 _
theorem OB.frozen {n : Nat} (h : OB w lo (.slice (some ⟨g, 0, none⟩) n cap) B) (k : Nat) : w.frozen? ⟨g, k, none⟩ = false := by
  obtain rfl := h.num
  exact h.2.frozenAt k
theorem OB.lt {n : Nat} (h : OB w lo (.slice (some ⟨g, 0, none⟩) n cap) B) : lo ≤ g ∧ g < w.heap.size := h.2.lt g rfl
theorem OB.cell {n : Nat} (h : OB w lo (.slice (some ⟨g, 0, none⟩) n cap) B) {k : Nat} {b : UInt8} (hk : B[k]? = some b) : w.cell? ⟨g, k, none⟩ = some (.int .u8 (b.toNat : Int)) := by
  have hc := h.2.cells (g := g) rfl k (.int .u8 (b.toNat : Int)) (by simp [u8C, hk])
  rw [Addr.add_lit] at hc
  simpa using hc
theorem OB.set {n : Nat} (h : OB w lo (.slice (some ⟨g, 0, none⟩) n cap) B) (k : Nat) (b : UInt8) : OB (w.setCell ⟨g, k, none⟩ (.int .u8 (b.toNat : Int))) lo (.slice (some ⟨g, 0, none⟩) n cap) (B.set k b) := by
  obtain rfl := h.num
  refine ⟨by simpa using h.1, ?_⟩
  have e : u8C (B.set k b) = (u8C B).set k (.int .u8 (b.toNat : Int)) := by unfold u8C; rw [List.map_set]
  rw [e, List.length_set]
  exact (h.2.stored k _).1
end
theorem make_bytes (n : Nat) (hn : n ≤ 1099511627776) (w : World) :
    (Instr.makeSlice 22 (.int .i64 (n : Int)) (.int .i64 (n : Int))).run Try.prog w = .ok (.slice (some ⟨w.heap.size, 0, none⟩) n n) (w.alloc (.cells (madeCells #[.int .u8 0] n) 5)) :=
  run_make_row' (P := Try.prog) 22 5 (.int .u8 0) 1 Try.underlying22 info_u8 rfl .i64 .i64 n (by omega) (by omega) w
theorem OB.made (w : World) (n : Nat) (hn : n ≤ 1099511627776) : OB (w.alloc (.cells (madeCells #[.int .u8 0] n) 5)) w.heap.size (.slice (some ⟨w.heap.size, 0, none⟩) n n) (List.replicate n 0) := by
  refine ⟨by simpa using hn, ?_⟩
  have h := World.ownsRow_lit (base := w.heap.size) (e := 5) (size := 1) w (madeCells #[.int .u8 0] n) n (Nat.le_refl _) (by unfold maxLen; omega) (by simp [madeCells])
  rw [toList_madeCells_one] at h
  rw [List.length_replicate]
  simpa [u8C] using h
end Go.Proofs.Ytblkgkgopneleaa

namespace Go.Proofs.Ytblkgkgopneleaa
open Go.RowKit
set_option linter.all false
def zt (x : Nat) : ByteArray := (⟨#[90, 47]⟩ : ByteArray) ++ decB x
def grpF : List Int → List ByteArray → ByteArray
  | [], ws => if ws.length = 0 then ⟨#[48]⟩ else joinB ws ⟨#[43]⟩
  | x :: r, ws => if x < 0 then ⟨#[]⟩ else if x = 0 then grpF r (ws ++ [⟨#[90]⟩]) else if 1 < x then grpF r (ws ++ [zt x.toNat]) else grpF r ws
def groupTxt (xs : List Int) : ByteArray := grpF xs []
theorem zt_size {x : Nat} (h : x < 18446744073709551616) : (zt x).size ≤ 22 := by
  have h1 := decB_size h
  have h2 : (zt x).size = 2 + (decB x).size := by unfold zt; rw [ByteArray.size_append]; rfl
  omega
theorem grp_step {xs : List Int} {k : Nat} {x : Int} {ws : List ByteArray} {R : ByteArray} (hx : xs[k]? = some x) (h : grpF (xs.drop k) ws = R) :
    (x < 0 → R = ⟨#[]⟩) ∧ (x = 0 → grpF (xs.drop (k + 1)) (ws ++ [⟨#[90]⟩]) = R) ∧ (1 < x → grpF (xs.drop (k + 1)) (ws ++ [zt x.toNat]) = R) ∧ (x = 1 → grpF (xs.drop (k + 1)) ws = R) := by
  rw [drop_of_get hx, grpF] at h
  refine ⟨fun e => ?_, fun e => ?_, fun e => ?_, fun e => ?_⟩
  · rw [if_pos e] at h; exact h.symm
  · rw [if_neg (by omega), if_pos e] at h; exact h
  · rw [if_neg (by omega), if_neg (by omega), if_pos e] at h; exact h
  · rw [if_neg (by omega), if_neg (by omega), if_neg (by omega)] at h; exact h
theorem grp_end {xs : List Int} {k : Nat} {ws : List ByteArray} {R : ByteArray} (hk : xs.length ≤ k) (h : grpF (xs.drop k) ws = R) : (ws.length = 0 → R = ⟨#[48]⟩) ∧ (0 < ws.length → R = joinB ws ⟨#[43]⟩) := by
  rw [drop_all xs k hk, grpF] at h
  constructor
  · intro e; rw [if_pos e] at h; exact h.symm
  · intro e; rw [if_neg (by omega)] at h; exact h.symm
theorem lens_le : ∀ (ws : List ByteArray) (m : Nat), (∀ s ∈ ws, s.size ≤ m) → Lib.lens (ws.map (·.data.toList)) ≤ m * ws.length
  | [], m, _ => by simp [Lib.lens]
  | s :: r, m, h => by
    have h1 := lens_le r m (fun x hx => h x (List.mem_cons_of_mem _ hx))
    have h2 := h s (List.mem_cons_self ..)
    have h3 : s.data.toList.length = s.size := Array.length_toList
    simp only [Lib.lens, List.map_cons, List.sum_cons, List.length_cons] at h1 ⊢
    rw [Nat.mul_succ]
    omega
theorem joinB_len (ws : List ByteArray) (sep : ByteArray) : (Lib.join (ws.map (·.data.toList)) sep.data.toList).length = (joinB ws sep).size := by simp [joinB, ByteArray.size]
theorem joinB_size {ws : List ByteArray} {sep : ByteArray} {m : Nat} (h : ∀ s ∈ ws, s.size ≤ m) : (joinB ws sep).size ≤ (m + sep.size) * ws.length := by
  have hs : sep.data.toList.length = sep.size := Array.length_toList
  have e : (joinB ws sep).size = (Lib.join (ws.map (·.data.toList)) sep.data.toList).length := by simp [joinB, ByteArray.size]
  rw [e]
  cases ws with
  | nil => simp [Lib.join]
  | cons s r =>
    rw [List.map_cons, Lib.join_length, hs, List.length_map]
    have h1 := lens_le (s :: r) m h
    rw [List.map_cons] at h1
    have h2 : (m + sep.size) * (s :: r).length = m * (s :: r).length + sep.size * (s :: r).length := Nat.add_mul ..
    have h3 : sep.size * r.length ≤ sep.size * (s :: r).length := Nat.mul_le_mul_left _ (by simp)
    omega
theorem all_push {ws : List ByteArray} {s : ByteArray} {m : Nat} (h : ∀ x ∈ ws, x.size ≤ m) (hs : s.size ≤ m) : ∀ x ∈ ws ++ [s], x.size ≤ m := by
  intro x hx
  rcases List.mem_append.1 hx with hx | hx
  · exact h x hx
  · simp at hx; subst hx; exact hs
end Go.Proofs.Ytblkgkgopneleaa

namespace Go.Proofs.Ytblkgkgopneleaa
open Go.RowKit
set_option linter.all false
def bl (s : ByteArray) (i : Nat) : Nat := if h : i < s.size then s[i].toNat else 0
theorem bl_get {s : ByteArray} {i : Nat} (h : i < s.size) : bl s i = s[i].toNat := by simp [bl, h]
theorem bl_lt (s : ByteArray) (i : Nat) : bl s i < 256 := by
  unfold bl
  split
  · exact UInt8.toNat_lt _
  · omega
def okW (k : Int) (s : ByteArray) : Nat → Nat → Bool
  | _, 0 => true
  | i, m + 1 => (decide (97 ≤ bl s i) && decide ((bl s i : Int) - 97 < k)) && okW k s (i + 1) m
def isWd (k : Int) (s : ByteArray) : Bool := inR k 1 3 && (decide (s.size ≤ 16) && okW k s 0 s.size)
theorem okW_step {k : Int} {s : ByteArray} {i m : Nat} {b : Bool} (h : okW k s i (m + 1) = b) :
    (¬ 97 ≤ bl s i → b = false) ∧ (¬ (bl s i : Int) - 97 < k → b = false) ∧ (97 ≤ bl s i → (bl s i : Int) - 97 < k → okW k s (i + 1) m = b) := by
  refine ⟨fun e => ?_, fun e => ?_, fun e1 e2 => ?_⟩
  · simpa [okW, e] using h.symm
  · simpa [okW, e] using h.symm
  · simpa [okW, e1, e2] using h
theorem okW_get {k : Int} {s : ByteArray} : ∀ {m i j : Nat}, okW k s i m = true → i ≤ j → j < i + m → 97 ≤ bl s j ∧ (bl s j : Int) - 97 < k
  | 0, i, j, _, h1, h2 => by omega
  | m + 1, i, j, h, h1, h2 => by
    simp only [okW, Bool.and_eq_true, decide_eq_true_eq] at h
    by_cases e : i = j
    · subst e; exact h.1
    · exact okW_get h.2 (by omega) (by omega)
theorem isWd_get {k : Int} {s : ByteArray} (h : isWd k s = true) : s.size ≤ 16 ∧ ∀ j, j < s.size → 97 ≤ bl s j ∧ (bl s j : Int) - 97 < k := by
  simp only [isWd, Bool.and_eq_true, decide_eq_true_eq] at h
  exact ⟨h.2.1, fun j hj => okW_get h.2.2 (Nat.zero_le _) (by omega)⟩
end Go.Proofs.Ytblkgkgopneleaa

namespace Go.Proofs.Ytblkgkgopneleaa
open Go.RowKit
set_option linter.all false
def spB (s : ByteArray) (b : Nat) : Nat → Nat → Nat → List ByteArray
  | 0, _, _ => []
  | f + 1, fr, i => if i = s.size ∨ bl s i = b then s.extract fr i :: spB s b f (i + 1) (i + 1) else spB s b f fr (i + 1)
def pieces (s : ByteArray) (b : Nat) : List ByteArray := spB s b (s.size + 1) 0 0
theorem spB_step {s : ByteArray} {b fr i : Nat} {acc R : List ByteArray} (hi : i ≤ s.size) (h : acc ++ spB s b (s.size + 1 - i) fr i = R) :
    ((i = s.size ∨ bl s i = b) → (acc ++ [s.extract fr i]) ++ spB s b (s.size + 1 - (i + 1)) (i + 1) (i + 1) = R) ∧ (i ≠ s.size → bl s i ≠ b → acc ++ spB s b (s.size + 1 - (i + 1)) fr (i + 1) = R) := by
  rw [show s.size + 1 - i = (s.size + 1 - (i + 1)) + 1 by omega, spB] at h
  refine ⟨fun e => ?_, fun e1 e2 => ?_⟩
  · rw [if_pos e] at h; rw [← h]; simp
  · rw [if_neg (by omega)] at h; exact h
set_option maxRecDepth 20000 in
set_option maxHeartbeats 3200000 in
theorem sSplitByte_any (s : ByteArray) (b : Nat) (w : World) (hs : s.size ≤ 1000000) (hb : b < 256) :
    Calls Try.prog 131 #[.string s, .int .u8 b] w fun e w' => ∃ v, e = .returned v ∧ OStrs w' w.heap.size v (pieces s b).length (pieces s b) ∧ Below w.heap.size w w' := by
  have HE := Lib.hid (OStrs.empty w w.heap.size (Nat.le_refl _))
  have HBE := Lib.hid (belowA w (.cells #[] 9))
  go_enter Try.func131, Try.ntmps131
  go_wp2_with fail
  go_loopw [5, 6, 7] (fun v y x wr => ∃ (fr i : Nat) (acc : List ByteArray), i ≤ s.size + 1 ∧ fr ≤ i ∧ acc.length ≤ i ∧ y = .int .i64 fr ∧ x = .int .i64 i ∧ OStrs wr w.heap.size v acc.length acc ∧ Hid (acc ++ spB s b (s.size + 1 - i) fr i = pieces s b) ∧ Below w.heap.size w wr) (fun _ _ x _ => s.size + 1 - (intOf x).toNat)
  case atStart => exact ⟨0, 0, [], Nat.zero_le _, Nat.le_refl _, Nat.le_refl _, rfl, rfl, HE.out, rfl, HBE.out⟩
  case round =>
    obtain ⟨fr, i, acc, hi, hf, hal, rfl, rfl, hown, hr, hbl⟩ := hrel
    obtain ⟨a7, c7, rfl, _⟩ := hown.form
    have HO := Lib.hid hown
    have HB := Lib.hid hbl
    clear hown hbl HE HBE
    by_cases hle : i ≤ s.size
    · have HST := Lib.hid (spB_step hle hr.out)
      clear hr
      have dle : decide ((i : Int) ≤ (s.size : Int)) = true := decide_eq_true (by omega)
      by_cases hlt : i < s.size
      · have dne : ((i : Int) == (s.size : Int)) = false := beq_eq_false_iff_ne.2 (by omega)
        obtain ⟨c, hc⟩ : ∃ c : Nat, s[i].toNat = c := ⟨_, rfl⟩
        have hbc : bl s i = c := (bl_get hlt).trans hc
        by_cases e : c = b
        · have d : ((c : Int) == (b : Int)) = true := beq_iff_eq.2 (by omega)
          have HN := Lib.hid (HST.out.1 (.inr (hbc.trans e)))
          clear HST hbc e
          go_wp2_with (at_builtin; refine wpList_push_str wr _ rfl (.tmp 26) (.tmp 31) rfl w.heap.size _ _ _ rfl HO.out (by omega) HB.out.size _ rfl rfl ?_; intro v3 w3 ho3 hb3; have HO3 := Lib.hid ho3; have HB3 := Lib.hid (HB.out.trans hb3); clear ho3 hb3)
          go_roundw
          case rel => exact ⟨i + 1, i + 1, _, by omega, Nat.le_refl _, by simp; omega, by go_num, by go_num, by simpa using HO3.out, HN.out, HB3.out⟩
          case measure => (simp [intOf] <;> omega)
        · have d : ((c : Int) == (b : Int)) = false := beq_eq_false_iff_ne.2 (by omega)
          have HN := Lib.hid (HST.out.2 (by omega) (by omega))
          clear HST hbc e
          go_wp2_with fail
          go_roundw
          case rel => exact ⟨fr, i + 1, acc, by omega, by omega, by omega, rfl, by go_num, HO.out, HN.out, HB.out⟩
          case measure => (simp [intOf] <;> omega)
      · have ei : i = s.size := by omega
        have hn := HST.out.1 (.inl ei)
        rw [show s.extract fr i = s.extract fr s.size by rw [ei]] at hn
        have HN := Lib.hid hn
        clear hn
        have deq : ((i : Int) == (s.size : Int)) = true := beq_iff_eq.2 (by omega)
        clear HST
        go_wp2_with (at_builtin; refine wpList_push_str wr _ rfl (.tmp 26) (.tmp 31) rfl w.heap.size _ _ _ rfl HO.out (by omega) HB.out.size _ rfl rfl ?_; intro v3 w3 ho3 hb3; have HO3 := Lib.hid ho3; have HB3 := Lib.hid (HB.out.trans hb3); clear ho3 hb3)
        go_roundw
        case rel => exact ⟨i + 1, i + 1, _, by omega, Nat.le_refl _, by simp; omega, by go_num, by go_num, by simpa using HO3.out, HN.out, HB3.out⟩
        case measure => (simp [intOf] <;> omega)
    · have dle : decide ((i : Int) ≤ (s.size : Int)) = false := decide_eq_false (by omega)
      have hR : acc = pieces s b := by
        have h := hr.out
        rw [show s.size + 1 - i = 0 by omega] at h
        simpa [spB] using h
      have HR := Lib.hid hR
      clear hr hR
      go_wp2_with fail
      go_ret
      rw [← HR.out]
      exact ⟨_, rfl, HO.out, HB.out⟩
end Go.Proofs.Ytblkgkgopneleaa

namespace Go.Proofs.Ytblkgkgopneleaa
open Go.RowKit
set_option linter.all false
set_option maxRecDepth 20000 in
set_option maxHeartbeats 3200000 in
theorem sFormat_any (u : Nat) (w : World) (hu : u ≤ 9223372036854775807) :
    Calls Try.prog 142 #[.int .i64 u] w fun e w' => e = .returned (.string (decB u)) ∧ Below w.heap.size w w' := by
  rcases Nat.eq_zero_or_pos u with h0 | h0
  · subst h0
    have hg : Hid (decB 0 = ⟨#[48]⟩) := by show _ = _; decide +kernel
    go_enter Try.func142, Try.ntmps142
    go_wp2_with fail
    go_ret
    rw [hg.out]
    exact ⟨rfl, Below.refl _ _⟩
  · have hne : ((u : Int) == 0) = false := by simp; omega
    have hlt : decide ((u : Int) < 0) = false := decide_eq_false (by omega)
    obtain ⟨U, hU⟩ : ∃ U : Nat, U = u := ⟨_, rfl⟩
    have HU := Lib.hid hU
    go_enter Try.func142, Try.ntmps142
    go_wp2_with fail
    clear hne hlt hU
    go_loopw [0, 4] (fun x o wr => ∃ (y : Nat) (s : ByteArray), y ≤ 9223372036854775807 ∧ x = .int .i64 y ∧ o = .string s ∧ Hid (dg y ++ s.data.toList = dg U) ∧ Below w.heap.size w wr) (fun x _ _ => (intOf x).toNat)
    case atStart => exact ⟨u, ⟨#[]⟩, hu, rfl, rfl, by show _ = _; rw [HU.out]; simp, Below.refl _ _⟩
    case round =>
      obtain ⟨y, s, hy, rfl, rfl, hr, hbl⟩ := hrel
      have hsz := dig_size (by have := HU.out; omega) hr.out
      have Hbl := Lib.hid hbl
      clear hbl
      by_cases hp : 0 < y
      · have hne : ((y : Int) != 0) = true := by simp; omega
        have HN := Lib.hid (dig_next hp hr.out)
        have HCS := catB_size (48 + UInt8.ofNat (y % 10)) s
        have hm10 : y % 10 < 10 := Nat.mod_lt _ (by omega)
        have hcv := fun z => conv_one wr z 5
        clear hr
        go_wp2_with fail
        go_roundw
        case rel => exact ⟨y / 10, catB (48 + UInt8.ofNat (y % 10)) s, by omega, by go_num, rfl, HN.out, step2 Hbl.out (belowA _ _)⟩
        case measure => (simp [intOf] <;> omega)
      · have hz : y = 0 := by omega
        subst hz
        have HE := Lib.hid (dig_done (u := U) (by have := HU.out; omega) hr.out)
        clear hr
        rw [show ((0 : Nat) : Int) = 0 from rfl]
        go_wp2_with fail
        go_ret
        exact ⟨ret_text (by rw [HE.out, HU.out]), Hbl.out⟩
theorem sFormat_succ (k : Nat) (w : World) (hk : k ≤ 1000000) :
    Calls Try.prog 142 #[.int .i64 ((k : Int) + 1)] w fun e w' => e = .returned (.string (decB (k + 1))) ∧ Below w.heap.size w w' := by
  have h := sFormat_any (k + 1) w (by omega)
  rw [show ((k + 1 : Nat) : Int) = (k : Int) + 1 from by omega] at h
  exact h
end Go.Proofs.Ytblkgkgopneleaa

namespace Go.Proofs.Ytblkgkgopneleaa
open Go.RowKit
set_option linter.all false
set_option maxRecDepth 20000 in
set_option maxHeartbeats 3200000 in
theorem l1Read_one (t : ByteArray) (d : Nat) (w : World) (hd : d ≤ 9) (hs : t.size = 1) (hb : bl t 0 = 48 + d) (hD : decB d = t) :
    Calls Try.prog 137 #[.string t, .int .i64 12] w fun e w' => e = .returned (.tuple #[.int .i64 d, .bool true]) ∧ Below w.heap.size w w' := by
  have HS := Lib.hid hs
  have HD := Lib.hid hD
  have h0 : 0 < t.size := by omega
  obtain ⟨x, hx⟩ : ∃ x : Nat, t[0].toNat = x := ⟨_, rfl⟩
  have hbx : x = 48 + d := by rw [← hb, bl_get h0]; exact hx.symm
  have e1 : decide ((0 : Int) < (t.size : Int)) = true := decide_eq_true (by omega)
  have e2 : ((x : Int) == 45) = false := beq_eq_false_iff_ne.2 (by omega)
  have e3 : decide ((t.size : Int) < 1) = false := decide_eq_false (by omega)
  have e4 : decide ((12 : Int) < (t.size : Int)) = false := decide_eq_false (by omega)
  have e5 : decide ((x : Int) < 48) = false := decide_eq_false (by omega)
  have e6 : decide ((57 : Int) < (x : Int)) = false := decide_eq_false (by omega)
  have HX := Lib.hid hbx
  clear hs hD hb hbx
  go_enter Try.func137, Try.ntmps137
  go_wp2_with fail
  go_loop [8, 9] (fun n i => (n = .int .i64 0 ∧ i = .int .i64 0) ∨ (n = .int .i64 d ∧ i = .int .i64 1)) (fun _ i => 1 - (intOf i).toNat)
  case atStart => exact .inl ⟨rfl, rfl⟩
  case round =>
    rcases hrel with ⟨rfl, rfl⟩ | ⟨rfl, rfl⟩
    · go_wp2_with fail
      go_round
      case rel => exact .inr ⟨by have := HX.out; subst this; go_num, rfl⟩
      case measure => simp [intOf]
    · have f1 : decide ((1 : Int) < (t.size : Int)) = false := decide_eq_false (by have := HS.out; omega)
      clear e1
      go_wp2_with (go_at_call 142; refine (sFormat_any d _ (by omega)).mono ?_; rw [HD.out]; rintro e w1 ⟨rfl, hb1⟩; have HB1 := Lib.hid hb1; clear hb1)
      go_ret2
      exact ⟨rfl, HB1.out⟩
set_option maxHeartbeats 800000 in
theorem sParseInt_one (t : ByteArray) (d : Nat) (w : World) (hd : d ≤ 9) (hs : t.size = 1) (hb : bl t 0 = 48 + d) (hD : decB d = t) :
    Calls Try.prog 132 #[.string t] w fun e w' => e = .returned (.tuple #[.int .i64 d, .bool true]) ∧ Below w.heap.size w w' := by
  have HC := fun W => l1Read_one t d W hd hs hb hD
  clear hs hb hD
  have HC := Lib.hid HC
  go_enter Try.func132, Try.ntmps132
  go_wp2_with (go_at_call 137; refine (HC.out _).mono ?_; rintro e w1 ⟨rfl, hb1⟩; have HB1 := Lib.hid hb1; clear hb1)
  go_ret2
  exact ⟨rfl, HB1.out⟩
end Go.Proofs.Ytblkgkgopneleaa

namespace Go.Proofs.Ytblkgkgopneleaa
open Go.RowKit
set_option linter.all false
theorem wpList_push_rowC {ops : Array Oper} {rest : List Oper} {o : Oper} {a : Act} {Q : Exit → Act → World → Prop} (W : World) (u : Value) (wr : World) (hgd : o.guard = none) (s x : Operand)
    (ho : o.op = .call { callee := .builtin .append, args := #[s, x], argTypes := #[46, 46] })
    (lo : Nat) (v : Value) (n : Nat) (xss : List (List Int)) (hs : a.eval s = v) (h : OIntss wr lo v n xss) (hn : n + 1 ≤ 1099511627776) (hlo : lo ≤ wr.heap.size) (hW : Below wr.heap.size wr W)
    (m : Nat) (r : List Int) (hu : OInts W wr.heap.size u m r) (tb : Nat) (htb : tb = W.heap.size) (hx : a.eval x = .slice (some ⟨tb, 0, none⟩) 1 1)
    (K : ∀ v' w', OIntss w' lo v' (n + 1) (xss ++ [r]) → W.grownBy w' v.ownBlock → NewOr W.heap.size v v' → wpList Try.prog ops Q rest (a.put o.dst v') w') : wpList Try.prog ops Q (o :: rest) a (W.alloc (.cells #[u] 42)) := by
  subst htb
  have hml := hu.len
  subst hml
  have hW2 : Below wr.heap.size wr (W.alloc (.cells #[u] 42)) := hW.alloc hW.size _
  obtain ⟨i0, hi, hz0, hz1, hz2⟩ := info_parts info_ints
  have hk := h.keep hW2
  have hu2 := (hu.alloc (.cells #[u] 42)).mono hlo
  have hfar := far_new h hW2 fun b hb => (hu.ownlt b hb).1
  obtain ⟨h1, h2, vs, hv, hr, hd⟩ := hk
  have hone : u.oneCell' = true := by
    rcases hu.2.2 with ⟨rfl, _⟩ | ⟨_, _, _, rfl, _⟩ <;> rfl
  refine wpList_plain hgd fun K' hK => ?_
  obtain ⟨v', w', hrun, q2, q3, _, q5⟩ := run_append_own_at (P := Try.prog) (W.alloc (.cells #[u] 42)) lo 46 o.type 42 i0 (.slice none 0 0) 1 24 Try.underlying46 hi hz0 hz1 hz2 rfl (by decide) v n vs hv ⟨W.heap.size, 0, none⟩ 1 1 [u] rfl
    (by
      intro j u' hj
      match j, hj with
      | 0, hj =>
        simp at hj
        subst hj
        exact World.cell?_alloc_new _ _ _ _)
    (by
      intro u' hu'
      simp at hu'
      subst hu'
      exact hone) (by unfold maxLen; omega) (by omega) (by simp; have := hW.size; omega)
  unfold Oper.wp execOp
  simp only [ho, resolve, invoke, builtin, Sem.run_bind, Sem.run_pure, Result.andThen_ok, List.map_toArray, List.map_cons, List.map_nil, hs, hx, hrun]
  refine hK _ _ (K v' w' ?_ ((grown_alloc W _ _).trans q3) ?_)
  · exact OIntss.pushed ⟨h1, h2, vs, hv, hr, hd⟩ hn hu2 hfar q3 fun vs' hv' => by rw [own_unique hv' hv]; exact q2
  · rcases q5 with h5 | h5
    · exact .inl h5
    · exact .inr ⟨_, h5, by simp⟩
end Go.Proofs.Ytblkgkgopneleaa

namespace Go.Proofs.Ytblkgkgopneleaa
open Go.RowKit
set_option linter.all false
set_option maxHeartbeats 800000 in
theorem sIsMatrix_any (ao : Option Addr) (n cap : Nat) (xss : List (List Int)) (w : World) (h : Intss w ao n xss) :
    Calls Try.prog 68 #[.slice ao n cap] w fun e w' => e = .returned (.bool (isMat xss)) ∧ w = w' := by
  have hm := h.2.1
  have HL := Lib.hid h.1
  have hg : Hid (isMat xss = (tabIn n 0 1000000 xss && inR n 1 9)) := by show isMat xss = _; unfold isMat; rw [h.1]
  have H := Lib.hid h
  clear h
  go_enter Try.func68, Try.ntmps68
  go_wp2
  go_loop [3] (fun i => ∃ k : Nat, k ≤ n ∧ i = .int .i64 k ∧ Hid (tabIn n 0 1000000 (xss.drop k) = tabIn n 0 1000000 xss)) (fun i => n - (intOf i).toNat)
  case atStart => exact ⟨0, Nat.zero_le _, rfl, rfl⟩
  case round =>
    obtain ⟨k, hk, rfl, hr⟩ := hrel
    by_cases hlt : k < n
    · obtain ⟨b, o, ai, ci, r, rfl, hcell, hrow, hget⟩ := H.out.at_ hlt
      clear H
      have Hst := Lib.hid (tabIn_step hget.out hr.out)
      have Hrow := Lib.hid hrow
      clear hrow hr
      by_cases hrl : r.length = n
      · have hne : ((r.length : Int) != (n : Int)) = false := by simp [hrl]
        have HRL := Lib.hid hrl
        clear hrl
        go_wp2
        go_loop [4] (fun i => ∃ j : Nat, j ≤ n ∧ i = .int .i64 j ∧ Hid (allIn 0 1000000 (r.drop j) = allIn 0 1000000 r)) (fun i => n - (intOf i).toNat)
        case atStart => exact ⟨0, Nat.zero_le _, rfl, rfl⟩
        case round =>
          obtain ⟨j, hj, rfl, hrj⟩ := hrel
          by_cases hjn : j < n
          · obtain ⟨b', o', x, rfl, hcell', hget'⟩ := Hrow.out.at_ (k := j) (by have := HRL.out; omega)
            clear Hrow
            have hjr : j < r.length := by have := HRL.out; omega
            have Hsj := Lib.hid (allIn_step hget'.out hrj.out)
            clear hrj
            cases hi : inR x 0 1000000
            · have hr1 : Hid _ := Hst.out.2.1 (Hsj.out.2 hi)
              clear Hst Hsj
              go_wp2_with (first | (go_at_call 52; refine (l1In_any _ _ _ _).mono ?_; rintro e w' ⟨rfl, rfl⟩))
              go_ret
              exact ⟨ret_bool (by rw [hg.out, hr1.out]; rfl), rfl⟩
            · have hr1 : Hid _ := Hsj.out.1 hi
              clear Hst Hsj
              go_wp2_with (first | (go_at_call 52; refine (l1In_any _ _ _ _).mono ?_; rintro e w' ⟨rfl, rfl⟩))
              go_round
              case rel => exact ⟨j + 1, hjn, by go_num, hr1⟩
              case measure => simp [intOf]; omega
          · have hr1 : Hid _ := Hst.out.2.2 HRL.out (by have := hrj.out; rw [drop_all r j (by have := HRL.out; omega)] at this; exact this.symm)
            clear Hst hrj Hrow
            go_wp2
            go_round
            case rel => exact ⟨k + 1, hlt, by go_num, hr1⟩
            case measure => simp [intOf]; omega
      · have hne : ((r.length : Int) != (n : Int)) = true := by simp; omega
        have hr1 : Hid _ := Hst.out.1 hrl
        clear Hst hrl
        go_wp2
        go_ret
        exact ⟨ret_bool (by rw [hg.out, hr1.out]; rfl), rfl⟩
    · rw [drop_all xss k (by have := HL.out; omega)] at hr
      have hr1 : Hid _ := hr.out.symm
      clear hr H
      go_wp2_with (first | (go_at_call 52; refine (l1In_any _ _ _ _).mono ?_; rintro e w' ⟨rfl, rfl⟩))
      go_ret
      exact ⟨ret_bool (by rw [hg.out, hr1.out]; rfl), rfl⟩
end Go.Proofs.Ytblkgkgopneleaa

namespace Go.Proofs.Ytblkgkgopneleaa
open Go.RowKit
set_option linter.all false
def digB (d : Nat) : ByteArray := ⟨#[UInt8.ofNat (48 + d)]⟩
theorem digB_dec {d : Nat} (h : d ≤ 9) : decB d = digB d := by
  unfold decB digB
  rw [Lib.decDigits, dif_pos (by omega), ofNat48]
theorem digB_bl {d : Nat} (h : d ≤ 9) : bl (digB d) 0 = 48 + d := by
  have : ∀ k : Fin 10, bl (digB k.val) 0 = 48 + k.val := by decide
  exact this ⟨d, by omega⟩
theorem parseDig_any (d : Nat) (w : World) (hd : d ≤ 9) : Calls Try.prog 132 #[.string (digB d)] w fun e w' => e = .returned (.tuple #[.int .i64 d, .bool true]) ∧ Below w.heap.size w w' :=
  sParseInt_one (digB d) d w hd rfl (digB_bl hd) (digB_dec hd)
def toI (d : Nat) : Int := d
def intM (M : List (List Nat)) : List (List Int) := M.map (fun q => q.map toI)
def readsAs (s : ByteArray) (M : List (List Nat)) : Prop := (pieces s 47).map (fun r => pieces r 44) = M.map (fun q => q.map digB) ∧ (∀ q ∈ M, q.length ≤ 9 ∧ ∀ d ∈ q, d ≤ 9) ∧ isMat (intM M) = true ∧ s.size ≤ 1000
theorem apart_fresh {w w' : World} {lo n : Nat} {u v : Value} {ss : List ByteArray} (hv : ∀ b, v.ownBlock = some b → b < w.heap.size) (hu : OStrs w' w.heap.size u n ss) : Apart u v := by
  intro b h1 h2
  have e1 := (hu.ownlt b h1).1
  have e2 := hv b h2
  omega
theorem pieces_size {s : ByteArray} {b : Nat} : ∀ {f fr i : Nat} {t : ByteArray}, i ≤ s.size → t ∈ spB s b f fr i → i + f ≤ s.size + 1 → t.size ≤ s.size
  | 0, _, _, _, _, h, _ => by simp [spB] at h
  | f + 1, fr, i, t, hi, h, hf => by
    unfold spB at h
    split at h
    · rcases List.mem_cons.1 h with rfl | h
      · rw [ByteArray.size_extract]; omega
      · by_cases e : i + 1 ≤ s.size
        · exact pieces_size e h (by omega)
        · have : f = 0 := by omega
          subst this
          simp [spB] at h
    · by_cases e : i + 1 ≤ s.size
      · exact pieces_size e h (by omega)
      · have : f = 0 := by omega
        subst this
        simp [spB] at h
theorem intM_get {M : List (List Nat)} {k : Nat} {q : List Nat} (h : M[k]? = some q) : (intM M)[k]? = some (q.map toI) := by simp [intM, h]
set_option maxRecDepth 20000 in
set_option maxHeartbeats 3200000 in
theorem sParse_any (s : ByteArray) (M : List (List Nat)) (w : World) (h : readsAs s M) :
    Calls Try.prog 121 #[.string s] w fun e w' => ∃ v, e = .returned (.tuple #[v, .bool true]) ∧ OIntss w' w.heap.size v (intM M).length (intM M) ∧ Below w.heap.size w w' := by
  obtain ⟨h1, h2, h3, h4⟩ := h
  have HE := Lib.hid (OIntss.empty w w.heap.size (Nat.le_refl _))
  have HBE := Lib.hid ((Below.refl w.heap.size w).alloc (Nat.le_refl _) (.cells #[] 42))
  have H3 := Lib.hid h3
  have hl9 := isMat_len h3
  have hMl : (intM M).length = M.length := by simp [intM]
  have hLl : (pieces s 47).length = M.length := by have := congrArg List.length h1; simpa using this
  have HK : Hid (∀ (k : Nat) (t : ByteArray), (pieces s 47)[k]? = some t → t.size ≤ 1000000 ∧ ∃ q, M[k]? = some q ∧ pieces t 44 = q.map digB ∧ q.length ≤ 9 ∧ ∀ d ∈ q, d ≤ 9) := by
    show ∀ (k : Nat) (t : ByteArray), _
    intro k t ht
    have e := congrArg (fun l => l[k]?) h1
    simp only [List.getElem?_map, ht, Option.map_some] at e
    cases hq : M[k]? with
    | none => rw [hq] at e; simp at e
    | some q =>
      rw [hq] at e
      simp at e
      have := pieces_size (Nat.zero_le _) (List.mem_of_getElem? ht) (by omega)
      exact ⟨by omega, q, rfl, e, h2 q (List.mem_of_getElem? hq)⟩
  clear h1 h2 h3
  generalize hL : pieces s 47 = L at HK hLl
  have HC := fun W => sSplitByte_any s 47 W (by omega) (by omega)
  rw [hL] at HC
  have HC := Lib.hid HC
  clear hL
  have hL9 : L.length ≤ 9 := by omega
  go_enter Try.func121, Try.ntmps121
  go_wp2_with (go_at_call 131; refine (HC.out _).mono ?_; rintro e w1 ⟨v1, rfl, ho1, hb1⟩; obtain ⟨a1, c1, rfl, hi1⟩ := ho1.form; have HA := Lib.hid (apart_fresh (lo := 0) (fun b hb => (HE.out.ownlt b hb).2) ho1); have HO1 := Lib.hid (ho1.mono HBE.out.size); have HB1 := Lib.hid (step2 HBE.out hb1); have HE1 := Lib.hid (HE.out.keep hb1); clear ho1 hi1 hb1)
  clear HC
  go_loopw [4, 6] (fun v x wr => ∃ k : Nat, k ≤ L.length ∧ x = .int .i64 k ∧ OIntss wr w.heap.size v k ((intM M).take k) ∧ OStrs wr w.heap.size (.slice a1 L.length c1) L.length L ∧ Apart (.slice a1 L.length c1) v ∧ Below w.heap.size w wr) (fun _ x _ => L.length - (intOf x).toNat)
  case atStart => exact ⟨0, Nat.zero_le _, rfl, HE1.out, HO1.out, HA.out, HB1.out⟩
  case round =>
    obtain ⟨k, hk, rfl, hown, hst, hap, hbl⟩ := hrel
    obtain ⟨wo, rfl⟩ : ∃ wo : World, wo = wr := ⟨_, rfl⟩
    obtain ⟨a7, c7, rfl, _⟩ := hown.form
    clear HE HBE HA HO1 HB1 HE1
    have HO := Lib.hid hown
    have HB := Lib.hid hbl
    have HST := Lib.hid hst
    have HAP := Lib.hid hap
    clear hown hbl hst hap
    by_cases hlt : k < L.length
    · obtain ⟨b, o, t, rfl, hc, hs⟩ := HST.out.read.at_ hlt
      obtain ⟨ht, q, hq, hpc, hq9, hd9⟩ := HK.out k t hs.out
      have HQ := Lib.hid hq
      have HD9 := Lib.hid hd9
      have HRE := Lib.hid (OInts.empty wo wo.heap.size (Nat.le_refl _))
      have HRB := Lib.hid ((Below.refl wo.heap.size wo).alloc (Nat.le_refl _) (.cells #[] 3))
      have hc2 := (HRB.out.cell (World.block_lt_of_cell? wo _ hc)).trans hc
      have HC := fun W => sSplitByte_any t 44 W ht (by omega)
      rw [hpc] at HC
      simp only [List.length_map] at HC
      have HC := Lib.hid HC
      clear hs hq hpc hd9 hc
      go_wp2_with (go_at_call 131; refine (HC.out _).mono ?_; rintro e w2 ⟨v2, rfl, ho2, hb2⟩; obtain ⟨a2, c2, rfl, hi2⟩ := ho2.form; have HA2 := Lib.hid (apart_fresh (lo := 0) (fun b hb => (HRE.out.ownlt b hb).2) ho2); have HO2 := Lib.hid (ho2.mono HRB.out.size); have HB2 := Lib.hid (step2 HRB.out hb2); have HR2 := Lib.hid (HRE.out.keep hb2); clear ho2 hi2 hb2)
      clear HC hc2
      go_loopw [7, 9] (fun v x wx => ∃ j : Nat, j ≤ q.length ∧ x = .int .i64 j ∧ OInts wx wo.heap.size v j ((q.map toI).take j) ∧ OStrs wx wo.heap.size (.slice a2 q.length c2) q.length (q.map digB) ∧ Apart (.slice a2 q.length c2) v ∧ Below wo.heap.size wo wx) (fun _ x _ => q.length - (intOf x).toNat)
      case atStart => exact ⟨0, Nat.zero_le _, rfl, HR2.out, HO2.out, HA2.out, HB2.out⟩
      case round =>
        obtain ⟨j, hj, rfl, hline, hpt, hap2, hbx⟩ := hrel
        obtain ⟨a9, c9, rfl, _⟩ := hline.form
        clear HRE HRB HA2 HO2 HB2 HR2
        have HLI := Lib.hid hline
        have HPT := Lib.hid hpt
        have HAX := Lib.hid hap2
        have HBX := Lib.hid hbx
        clear hline hpt hap2 hbx
        by_cases hjn : j < q.length
        · obtain ⟨b2, o2, y, rfl, hcy, hsy⟩ := HPT.out.read.at_ hjn
          have hqj : q[j]? = some q[j] := List.getElem?_eq_getElem hjn
          have hy : y = digB q[j] := by
            have := hsy.out
            rw [List.getElem?_map, hqj] at this
            injection this with this
            exact this.symm
          have hd := HD9.out q[j] (List.getElem_mem _)
          have HN : Hid ((q.map toI)[j]? = some ((q[j] : Nat) : Int)) := by show _ = _; simp [hqj, toI]
          generalize q[j] = d at hy hd HN
          subst hy
          clear hsy hqj
          go_wp2_with (first
            | (at_builtin; refine wpList_push_at w3 _ rfl (.tmp 44) (.tmp 46) rfl wo.heap.size _ _ _ rfl HL3.out (by omega) (by exact HB3.out.size) _ rfl rfl ?_; intro v5 w5 ho5 hg5 hn5; have HO5 := Lib.hid ho5; have HB5 := Lib.hid (HB3.out.grown hg5 HB3.out.size (fun b hb => (HL3.out.ownlt b hb).1)); have HP5 := Lib.hid (HP3.out.far hg5 HAX.out); have HA5 := Lib.hid (hn5.apart HAX.out (fun b hb => (HP3.out.ownlt b hb).2)); clear ho5 hg5 hn5)
            | (go_at_call 132; refine (parseDig_any d _ hd).mono ?_; rintro e w3 ⟨rfl, hb3⟩; have HB3 := Lib.hid (step2 HBX.out hb3); have HL3 := Lib.hid (HLI.out.keep hb3); have HP3 := Lib.hid (HPT.out.keep hb3); clear hb3))
          go_roundw
          case rel =>
            have h5 := HO5.out
            rw [push_take HN.out] at h5
            exact ⟨j + 1, hjn, by go_num, h5, HP5.out, HA5.out, HB5.out⟩
          case measure => (simp [intOf] <;> omega)
        · have HFU : Hid (OInts wr wo.heap.size (.slice a9 j c9) q.length (q.map toI)) := by
            have h := HLI.out
            rw [List.take_of_length_le (by simp; omega)] at h
            rw [show q.length = j by omega]
            exact h
          go_wp2_with (first | (at_builtin; refine wpList_push_rowC _ _ wo rfl (.tmp 48) (.tmp 50) rfl w.heap.size _ k _ rfl HO.out (by omega) HB.out.size HBX.out _ _ HFU.out _ (by rfl) rfl ?_; intro v6 w6 ho6 hg6 hn6; have HO6 := Lib.hid ho6; have HB6 := Lib.hid (((HB.out.trans (HBX.out.mono HB.out.size))).grown hg6 (Nat.le_trans HB.out.size HBX.out.size) (fun b hb => (HO.out.ownlt b hb).1)); have HST6 := Lib.hid ((HST.out.keep HBX.out).far hg6 HAP.out); have HAP6 := Lib.hid (hn6.apart HAP.out (fun b hb => Nat.lt_of_lt_of_le (HST.out.ownlt b hb).2 HBX.out.size)); clear ho6 hg6 hn6))
          go_roundw
          case rel =>
            have h6 := HO6.out
            rw [push_take (intM_get HQ.out)] at h6
            exact ⟨k + 1, hlt, by go_num, h6, HST6.out, HAP6.out, HB6.out⟩
          case measure => (simp [intOf] <;> omega)
    · have hke : k = (intM M).length := by omega
      have HF : Hid (OIntss wo w.heap.size (.slice a7 k c7) k (intM M)) := by
        have h := HO.out
        rw [List.take_of_length_le (by omega)] at h
        exact h
      have HFI : Hid (Intss wo a7 k (intM M)) := by
        obtain ⟨ax, cx, e, hx⟩ := HF.out.form
        cases e
        exact hx
      have HKE := Lib.hid hke
      clear hke hMl
      go_wp2_with (go_at_call 68; refine (sIsMatrix_any _ _ _ (intM M) _ HFI.out).mono ?_; rw [H3.out]; rintro e w' ⟨rfl, rfl⟩)
      go_ret2
      rw [← HKE.out]
      exact ⟨_, rfl, HF.out, HB.out⟩
end Go.Proofs.Ytblkgkgopneleaa

namespace Go.Proofs.Ytblkgkgopneleaa
open Go.RowKit
set_option linter.all false
set_option maxHeartbeats 1600000 in
theorem sL4Zero_any (n c : Nat) (w : World) (hn : n ≤ 1048576) (hc : c ≤ 1048576) :
    Calls Try.prog 75 #[.int .i64 n, .int .i64 c] w fun e w' => ∃ v, e = .returned v ∧ OIntss w' w.heap.size v n (List.replicate n (List.replicate c 0)) ∧ Below w.heap.size w w' := by
  have hmk := make_ints c (by omega)
  go_enter Try.func75, Try.ntmps75
  go_wp2
  go_loopw [5, 6] (fun v i wr => ∃ k : Nat, k ≤ n ∧ i = .int .i64 k ∧ OIntss wr w.heap.size v k (List.replicate k (List.replicate c 0)) ∧ Below w.heap.size w wr) (fun _ i _ => n - (intOf i).toNat)
  case atStart => exact ⟨0, Nat.zero_le _, rfl, OIntss.empty w _ (Nat.le_refl _), (Below.refl _ _).alloc (Nat.le_refl _) _⟩
  case round =>
    obtain ⟨k, hk, rfl, hown, hb⟩ := hrel
    by_cases hlt : k < n
    · have Hown := Lib.hid hown
      have Hb := Lib.hid hb
      clear hown hb
      go_wp2_with (first | (at_builtin; refine wpList_push_fresh _ _ wr rfl _ _ rfl w.heap.size _ k _ rfl Hown.out (by omega) Hb.out.size ((Below.refl _ _).alloc (Nat.le_refl _) _) c _ (OInts.made wr c (by omega)) _ ?ctb rfl ?_))
      case ctb => simp
      intro v' w' hown' hbel _
      rw [rep_push] at hown'
      have hb' := Hb.out.trans hbel
      go_wp2_with fail
      go_roundw
      case rel => exact ⟨k + 1, hlt, by go_num, hown', hb'⟩
      case measure => simp [intOf]; omega
    · go_wp2
      go_ret
      have : k = n := by omega
      subst this
      exact ⟨_, rfl, hown, hb⟩
end Go.Proofs.Ytblkgkgopneleaa

namespace Go.Proofs.Ytblkgkgopneleaa
open Go.RowKit
set_option linter.all false
theorem sMax_any (x y : Int) (w : World) :
    Calls Try.prog 102 #[.int .i64 x, .int .i64 y] w fun e w' => e = .returned (.int .i64 (if y < x then x else y)) ∧ w = w' := by
  by_cases h : y < x
  · rw [if_pos h]
    go_enter Try.func102, Try.ntmps102
    go_wp2_with fail
    go_ret
    exact ⟨rfl, rfl⟩
  · rw [if_neg h]
    go_enter Try.func102, Try.ntmps102
    go_wp2_with fail
    go_ret
    exact ⟨rfl, rfl⟩
end Go.Proofs.Ytblkgkgopneleaa

namespace Go.Proofs.Ytblkgkgopneleaa
open Go.RowKit
set_option linter.all false
def mn (x y : Int) : Int := if x < y then x else y
end Go.Proofs.Ytblkgkgopneleaa

namespace Go.Proofs.Ytblkgkgopneleaa
open Go.RowKit
set_option linter.all false
theorem l1Min_any (x y : Int) (w : World) :
    Calls Try.prog 103 #[.int .i64 x, .int .i64 y] w fun e w' => e = .returned (.int .i64 (mn x y)) ∧ w = w' := by
  by_cases h : x < y
  · have e : mn x y = x := by unfold mn; rw [if_pos h]
    rw [e]
    go_enter Try.func103, Try.ntmps103
    go_wp2_with fail
    go_ret
    exact ⟨rfl, rfl⟩
  · have e : mn x y = y := by unfold mn; rw [if_neg h]
    rw [e]
    go_enter Try.func103, Try.ntmps103
    go_wp2_with fail
    go_ret
    exact ⟨rfl, rfl⟩
end Go.Proofs.Ytblkgkgopneleaa

namespace Go.Proofs.Ytblkgkgopneleaa
open Go.RowKit
set_option linter.all false
def strRow (i : Nat) (r : List Int) : List Int := (r ++ [r.getD i 0]).set i 0
def strT (i : Nat) (m : List (List Int)) : List (List Int) := m.map (strRow i)
def lastRow (n i : Nat) : List Int := (List.replicate (n + 1) 0).set i 1
def strOk (m : List (List Int)) (i : Int) : Bool := isMat m && (!(decide (m.length = 9)) && inR i 0 ((m.length : Int) - 1))
def strV (m : List (List Int)) (i : Int) : List (List Int) := if strOk m i then strT i.toNat m ++ [lastRow m.length i.toNat] else []
theorem strT_len (i : Nat) (m : List (List Int)) : (strT i m).length = m.length := by simp [strT]
theorem strT_get {i k : Nat} {m : List (List Int)} {r : List Int} (h : m[k]? = some r) : (strT i m)[k]? = some (strRow i r) := by simp [strT, h]
theorem strRow_len (i : Nat) (r : List Int) : (strRow i r).length = r.length + 1 := by simp [strRow]
theorem lastRow_len (n i : Nat) : (lastRow n i).length = n + 1 := by simp [lastRow]
theorem strV_tot {m : List (List Int)} {i : Int} : tot (strV m i) ≤ 1000000000 := by
  unfold strV
  cases h : strOk m i
  · simp [tot]
  · simp only [if_true]
    have hm : isMat m = true := by simp only [strOk, Bool.and_eq_true] at h; exact h.1
    have hl := isMat_len hm
    have h1 : ∀ (l : List (List Int)), (∀ r ∈ l, r.length ≤ 10) → tot l ≤ 10 * l.length := by
      intro l
      induction l with
      | nil => intro _; simp [tot]
      | cons r rs ih =>
        intro h
        have a1 := h r (by simp)
        have a2 := ih (fun q hq => h q (by simp [hq]))
        rw [tot_cons]
        simp only [List.length_cons]
        omega
    have h2 := h1 (strT i.toNat m ++ [lastRow m.length i.toNat]) (by
      intro r hr
      rcases List.mem_append.1 hr with hr | hr
      · obtain ⟨q, hq, rfl⟩ := List.mem_map.1 hr
        obtain ⟨k, hk⟩ := List.getElem?_of_mem hq
        rw [strRow_len, (isMat_row hm hk).1]
        omega
      · simp only [List.mem_singleton] at hr
        subst hr
        rw [lastRow_len]
        omega)
    simp only [List.length_append, strT_len, List.length_singleton] at h2
    omega
/-- One row has grown by an append and is stored again. -/
theorem OIntss.pushIn {w w' : World} {lo g n cap k : Nat} {xss : List (List Int)} {r r' : List Int} {u u' : Value} (h : OIntss w lo (.slice (some ⟨g, 0, none⟩) n cap) n xss) (hk : xss[k]? = some r) (hc : w.cell? ⟨g, k, none⟩ = some u)
    (hu : OInts w' lo u' r'.length r') (hg : w.grownBy w' u.ownBlock) (hnw : NewOr w.heap.size u u') : OIntss (w'.setCell ⟨g, k, none⟩ u') lo (.slice (some ⟨g, 0, none⟩) n cap) n (xss.set k r') := by
  obtain ⟨h1, h2, vs, hv, hr, hd⟩ := h
  have hvl : vs.length = n := by simpa using hv.1
  have hkn : k < n := by rw [← h2]; exact (List.getElem?_eq_some_iff.1 hk).1
  have hvk : vs[k]? = some u := by
    have h3 : vs[k]? = some vs[k] := List.getElem?_eq_getElem (by omega)
    have h4 := hv.cells (g := g) rfl k _ h3
    rw [Addr.add_lit] at h4
    simp at h4
    rw [h4] at hc
    injection hc with hc
    rw [h3, hc]
  have hou := hr k u r hvk hk
  have hne : (Value.slice (some ⟨g, 0, none⟩) n cap).ownBlock = none ∨ (Value.slice (some ⟨g, 0, none⟩) n cap).ownBlock ≠ u.ownBlock := by
    right
    intro e
    rcases own_int_ne hou hv with e2 | e2
    · rw [e2] at e; simp [Value.ownBlock] at e
    · exact e2 e.symm
  have hv' := hv.kept hg hne
  have hst := hv'.stored k u'
  refine ⟨h1, by simpa using h2, vs.set k u', hst.1, ?_, ?_⟩
  · intro i q s hq hs
    rw [List.getElem?_set] at hq hs
    by_cases e : k = i
    · subst e
      rw [if_pos rfl] at hq hs
      split at hq <;> split at hs <;> simp_all
      subst hq
      subst hs
      exact hu.grown hst.2 (by
        rcases own_int_ne hu hv' with e2 | e2
        · exact .inl e2
        · right; intro e3; exact e2 e3)
    · rw [if_neg e] at hq hs
      have h5 := (hr i q s hq hs).grown hg (hd i k q u (fun e2 => e e2.symm) hq hvk)
      exact h5.grown hst.2 (by
        rcases own_int_ne h5 hv' with e2 | e2
        · exact .inl e2
        · right; intro e3; exact e2 e3)
  · have key : ∀ (i : Nat) (q : Value), i ≠ k → vs[i]? = some q → Apart q u' := by
      intro i q hik hq
      have hi : i < xss.length := by rw [h2, ← hvl]; exact (List.getElem?_eq_some_iff.1 hq).1
      have hoq := hr i q _ hq (List.getElem?_eq_getElem hi)
      refine hnw.apart ?_ (fun b hb => (hoq.2.lt b hb).2)
      intro b hb e
      rcases hd i k q u hik hq hvk with e2 | e2
      · rw [e2] at hb; cases hb
      · exact e2 (by rw [hb, e])
    intro i j q1 q2 hij h3 h4
    rw [List.getElem?_set] at h3 h4
    by_cases ei : k = i
    · rw [if_pos ei] at h3
      rw [if_neg (by omega)] at h4
      split at h3
      · injection h3 with h3
        subst h3
        cases hb : u'.ownBlock with
        | none => exact .inl rfl
        | some b => right; exact fun e => key j q2 (by omega) h4 b e.symm hb
      · cases h3
    · rw [if_neg ei] at h3
      by_cases ej : k = j
      · rw [if_pos ej] at h4
        split at h4
        · injection h4 with h4
          subst h4
          exact (key i q1 (by omega) h3).ne
        · cases h4
      · rw [if_neg ej] at h4
        exact hd i j q1 q2 hij h3 h4
end Go.Proofs.Ytblkgkgopneleaa

namespace Go.Proofs.Ytblkgkgopneleaa
open Go.RowKit
set_option linter.all false
def FarAll (W : World) (lo : Nat) (v : Value) (n : Nat) (u : Value) : Prop := ∀ vs : List Value, W.ownsRow lo 42 1 v n vs → ∀ (i : Nat) (u' : Value), vs[i]? = some u' → Apart u u'
theorem FarAll.of {W : World} {lo lo' n : Nat} {v u : Value} {vs : List Value} (hv : W.ownsRow lo' 42 1 v n vs) (h : ∀ (i : Nat) (u' : Value), vs[i]? = some u' → Apart u u') : FarAll W lo v n u := by
  intro vs' h' i u' hi
  rw [own_unique h' hv] at hi
  exact h i u' hi
/-- The values of the rows: each block is one of the world's. -/
theorem OIntss.vals {W : World} {lo n : Nat} {v : Value} {xss : List (List Int)} (h : OIntss W lo v n xss) : ∃ vs : List Value, W.ownsRow lo 42 1 v n vs ∧ ∀ (i : Nat) (u' : Value), vs[i]? = some u' → ∀ b, u'.ownBlock = some b → lo ≤ b ∧ b < W.heap.size := by
  obtain ⟨h1, h2, vs, hv, hr, hd⟩ := h
  have hvl : vs.length = n := by simpa using hv.1
  refine ⟨vs, hv, fun i u' hi b hb => ?_⟩
  have hil : i < xss.length := by rw [h2, ← hvl]; exact (List.getElem?_eq_some_iff.1 hi).1
  exact (hr i u' _ hi (List.getElem?_eq_getElem hil)).2.lt b hb
theorem FarAll.new {W0 W : World} {lo n : Nat} {v u : Value} {xss : List (List Int)} (h : OIntss W0 lo v n xss) (hb : Below W0.heap.size W0 W) (hu : ∀ b, u.ownBlock = some b → W0.heap.size ≤ b) : FarAll W lo v n u := by
  obtain ⟨vs, hv, hl⟩ := h.vals
  refine FarAll.of (own_keep hv hb) fun i u' hi b hbu e => ?_
  have := (hl i u' hi b e).2
  have := hu b hbu
  omega
theorem FarAll.keep {W W' : World} {lo n : Nat} {v u : Value} {xss : List (List Int)} (h : OIntss W lo v n xss) (hf : FarAll W lo v n u) (hb : Below W.heap.size W W') : FarAll W' lo v n u := by
  obtain ⟨vs, hv, _⟩ := h.vals
  exact FarAll.of (own_keep hv hb) (hf vs hv)
/-- All rows lie from lo2 on, as they did in W0; u lies below lo2 or is new. -/
theorem FarAll.mid {W0 W : World} {lo lo2 n g : Nat} {v u : Value} {xss : List (List Int)} (h : OIntss W0 lo2 v n xss) (hg : W0.grownBy W (some g)) (hgl : g < lo2) (hu : ∀ b, u.ownBlock = some b → b < lo2 ∨ W0.heap.size ≤ b) : FarAll W lo v n u := by
  obtain ⟨vs, hv, hl⟩ := h.vals
  have hv' : W.ownsRow lo2 42 1 v n vs := hv.kept hg (by
    cases hb : v.ownBlock with
    | none => exact .inl rfl
    | some b => right; intro e; injection e with e; have := (hv.lt b hb).1; omega)
  refine FarAll.of hv' fun i u' hi b hbu e => ?_
  have := hl i u' hi b e
  rcases hu b hbu with h | h <;> omega
theorem FarAll.put {W : World} {lo n g cap k : Nat} {u u2 : Value} {xss : List (List Int)} (h : OIntss W lo (.slice (some ⟨g, 0, none⟩) n cap) n xss) (hf : FarAll W lo (.slice (some ⟨g, 0, none⟩) n cap) n u) (h2 : Apart u u2) :
    FarAll (W.setCell ⟨g, k, none⟩ u2) lo (.slice (some ⟨g, 0, none⟩) n cap) n u := by
  obtain ⟨vs, hv, _⟩ := h.vals
  refine FarAll.of (hv.stored k u2).1 fun i u' hi => ?_
  rw [List.getElem?_set] at hi
  split at hi
  · split at hi
    · injection hi with hi
      subst hi
      exact h2
    · cases hi
  · exact hf vs hv i u' hi
/-- A row is pushed that shares no block with the others. -/
theorem wpList_push_rowF {ops : Array Oper} {rest : List Oper} {o : Oper} {a : Act} {Q : Exit → Act → World → Prop} (W : World) (u : Value) (hgd : o.guard = none) (s x : Operand)
    (ho : o.op = .call { callee := .builtin .append, args := #[s, x], argTypes := #[46, 46] })
    (lo : Nat) (v : Value) (n : Nat) (xss : List (List Int)) (hs : a.eval s = v) (h : OIntss W lo v n xss) (hn : n + 1 ≤ 1099511627776) (hlo : lo ≤ W.heap.size)
    (m : Nat) (r : List Int) (hu : OInts W lo u m r) (hf : FarAll W lo v n u) (tb : Nat) (htb : tb = W.heap.size) (hx : a.eval x = .slice (some ⟨tb, 0, none⟩) 1 1)
    (K : ∀ v' w', OIntss w' lo v' (n + 1) (xss ++ [r]) → Below lo W w' → wpList Try.prog ops Q rest (a.put o.dst v') w') : wpList Try.prog ops Q (o :: rest) a (W.alloc (.cells #[u] 42)) := by
  subst htb
  have hml := hu.len
  subst hml
  have hW2 : Below W.heap.size W (W.alloc (.cells #[u] 42)) := (Below.refl _ _).alloc (Nat.le_refl _) _
  refine wpList_push_row _ hgd s x ho lo v n xss hs (h.keep hW2) hn W.heap.size u r hx (World.cell?_alloc_new _ _ _ _) (hu.alloc _) ?_ (by simp; omega) ?_
  · intro i u' r' ⟨vs, hv, hi⟩ _ _
    exact FarAll.keep h hf hW2 vs hv i u' hi
  · intro v' w' hown hgrow
    exact K v' w' hown ((hW2.mono hlo).grown hgrow (by simp; omega) fun k hk => (h.ownlt k hk).1)
theorem NewOr.two {s g b : Nat} {v v' : Value} (h : NewOr s v v') (hv : v.ownBlock = some g) (hb : v'.ownBlock = some b) : b = g ∨ s ≤ b := by
  rcases h with h | ⟨d, h, hd⟩
  · rw [hb, hv] at h
    injection h with h
    exact .inl h
  · rw [hb] at h
    injection h with h
    exact .inr (by omega)
theorem getD_of {α : Type} {xs : List α} {k : Nat} {x d : α} (h : xs[k]? = some x) : xs.getD k d = x := by simp [List.getD, h]
theorem OIntss.readI {w : World} {lo n c : Nat} {ao : Option Addr} {xs : List (List Int)} (h : OIntss w lo (.slice ao n c) n xs) : Intss w ao n xs := by
  obtain ⟨ao', cap', e, hi⟩ := h.form
  injection e with e1
  subst e1
  exact hi
end Go.Proofs.Ytblkgkgopneleaa

namespace Go.Proofs.Ytblkgkgopneleaa
open Go.RowKit
set_option linter.all false
def leL : List Int → List Int → Bool
  | x :: p, y :: r => inR x 0 y && leL p r
  | _, _ => true
theorem leL_step {p r : List Int} {k : Nat} {x y : Int} {b : Bool} (hx : p[k]? = some x) (hy : r[k]? = some y) (h : leL (p.drop k) (r.drop k) = b) :
    (inR x 0 y = true → leL (p.drop (k + 1)) (r.drop (k + 1)) = b) ∧ (inR x 0 y = false → b = false) := by
  rw [drop_of_get hx, drop_of_get hy] at h
  generalize List.drop (k + 1) p = p1 at *
  generalize List.drop (k + 1) r = r1 at *
  constructor
  · intro e; simpa [leL, e] using h
  · intro e; simpa [leL, e] using h.symm
theorem leL_end {p r : List Int} {k : Nat} {b : Bool} (hk : p.length ≤ k) (h : leL (p.drop k) (r.drop k) = b) : b = true := by
  rw [drop_all p k hk] at h
  simpa [leL] using h.symm
theorem leL_get : ∀ {p r : List Int} {k : Nat} {x y : Int}, leL p r = true → p[k]? = some x → r[k]? = some y → 0 ≤ x ∧ x ≤ y
  | [], _, _, _, _, _, h, _ => by simp at h
  | _ :: _, [], _, _, _, _, _, h => by simp at h
  | a :: p, b :: r, 0, x, y, h, hx, hy => by
    simp only [leL, Bool.and_eq_true] at h
    simp at hx hy
    subst hx
    subst hy
    exact inR_true h.1
  | a :: p, b :: r, k + 1, x, y, h, hx, hy => by
    simp only [leL, Bool.and_eq_true] at h
    exact leL_get h.2 (by simpa using hx) (by simpa using hy)
def lessL (r p : List Int) : List Int := List.zipWith (fun x y => x - y) r p
theorem lessL_len {r p : List Int} (h : p.length = r.length) : (lessL r p).length = r.length := by simp [lessL, h]
theorem lessL_get {r p : List Int} {k : Nat} {x y : Int} (hx : r[k]? = some x) (hy : p[k]? = some y) : (lessL r p)[k]? = some (x - y) := by simp [lessL, List.getElem?_zipWith, hx, hy]
def spRow (i : Nat) (r : List Int) : List Int := r ++ [r.getD i 0]
theorem spRow_len (i : Nat) (r : List Int) : (spRow i r).length = r.length + 1 := by simp [spRow]
theorem spRow_is {i : Nat} {r : List Int} {x : Int} (h : r[i]? = some x) : r ++ [x] = spRow i r := by simp [spRow, List.getD, h]
/-- The rows after the first, and the row that is put in its place. -/
def spTop (m : List (List Int)) (i : Nat) (p : List Int) : List (List Int) := (m.set i p).map (spRow i)
def spT (m : List (List Int)) (i : Nat) (p : List Int) : List (List Int) := spTop m i p ++ [spRow i (lessL (m.getD i []) p)]
def splOk (m : List (List Int)) (i : Int) (p : List Int) : Bool :=
  isMat m && (!(decide (m.length = 9)) && (inR i 0 ((m.length : Int) - 1) && (decide (p.length = m.length) && leL p (m.getD i.toNat []))))
def splV (m : List (List Int)) (i : Int) (p : List Int) : List (List Int) := if splOk m i p then spT m i.toNat p else []
theorem spTop_len (m : List (List Int)) (i : Nat) (p : List Int) : (spTop m i p).length = m.length := by simp [spTop]
theorem spT_len (m : List (List Int)) (i : Nat) (p : List Int) : (spT m i p).length = m.length + 1 := by simp [spT, spTop_len]
theorem spTop_get {m : List (List Int)} {i k : Nat} {p r : List Int} (h : m[k]? = some r) (hk : k ≠ i) : (spTop m i p)[k]? = some (spRow i r) := by
  simp only [spTop, List.getElem?_map, List.getElem?_set]
  rw [if_neg (fun e => hk e.symm), h]
  rfl
theorem spTop_at {m : List (List Int)} {i : Nat} {p : List Int} (h : i < m.length) : (spTop m i p)[i]? = some (spRow i p) := by
  simp [spTop, List.getElem?_set, h]
/-- What must hold for a split. -/
structure SplFacts (m : List (List Int)) (i : Int) (p : List Int) : Prop where
  mat : isMat m = true
  n9 : m.length < 9
  i0 : 0 ≤ i
  il : i.toNat < m.length
  pl : p.length = m.length
  le : leL p (m.getD i.toNat []) = true
theorem splOk_facts {m : List (List Int)} {i : Int} {p : List Int} (h : splOk m i p = true) : SplFacts m i p := by
  simp only [splOk, Bool.and_eq_true, decide_eq_true_eq, Bool.not_eq_true'] at h
  obtain ⟨h1, h2, h3, h4, h5⟩ := h
  have h2 : ¬ m.length = 9 := by simpa using h2
  have := isMat_len h1
  have := inR_true h3
  exact ⟨h1, by omega, by omega, by omega, h4, h5⟩
theorem splOk_mk {m : List (List Int)} {i : Int} {p : List Int} (h : SplFacts m i p) : splOk m i p = true := by
  obtain ⟨h1, h2, h3, h4, h5, h6⟩ := h
  simp only [splOk, Bool.and_eq_true, decide_eq_true_eq, Bool.not_eq_true']
  exact ⟨h1, by simp; omega, inR_mk ⟨h3, by omega⟩, h5, h6⟩
theorem splV_no {m : List (List Int)} {i : Int} {p : List Int} (h : splOk m i p = false) : splV m i p = [] := by simp [splV, h]
theorem splV_yes {m : List (List Int)} {i : Int} {p : List Int} (h : splOk m i p = true) : splV m i p = spT m i.toNat p := by simp [splV, h]
theorem rows_split {m : List (List Int)} {i : Int} {p : List Int} (h : SplFacts m i p) : RowsLen (spT m i.toNat p) (m.length + 1) := by
  intro k r hk
  have hrow : ∀ (q : Nat) (s : List Int), m[q]? = some s → s.length = m.length := fun q s hs => (isMat_row h.mat hs).1
  by_cases h1 : k < m.length
  · rw [spT, List.getElem?_append_left (by rw [spTop_len]; exact h1)] at hk
    by_cases e : k = i.toNat
    · subst e
      rw [spTop_at h.il] at hk
      injection hk with hk
      subst hk
      rw [spRow_len, h.pl]
    · rw [spTop_get (List.getElem?_eq_getElem h1) e] at hk
      injection hk with hk
      subst hk
      rw [spRow_len, hrow k _ (List.getElem?_eq_getElem h1)]
  · have h2 : k < (spT m i.toNat p).length := (List.getElem?_eq_some_iff.1 hk).1
    rw [spT_len] at h2
    have e : k = m.length := by omega
    subst e
    rw [spT, List.getElem?_append_right (by rw [spTop_len]; exact Nat.le_refl _), spTop_len, Nat.sub_self] at hk
    simp at hk
    subst hk
    have hl := hrow i.toNat (m.getD i.toNat []) (by simp [List.getD, h.il])
    simp only [List.getD] at hl
    rw [spRow_len, lessL_len (by rw [hl, h.pl]), hl]
/-- Rows and columns exchanged. -/
def turnT (m : List (List Int)) : List (List Int) := (List.range m.length).map fun j => m.map fun r => r.getD j 0
def turnM (m : List (List Int)) : List (List Int) := if isMat m then turnT m else []
def splInV (m : List (List Int)) (i : Int) (p : List Int) : List (List Int) := if splOk (turnM m) i p then turnT (spT (turnM m) i.toNat p) else []
theorem turnT_len (m : List (List Int)) : (turnT m).length = m.length := by simp [turnT]
theorem turnT_get {m : List (List Int)} {j : Nat} (h : j < m.length) : (turnT m)[j]? = some (m.map fun r => r.getD j 0) := by simp [turnT, h]
theorem turnT_rows (m : List (List Int)) : RowsLen (turnT m) m.length := by
  intro k r hk
  have h : k < m.length := by have := (List.getElem?_eq_some_iff.1 hk).1; rw [turnT_len] at this; exact this
  rw [turnT_get h] at hk
  injection hk with hk
  subst hk
  simp
/-- The two tables of a split. -/
def prRow (n i k : Nat) : List Int := if k = i then (oneRow (n + 1) k).set n 1 else oneRow (n + 1) k
def prR (n i : Nat) : List (List Int) := (List.range n).map (prRow n i)
def prS (m : List (List Int)) (i : Nat) (p : List Int) : List (List Int) := (spT m i p).map (List.take m.length)
def pairR (m : List (List Int)) (i : Int) (p : List Int) : List (List Int) := if splOk m i p then prR m.length i.toNat else []
def pairS (m : List (List Int)) (i : Int) (p : List Int) : List (List Int) := if splOk m i p then prS m i.toNat p else []
theorem prRow_len (n i k : Nat) : (prRow n i k).length = n + 1 := by unfold prRow; split <;> simp [oneRow_len]
theorem prR_len (n i : Nat) : (prR n i).length = n := by simp [prR]
theorem prR_get {n i k : Nat} (h : k < n) : (prR n i)[k]? = some (prRow n i k) := by simp [prR, h]
theorem prR_rows (n i : Nat) : RowsLen (prR n i) (n + 1) := by
  intro k r hk
  have h : k < n := by have := (List.getElem?_eq_some_iff.1 hk).1; rw [prR_len] at this; exact this
  rw [prR_get h] at hk
  injection hk with hk
  subst hk
  exact prRow_len n i k
theorem prS_len (m : List (List Int)) (i : Nat) (p : List Int) : (prS m i p).length = m.length + 1 := by simp [prS, spT_len]
theorem prS_rows {m : List (List Int)} {i : Int} {p : List Int} (h : SplFacts m i p) : RowsLen (prS m i.toNat p) m.length := by
  intro k r hk
  simp only [prS, List.getElem?_map, Option.map_eq_some_iff] at hk
  obtain ⟨q, hq, rfl⟩ := hk
  rw [List.length_take, rows_split h k q hq]
  omega
/-- Products of tables whose numbers are not above a thousand. -/
def tabOk (t : List (List Int)) (c : Nat) : Bool := inR t.length 1 9 && (inR c 1 9 && tabIn c (-1000) 1000 t)
def ttOk (a b : List (List Int)) : Bool := !(decide (b.length = 0)) && (tabOk a b.length && tabOk b (b.getD 0 []).length)
def ttV (a b : List (List Int)) : List (List Int) := if ttOk a b then mulT a b (b.getD 0 []).length else []
theorem tabOk_facts {t : List (List Int)} {c : Nat} (h : tabOk t c = true) : 1 ≤ t.length ∧ t.length ≤ 9 ∧ 1 ≤ c ∧ c ≤ 9 ∧ RowsLen t c := by
  simp only [tabOk, Bool.and_eq_true] at h
  have h1 := inR_true h.1
  have h2 := inR_true h.2.1
  exact ⟨by omega, by omega, by omega, by omega, fun k r hk => (tabIn_get h.2.2 hk).1⟩
end Go.Proofs.Ytblkgkgopneleaa

namespace Go.Proofs.Ytblkgkgopneleaa
open Go.RowKit
set_option linter.all false
set_option maxHeartbeats 1600000 in
theorem sCopy_any (ao : Option Addr) (n cap : Nat) (m : List (List Int)) (w : World) (h : Intss w ao n m) (hn : n ≤ 1048576) (hr : ∀ r ∈ m, r.length ≤ 1048576) :
    Calls Try.prog 69 #[.slice ao n cap] w fun e w' => ∃ v, e = .returned v ∧ OIntss w' w.heap.size v n m ∧ Below w.heap.size w w' := by
  have HL : Hid (m.length = n) := h.1
  have HR := Lib.hid hr
  have H := Lib.hid h
  clear h hr
  go_enter Try.func69, Try.ntmps69
  go_wp2_with fail
  go_loopw [3, 4] (fun v x wr => ∃ k : Nat, k ≤ n ∧ x = .int .i64 k ∧ OIntss wr w.heap.size v k (m.take k) ∧ Below w.heap.size w wr) (fun _ x _ => n - (intOf x).toNat)
  case atStart => exact ⟨0, Nat.zero_le _, rfl, OIntss.empty w _ (Nat.le_refl _), (Below.refl _ _).alloc (Nat.le_refl _) _⟩
  case round =>
    obtain ⟨k, hk, rfl, hown, hbl⟩ := hrel
    obtain ⟨ao5, cap5, e5, _⟩ := hown.form
    subst e5
    by_cases hlt : k < n
    · obtain ⟨b1, o1, a1, c1, r, rfl, hca, hrow, hget⟩ := H.out.at_ hlt
      have hB1 : Below wr.heap.size wr (wr.alloc (.cells #[] 3)) := (Below.refl _ _).alloc (Nat.le_refl _) _
      have hbx := hbl.trans (hB1.mono hbl.size)
      have q1 := (hbx.cell (World.block_lt_of_cell? w _ hca)).trans hca
      have HRow := Lib.hid (hrow.keep hbx)
      have hrl := HR.out r (List.mem_of_getElem? hget.out)
      have HP : Hid (m.take k ++ [r] = m.take (k + 1)) := push_take hget.out
      have HE := Lib.hid (OInts.empty wr wr.heap.size (Nat.le_refl _))
      have HB1 := Lib.hid hB1
      have Hown := Lib.hid hown
      have Hbl := Lib.hid hbl
      clear hown hbl hca hrow hget hbx hB1
      go_wp2_with (first
        | (at_builtin; refine wpList_app_ints _ rfl _ _ rfl wr.heap.size _ 0 [] rfl HE.out _ _ _ r rfl HRow.out (by omega) HB1.out.size ?_; intro v1 w1 ho1 hg1; rw [Nat.zero_add, List.nil_append] at ho1; obtain ⟨ao1, cap1, rfl, _⟩ := ho1.form; have Ho1 := Lib.hid ho1; have Hb1 : Hid (Below wr.heap.size wr w1) := HB1.out.grown hg1 HB1.out.size (fun k hk => (HE.out.ownlt k hk).1); clear ho1 hg1)
        | (at_builtin; refine wpList_push_fresh _ _ wr rfl _ _ rfl w.heap.size _ k _ rfl Hown.out (by omega) Hbl.out.size Hb1.out _ _ Ho1.out _ rfl rfl ?_; intro v3 w3 ho3 hb3 _; have Ho3 := Lib.hid ho3; have Hb3 := Lib.hid hb3; clear ho3 hb3))
      go_roundw
      case rel => exact ⟨k + 1, hlt, by go_num, by rw [← HP.out]; exact Ho3.out, Hbl.out.trans Hb3.out⟩
      case measure => simp [intOf]; omega
    · have e : k = n := by omega
      have HE : Hid (m.take k = m) := by show _ = _; rw [List.take_of_length_le (by rw [HL.out]; omega)]
      rw [HE.out, e] at hown
      subst e
      go_wp2_with fail
      go_ret
      exact ⟨_, rfl, hown, hbl⟩
end Go.Proofs.Ytblkgkgopneleaa

namespace Go.Proofs.Ytblkgkgopneleaa
open Go.RowKit
set_option linter.all false
theorem load0 {P : Program} (a : Addr) (w : World) : (loadCells a 0).run P w = .ok #[] w := by
  simp [loadCells, loadCellsFrom]
theorem run_append_cap0 {P : Program} {w : World} {t ty e : TypeId} {i : TypeInfo} (ht : P.underlying t = some (.slice e)) (hi : P.info? e = some i) (hb : i.bytes ≤ 1024) (a : Option Addr) (x : Option Addr) (c : Nat) :
    (Builtin.append_ #[t, t] ty #[.slice a 0 0, .slice x 1 c]).run P w = (Builtin.append_ #[t, t] ty #[.slice none 0 0, .slice x 1 c]).run P w := by
  have h1 : ¬ 281474976710656 < Builtin.nextslicecap 1 0 * i.bytes := by show ¬ _ < 1 * _; omega
  cases a with
  | none => rfl
  | some a => simp [Builtin.append_, run_underlying ht, sizeOf, typeInfo, hi, Builtin.lenOf, Builtin.firstCells, h1, load0]
theorem wpList_push_row0 {ops : Array Oper} {rest : List Oper} {o : Oper} {a : Act} {Q : Exit → Act → World → Prop} (W : World) (u : Value) (hgd : o.guard = none) (s x : Operand)
    (ho : o.op = .call { callee := .builtin .append, args := #[s, x], argTypes := #[46, 46] })
    (lo : Nat) (sa : Option Addr) (hs : a.eval s = .slice sa 0 0) (hlo : lo ≤ W.heap.size)
    (m : Nat) (r : List Int) (hu : OInts W lo u m r) (tb : Nat) (htb : tb = W.heap.size) (hx : a.eval x = .slice (some ⟨tb, 0, none⟩) 1 1)
    (K : ∀ v' w', OIntss w' lo v' 1 [r] → Below W.heap.size W w' → wpList Try.prog ops Q rest (a.put o.dst v') w') : wpList Try.prog ops Q (o :: rest) a (W.alloc (.cells #[u] 42)) := by
  subst htb
  have hml := hu.len
  subst hml
  have hW2 : Below W.heap.size W (W.alloc (.cells #[u] 42)) := (Below.refl _ _).alloc (Nat.le_refl _) _
  have hu2 := hu.alloc (.cells #[u] 42)
  obtain ⟨i0, hi, hz0, hz1, hz2⟩ := info_parts info_ints
  have hone : u.oneCell' = true := by
    rcases hu.2.2 with ⟨rfl, _⟩ | ⟨_, _, _, rfl, _⟩ <;> rfl
  have hn0 : OIntss (W.alloc (.cells #[u] 42)) lo (.slice none 0 0) 0 [] := OIntss.none_ _ _
  have hv0 : (W.alloc (.cells #[u] 42)).ownsRow lo 42 1 (.slice none 0 0) 0 [] := ⟨by simp, .inl ⟨rfl, rfl⟩⟩
  refine wpList_plain hgd fun K' hK => ?_
  obtain ⟨v', w', hrun, q2, q3, _, q5⟩ := run_append_own_at (P := Try.prog) (W.alloc (.cells #[u] 42)) lo 46 o.type 42 i0 (.slice none 0 0) 1 24 Try.underlying46 hi hz0 hz1 hz2 rfl (by decide) (.slice none 0 0) 0 [] hv0 ⟨W.heap.size, 0, none⟩ 1 1 [u] rfl
    (by
      intro j u' hj
      match j, hj with
      | 0, hj =>
        simp at hj
        subst hj
        exact World.cell?_alloc_new _ _ _ _)
    (by
      intro u' hu'
      simp at hu'
      subst hu'
      exact hone) (by unfold maxLen; omega) (by omega) (by simp; omega)
  unfold Oper.wp execOp
  have hc0 := fun c => run_append_cap0 (ty := o.type) (w := W.alloc (.cells #[u] 42)) Try.underlying46 hi (by rw [hz2]; omega) sa (some ⟨W.heap.size, 0, none⟩) c
  simp only [ho, resolve, invoke, builtin, Sem.run_bind, Sem.run_pure, Result.andThen_ok, List.map_toArray, List.map_cons, List.map_nil, hs, hx, hc0, hrun]
  refine hK _ _ (K v' w' ?_ ?_)
  · have := OIntss.pushed hn0 (by omega) hu2 (fun i u' r' h3 h4 => by simp at h4) q3 fun vs' hv' => by rw [own_unique hv' hv0]; exact q2
    exact this
  · have : Below (W.alloc (.cells #[u] 42)).heap.size (W.alloc (.cells #[u] 42)) w' := ⟨q3.os, q3.tape, q3.output, q3.size, fun k hk => q3.block k hk (by simp [Value.ownBlock])⟩
    exact hW2.trans (this.mono (by simp))
end Go.Proofs.Ytblkgkgopneleaa

namespace Go.Proofs.Ytblkgkgopneleaa
open Go.RowKit
set_option linter.all false
theorem wpList_push_val0 {ops : Array Oper} {rest : List Oper} {o : Oper} {a : Act} {Q : Exit → Act → World → Prop} (W : World) (u : Value) (hgd : o.guard = none) (s x : Operand)
    (ho : o.op = .call { callee := .builtin .append, args := #[s, x], argTypes := #[46, 46] })
    (lo : Nat) (sa : Option Addr) (hs : a.eval s = .slice sa 0 0) (hlo : lo ≤ W.heap.size) (hone : u.oneCell' = true)
    (tb : Nat) (htb : tb = W.heap.size) (hx : a.eval x = .slice (some ⟨tb, 0, none⟩) 1 1)
    (K : ∀ v' w', w'.ownsRow lo 42 1 v' 1 [u] → Below W.heap.size W w' → wpList Try.prog ops Q rest (a.put o.dst v') w') : wpList Try.prog ops Q (o :: rest) a (W.alloc (.cells #[u] 42)) := by
  subst htb
  have hW2 : Below W.heap.size W (W.alloc (.cells #[u] 42)) := (Below.refl _ _).alloc (Nat.le_refl _) _
  obtain ⟨i0, hi, hz0, hz1, hz2⟩ := info_parts info_ints
  have hv0 : (W.alloc (.cells #[u] 42)).ownsRow lo 42 1 (.slice none 0 0) 0 [] := ⟨by simp, .inl ⟨rfl, rfl⟩⟩
  refine wpList_plain hgd fun K' hK => ?_
  obtain ⟨v', w', hrun, q2, q3, _, q5⟩ := run_append_own_at (P := Try.prog) (W.alloc (.cells #[u] 42)) lo 46 o.type 42 i0 (.slice none 0 0) 1 24 Try.underlying46 hi hz0 hz1 hz2 rfl (by decide) (.slice none 0 0) 0 [] hv0 ⟨W.heap.size, 0, none⟩ 1 1 [u] rfl
    (by
      intro j u' hj
      match j, hj with
      | 0, hj =>
        simp at hj
        subst hj
        exact World.cell?_alloc_new _ _ _ _)
    (by
      intro u' hu'
      simp at hu'
      subst hu'
      exact hone) (by unfold maxLen; omega) (by omega) (by simp; omega)
  unfold Oper.wp execOp
  have hc0 := fun c => run_append_cap0 (ty := o.type) (w := W.alloc (.cells #[u] 42)) Try.underlying46 hi (by rw [hz2]; omega) sa (some ⟨W.heap.size, 0, none⟩) c
  simp only [ho, resolve, invoke, builtin, Sem.run_bind, Sem.run_pure, Result.andThen_ok, List.map_toArray, List.map_cons, List.map_nil, hs, hx, hc0, hrun]
  refine hK _ _ (K v' w' (by simpa using q2) ?_)
  have : Below (W.alloc (.cells #[u] 42)).heap.size (W.alloc (.cells #[u] 42)) w' := ⟨q3.os, q3.tape, q3.output, q3.size, fun k hk => q3.block k hk (by simp [Value.ownBlock])⟩
  exact hW2.trans (this.mono (by simp))
theorem own_slice {w : World} {lo e size n : Nat} {v : Value} {vs : List Value} (h : w.ownsRow lo e size v n vs) : ∃ ao cap, v = .slice ao n cap := by
  rcases h.2 with ⟨rfl, rfl⟩ | ⟨g, cap, cur, rfl, _⟩
  · exact ⟨none, 0, rfl⟩
  · exact ⟨_, cap, rfl⟩
theorem RowsAt.keep {w w' : World} {vs : List Value} {xss : List (List Int)} (h : RowsAt w vs xss) (hb : Below w.heap.size w w') : RowsAt w' vs xss := by
  refine ⟨h.1, fun i u r hu hx => ?_⟩
  obtain ⟨ai, ci, e, hr, hc⟩ := h.2 i u r hu hx
  exact ⟨ai, ci, e, hr.keep hb, hc⟩
/-- A slice of slices that reads as R is returned. -/
def readP (w : World) (R : List (List Int)) (e : Ending) (w' : World) : Prop := ∃ ao n c, e = .returned (.slice ao n c) ∧ Intss w' ao n R ∧ Below w.heap.size w w'
end Go.Proofs.Ytblkgkgopneleaa

namespace Go.Proofs.Ytblkgkgopneleaa
open Go.RowKit
set_option linter.all false
set_option maxHeartbeats 800000 in
theorem clone_any (ao : Option Addr) (n cap : Nat) (xs : List Int) (w : World) (h : Ints w ao n xs) :
    Calls Try.prog 74 #[.slice ao n cap] w fun e w' => ∃ v, e = .returned v ∧ OInts w' w.heap.size v n xs ∧ Below w.heap.size w w' := by
  have hm := h.2.1
  rcases ao with _ | q
  · have hn : n = 0 := by
      rcases Nat.eq_zero_or_pos n with h0 | h0
      · exact h0
      · obtain ⟨b, o, e, _⟩ := h.2.2 0 (by rw [h.1]; exact h0)
        cases e
    subst hn
    have hx : xs = [] := List.eq_nil_of_length_eq_zero h.1
    subst hx
    have hnn := fun (wx : World) => Lib.run_eql_slice_nil (P := Try.prog) wx 42 3 none 0 cap 0 0 Try.underlying42
    simp only [Option.isNone] at hnn
    clear h
    go_enter Try.func74, Try.ntmps74
    go_wp2_with fail
    go_ret
    exact ⟨_, rfl, OInts.none_ _ _, Below.refl _ _⟩
  · have hns := fun (wx : World) => Lib.run_eql_slice_nil (P := Try.prog) wx 42 3 (some q) n cap 0 0 Try.underlying42
    simp only [Option.isNone] at hns
    have HE := Lib.hid (OInts.empty w w.heap.size (Nat.le_refl _))
    have HB : Hid (Below w.heap.size w (w.alloc (.cells #[] 3))) := (Below.refl _ _).alloc (Nat.le_refl _) _
    have H := Lib.hid (h.keep HB.out)
    clear h
    go_enter Try.func74, Try.ntmps74
    go_wp2_with (first | (at_builtin; refine wpList_app_ints _ rfl _ _ rfl w.heap.size _ 0 [] rfl HE.out _ _ _ xs rfl H.out (by omega) HB.out.size ?_; intro v1 w1 ho1 hg1; rw [Nat.zero_add, List.nil_append] at ho1; have Ho1 := Lib.hid ho1; have Hb1 : Hid (Below w.heap.size w w1) := HB.out.grown hg1 HB.out.size (fun k hk => (HE.out.ownlt k hk).1); clear ho1 hg1))
    go_ret
    exact ⟨_, rfl, Ho1.out, Hb1.out⟩
end Go.Proofs.Ytblkgkgopneleaa

namespace Go.Proofs.Ytblkgkgopneleaa
open Go.RowKit
set_option linter.all false
set_option maxHeartbeats 800000 in
theorem iIsMatrix_any (ao : Option Addr) (n cap : Nat) (xss : List (List Int)) (w : World) (h : Intss w ao n xss) :
    Calls Try.prog 66 #[.slice ao n cap] w fun e w' => e = .returned (.bool (isMat xss)) ∧ w = w' := by
  have hm := h.2.1
  have HL := Lib.hid h.1
  have H := Lib.hid h
  have hg0 : Hid (isMat xss = (tabIn n 0 1000000 xss && inR n 1 9)) := by show isMat xss = _; unfold isMat; rw [h.1]
  clear h
  by_cases h1 : n < 1
  · have hg : Hid (isMat xss = false) := by show isMat xss = _; rw [hg0.out, inR_no (.inl (by omega))]; simp
    have hd : decide ((n : Int) < 1) = true := by simp; omega
    clear H hg0
    go_enter Try.func66, Try.ntmps66
    go_wp2
    go_ret
    exact ⟨ret_bool hg.out.symm, rfl⟩
  · by_cases h9 : 9 < n
    · have hg : Hid (isMat xss = false) := by show isMat xss = _; rw [hg0.out, inR_no (.inr (by omega))]; simp
      have hd : decide ((n : Int) < 1) = false := by simp; omega
      clear H hg0
      go_enter Try.func66, Try.ntmps66
      go_wp2
      go_ret
      exact ⟨ret_bool hg.out.symm, rfl⟩
    · have hg : Hid (isMat xss = tabIn n 0 1000000 xss) := by show isMat xss = _; rw [hg0.out, inR_mk ⟨by omega, by omega⟩]; simp
      have hd : decide ((n : Int) < 1) = false := by simp; omega
      clear hg0
      go_enter Try.func66, Try.ntmps66
      go_wp2
      go_loop [17] (fun i => ∃ k : Nat, k ≤ n ∧ i = .int .i64 k ∧ Hid (tabIn n 0 1000000 (xss.drop k) = tabIn n 0 1000000 xss)) (fun i => n - (intOf i).toNat)
      case atStart => exact ⟨0, Nat.zero_le _, rfl, rfl⟩
      case round =>
        obtain ⟨k, hk, rfl, hr⟩ := hrel
        by_cases hlt : k < n
        · obtain ⟨b, o, ai, ci, r, rfl, hcell, hrow, hget⟩ := H.out.at_ hlt
          clear H
          have Hst := Lib.hid (tabIn_step hget.out hr.out)
          have Hrow := Lib.hid hrow
          clear hrow hr
          by_cases hrl : r.length = n
          · have hne : ((r.length : Int) != (n : Int)) = false := by simp [hrl]
            have hrl1 : r.length ≤ n := by omega
            have hrl2 : n ≤ r.length := by omega
            have HRL := Lib.hid hrl
            clear hrl
            go_wp2
            go_loop [28] (fun i => ∃ j : Nat, j ≤ r.length ∧ i = .int .i64 j ∧ Hid (allIn 0 1000000 (r.drop j) = allIn 0 1000000 r)) (fun i => n - (intOf i).toNat)
            case atStart => exact ⟨0, Nat.zero_le _, rfl, rfl⟩
            case round =>
              obtain ⟨j, hj, rfl, hrj⟩ := hrel
              by_cases hjr : j < r.length
              · obtain ⟨b', o', x, rfl, hcell', hget'⟩ := Hrow.out.at_ (k := j) hjr
                clear Hrow
                have Hsj := Lib.hid (allIn_step hget'.out hrj.out)
                clear hrj
                by_cases h0 : x < 0
                · have hr1 : Hid _ := Hst.out.2.1 (Hsj.out.2 (inR_no (.inl h0)))
                  clear Hst Hsj
                  have hx : decide (x < 0) = true := by simpa using h0
                  go_wp2
                  go_ret
                  exact ⟨ret_bool (by rw [hg.out, hr1.out]), rfl⟩
                · have hx : decide (x < 0) = false := by simpa using h0
                  by_cases h2 : 1000000 < x
                  · have hr1 : Hid _ := Hst.out.2.1 (Hsj.out.2 (inR_no (.inr h2)))
                    clear Hst Hsj
                    go_wp2
                    go_ret
                    exact ⟨ret_bool (by rw [hg.out, hr1.out]), rfl⟩
                  · have hr1 : Hid _ := Hsj.out.1 (inR_mk ⟨by omega, by omega⟩)
                    clear Hst Hsj
                    go_wp2
                    go_round
                    case rel => exact ⟨j + 1, hjr, by go_num, hr1⟩
                    case measure => simp [intOf]; omega
              · have hr1 : Hid _ := Hst.out.2.2 HRL.out (by have := hrj.out; rw [drop_all r j (by omega)] at this; exact this.symm)
                clear Hst hrj Hrow
                go_wp2
                go_round
                case rel => exact ⟨k + 1, hlt, by go_num, hr1⟩
                case measure => simp [intOf]; omega
          · have hne : ((r.length : Int) != (n : Int)) = true := by simp; omega
            have hr1 : Hid _ := Hst.out.1 hrl
            clear Hst hrl
            go_wp2
            go_ret
            exact ⟨ret_bool (by rw [hg.out, hr1.out]), rfl⟩
        · rw [drop_all xss k (by have := HL.out; omega)] at hr
          have hr1 : Hid _ := hr.out.symm
          clear hr H
          go_wp2
          go_ret
          exact ⟨ret_bool (by rw [hg.out, hr1.out]; rfl), rfl⟩
end Go.Proofs.Ytblkgkgopneleaa

namespace Go.Proofs.Ytblkgkgopneleaa
open Go.RowKit
set_option linter.all false
def tpR (m : List (List Int)) (n i j a : Nat) : List Int := (List.range n).map fun b => if b < i ∨ (b = i ∧ a < j) then (m.getD b []).getD a 0 else 0
def tp (m : List (List Int)) (n i j : Nat) : List (List Int) := (List.range n).map (tpR m n i j)
theorem tp_len (m : List (List Int)) (n i j : Nat) : (tp m n i j).length = n := by simp [tp]
theorem tpR_len (m : List (List Int)) (n i j a : Nat) : (tpR m n i j a).length = n := by simp [tpR]
theorem tp_get {m : List (List Int)} {n i j a : Nat} (h : a < n) : (tp m n i j)[a]? = some (tpR m n i j a) := by simp [tp, h]
theorem tpR_get {m : List (List Int)} {n i j a b : Nat} (h : b < n) : (tpR m n i j a)[b]? = some (if b < i ∨ (b = i ∧ a < j) then (m.getD b []).getD a 0 else 0) := by simp [tpR, h]
theorem tp_ext {X Y : List (List Int)} {n : Nat} (hx : X.length = n) (hy : Y.length = n) (h : ∀ (a : Nat) (r s : List Int), X[a]? = some r → Y[a]? = some s → r = s) : X = Y := by
  apply List.ext_getElem?
  intro a
  by_cases ha : a < n
  · rw [List.getElem?_eq_getElem (by omega), List.getElem?_eq_getElem (by omega), h a _ _ (List.getElem?_eq_getElem (by omega)) (List.getElem?_eq_getElem (by omega))]
  · rw [List.getElem?_eq_none (by omega), List.getElem?_eq_none (by omega)]
theorem row_ext {r s : List Int} {n : Nat} (hx : r.length = n) (hy : s.length = n) (h : ∀ a : Nat, a < n → r[a]? = s[a]?) : r = s := by
  apply List.ext_getElem?
  intro a
  by_cases ha : a < n
  · exact h a ha
  · rw [List.getElem?_eq_none (by omega), List.getElem?_eq_none (by omega)]
theorem tp_zero (m : List (List Int)) (n : Nat) : List.replicate n (List.replicate n 0) = tp m n 0 0 := by
  refine tp_ext (n := n) (by simp) (tp_len _ _ _ _) fun a r s hr hs => ?_
  have ha : a < n := by have := (List.getElem?_eq_some_iff.1 hr).1; simpa using this
  rw [tp_get ha] at hs
  injection hs with hs
  have hr2 : r = List.replicate n 0 := by simpa [List.getElem?_replicate, ha, eq_comm] using hr
  subst hs
  subst hr2
  refine row_ext (n := n) (by simp) (tpR_len _ _ _ _ _) fun b hb => ?_
  rw [tpR_get hb]
  simp [List.getElem?_replicate, hb]
theorem tp_step {m : List (List Int)} {n i j : Nat} {x : Int} (hi : i < n) (hj : j < n) (hx : (m.getD i []).getD j 0 = x) : (tp m n i j).set j ((tpR m n i j j).set i x) = tp m n i (j + 1) := by
  refine tp_ext (n := n) (by simp [tp_len]) (tp_len _ _ _ _) fun a r s hr hs => ?_
  have ha : a < n := by have := (List.getElem?_eq_some_iff.1 hr).1; simpa [tp_len] using this
  rw [tp_get ha] at hs
  injection hs with hs
  subst hs
  rw [List.getElem?_set] at hr
  by_cases e : j = a
  · subst e
    rw [if_pos rfl, if_pos (by rw [tp_len]; exact ha)] at hr
    injection hr with hr
    subst hr
    refine row_ext (n := n) (by simp [tpR_len]) (tpR_len _ _ _ _ _) fun b hb => ?_
    rw [tpR_get hb, List.getElem?_set]
    by_cases e2 : i = b
    · subst e2
      rw [if_pos rfl, if_pos (by rw [tpR_len]; exact hb), hx, if_pos (by omega)]
    · rw [if_neg e2, tpR_get hb]
      congr 1
      by_cases e3 : b < i
      · rw [if_pos (by omega), if_pos (by omega)]
      · rw [if_neg (by omega), if_neg (by omega)]
  · rw [if_neg e, tp_get ha] at hr
    injection hr with hr
    subst hr
    refine row_ext (n := n) (tpR_len _ _ _ _ _) (tpR_len _ _ _ _ _) fun b hb => ?_
    rw [tpR_get hb, tpR_get hb]
    congr 1
    by_cases e3 : b < i ∨ (b = i ∧ a < j)
    · rw [if_pos e3, if_pos (by omega)]
    · rw [if_neg e3, if_neg (by omega)]
theorem tp_next (m : List (List Int)) (n i : Nat) : tp m n i n = tp m n (i + 1) 0 := by
  refine tp_ext (n := n) (tp_len _ _ _ _) (tp_len _ _ _ _) fun a r s hr hs => ?_
  have ha : a < n := by have := (List.getElem?_eq_some_iff.1 hr).1; simpa [tp_len] using this
  rw [tp_get ha] at hr hs
  injection hr with hr
  injection hs with hs
  subst hr
  subst hs
  refine row_ext (n := n) (tpR_len _ _ _ _ _) (tpR_len _ _ _ _ _) fun b hb => ?_
  rw [tpR_get hb, tpR_get hb]
  congr 1
  by_cases e3 : b < i ∨ (b = i ∧ a < n)
  · rw [if_pos e3, if_pos (by omega)]
  · rw [if_neg e3, if_neg (by omega)]
theorem tp_end {m : List (List Int)} {n : Nat} (h : m.length = n) : tp m n n 0 = turnT m := by
  refine tp_ext (n := n) (tp_len _ _ _ _) (by rw [turnT_len, h]) fun a r s hr hs => ?_
  have ha : a < n := by have := (List.getElem?_eq_some_iff.1 hr).1; simpa [tp_len] using this
  rw [tp_get ha] at hr
  rw [turnT_get (by omega)] at hs
  injection hr with hr
  injection hs with hs
  subst hr
  subst hs
  refine row_ext (n := n) (tpR_len _ _ _ _ _) (by simp [h]) fun b hb => ?_
  rw [tpR_get hb, if_pos (by omega)]
  have hbm : b < m.length := by omega
  simp [List.getD, hbm]
/-- The column as far as k. -/
theorem turn_push {m : List (List Int)} {i k : Nat} {r : List Int} {x : Int} (hr : m[k]? = some r) (hx : r[i]? = some x) : (m.map fun r => r.getD i 0)[k]? = some x := by simp [hr, List.getD, hx]
end Go.Proofs.Ytblkgkgopneleaa

namespace Go.Proofs.Ytblkgkgopneleaa
open Go.RowKit
set_option linter.all false
set_option maxRecDepth 20000 in
set_option maxHeartbeats 3200000 in
theorem iTurn4_any (p : Option Addr) (n c : Nat) (m : List (List Int)) (w : World) (h : Intss w p n m) (hr : RowsLen m n) (hn1 : 1 ≤ n) (hn : n ≤ 1048576) :
    Calls Try.prog 71 #[.slice p n c] w fun e w' => ∃ v, e = .returned v ∧ OIntss w' w.heap.size v n (turnT m) ∧ Below w.heap.size w w' := by
  have HL : Hid (m.length = n) := h.1
  obtain ⟨b0, o0, a0, c0, r0, rfl, hc0, hrow0, hget0⟩ := h.at_ (k := 0) (by omega)
  have hr0 : r0.length = n := hr 0 _ hget0.out
  rw [hr0, Nat.add_zero] at hc0
  have q0 : (w.alloc (.cells #[] 42)).cell? ⟨b0, o0, none⟩ = some (.slice a0 n c0) := (((Below.refl w.heap.size w).alloc (Nat.le_refl _) _).cell (World.block_lt_of_cell? w _ hc0)).trans hc0
  have H := Lib.hid h
  have HR := Lib.hid hr
  clear h hr hrow0 hget0 hr0 hc0
  go_enter Try.func71, Try.ntmps71
  go_wp2_with fail
  clear q0
  go_loopw [3, 12] (fun v x wr => ∃ i : Nat, i ≤ n ∧ x = .int .i64 i ∧ OIntss wr w.heap.size v i ((turnT m).take i) ∧ Below w.heap.size w wr) (fun _ x _ => n - (intOf x).toNat)
  case atStart => exact ⟨0, Nat.zero_le _, rfl, OIntss.empty w _ (Nat.le_refl _), (Below.refl _ _).alloc (Nat.le_refl _) _⟩
  case round =>
    obtain ⟨i, hi, rfl, hown, hbl⟩ := hrel
    obtain ⟨wo, rfl⟩ : ∃ wo : World, wo = wr := ⟨_, rfl⟩
    have HO := Lib.hid hown
    have HBO := Lib.hid hbl
    have HMO := Lib.hid (H.out.keep hbl)
    clear hown hbl
    by_cases hlt : i < n
    · have HTR : Hid ((turnT m)[i]? = some (m.map fun r => r.getD i 0)) := turnT_get (by rw [HL.out]; exact hlt)
      have HCL : Hid ((m.map fun r => r.getD i 0).length = n) := by show _ = _; rw [List.length_map, HL.out]
      have HRE := Lib.hid (OInts.empty wo wo.heap.size (Nat.le_refl _))
      have HRB := Lib.hid ((Below.refl wo.heap.size wo).alloc (Nat.le_refl _) (.cells #[] 3))
      go_wp2_with fail
      go_loopw [5, 18] (fun v' x wx => ∃ j : Nat, j ≤ n ∧ x = .int .i64 j ∧ OInts wx wo.heap.size v' j ((m.map fun r => r.getD i 0).take j) ∧ Below wo.heap.size wo wx) (fun _ x _ => n - (intOf x).toNat)
      case atStart => exact ⟨0, Nat.zero_le _, rfl, HRE.out, HRB.out⟩
      case round =>
        obtain ⟨j, hj, rfl, hline, hbx⟩ := hrel
        have HLI := Lib.hid hline
        have HBX := Lib.hid hbx
        have HMM := Lib.hid (HMO.out.keep hbx)
        clear hline hbx HRE HRB
        by_cases hjn : j < n
        · obtain ⟨b1, o1, a1, c1, r, e1, hcr, hrow, hgr⟩ := HMM.out.at_ hjn
          injection e1 with e1
          injection e1 with e2 e3
          subst e2
          subst e3
          have hrl := HR.out _ _ hgr.out
          obtain ⟨b2, o2, x, rfl, hcx, hgx⟩ := hrow.at_ (k := i) (by rw [hrl]; exact hlt)
          have hir : i < r.length := by rw [hrl]; exact hlt
          have HNX := Lib.hid (turn_push hgr.out hgx.out)
          clear hrl hgx hgr hrow
          go_wp2_with (at_builtin; refine wpList_push_one wr _ rfl (.tmp 21) (.tmp 29) rfl wo.heap.size _ _ _ rfl HLI.out (by omega) (by exact HBX.out.size) _ rfl rfl ?_; intro v5 w5 ho5 hb5; have HO5 := Lib.hid ho5; have HB5 := Lib.hid (HBX.out.trans hb5); clear ho5 hb5)
          go_roundw
          case rel =>
            have h5 := HO5.out
            rw [push_take HNX.out] at h5
            exact ⟨j + 1, hjn, by go_num, h5, HB5.out⟩
          case measure => (simp [intOf] <;> omega)
        · obtain ⟨a7, c7, e7, _⟩ := HLI.out.form
          subst e7
          have HFU : Hid (OInts wr wo.heap.size (.slice a7 j c7) j (m.map fun r => r.getD i 0)) := by
            have h := HLI.out
            rw [List.take_of_length_le (by rw [HCL.out]; omega)] at h
            exact h
          go_wp2_with (at_builtin; refine wpList_push_fresh _ _ wo rfl _ _ rfl w.heap.size _ i _ rfl HO.out (by omega) HBO.out.size HBX.out _ _ HFU.out _ (by rfl) rfl ?_; intro v6 w6 ho6 hb6 _; have HO6 := Lib.hid ho6; have HB6 := Lib.hid (HBO.out.trans hb6); clear ho6 hb6)
          go_roundw
          case rel =>
            have h6 := HO6.out
            rw [push_take HTR.out] at h6
            exact ⟨i + 1, hlt, by go_num, h6, HB6.out⟩
          case measure => (simp [intOf] <;> omega)
    · have e : i = n := by omega
      have h := HO.out
      rw [List.take_of_length_le (by rw [turnT_len, HL.out]; omega), e] at h
      have HF := Lib.hid h
      clear h
      go_wp2_with fail
      go_ret
      exact ⟨_, rfl, HF.out, HBO.out⟩
set_option maxHeartbeats 1600000 in
theorem iTurnM_any (p : Option Addr) (n c : Nat) (m : List (List Int)) (w : World) (h : Intss w p n m) :
    Calls Try.prog 70 #[.slice p n c] w fun e w' => ∃ v, e = .returned v ∧ OIntss w' w.heap.size v (turnM m).length (turnM m) ∧ Below w.heap.size w w' := by
  have HL : Hid (m.length = n) := h.1
  have H := Lib.hid h
  clear h
  cases hm : isMat m
  · have hv : Hid (turnM m = []) := by show _ = _; simp [turnM, hm]
    go_enter Try.func70, Try.ntmps70
    go_wp2_with (go_at_call 66; refine (iIsMatrix_any _ _ _ m _ H.out).mono ?_; rintro e w' ⟨rfl, rfl⟩)
    go_ret
    rw [hv.out]
    exact ⟨_, rfl, OIntss.none_ _ _, Below.refl _ _⟩
  · have hv : Hid (turnM m = turnT m) := by show _ = _; simp [turnM, hm]
    have HR : Hid (RowsLen m n) := by rw [← HL.out]; exact isMat_rowsLen hm rfl
    have hn9 : n ≤ 9 := by have := (isMat_len hm).2; have := HL.out; omega
    have hn1 : 1 ≤ n := by have := (isMat_len hm).1; have := HL.out; omega
    have HE : Hid ((turnT m).length = n) := by show _ = _; rw [turnT_len, HL.out]
    go_enter Try.func70, Try.ntmps70
    go_wp2_with (go_at_call 66; refine (iIsMatrix_any _ _ _ m _ H.out).mono ?_; rintro e w' ⟨rfl, rfl⟩)
    refine (iTurn4_any _ _ _ m _ H.out HR.out hn1 (by omega)).mono ?_
    rintro e w1 ⟨v, rfl, ho, hb⟩
    go_wp2_with fail
    go_ret
    rw [hv.out, HE.out]
    exact ⟨_, rfl, ho, hb⟩
end Go.Proofs.Ytblkgkgopneleaa

namespace Go.Proofs.Ytblkgkgopneleaa
open Go.RowKit
set_option linter.all false
set_option maxRecDepth 20000 in
set_option maxHeartbeats 3200000 in
theorem sTurn4_any (p : Option Addr) (n c : Nat) (m : List (List Int)) (w : World) (h : Intss w p n m) (hr : RowsLen m n) (hn : n ≤ 1048576) :
    Calls Try.prog 73 #[.slice p n c] w fun e w' => ∃ v, e = .returned v ∧ OIntss w' w.heap.size v n (turnT m) ∧ Below w.heap.size w w' := by
  have HL : Hid (m.length = n) := h.1
  have H := Lib.hid h
  have HR := Lib.hid hr
  clear h hr
  go_enter Try.func73, Try.ntmps73
  go_wp2_with fail
  refine (sL4Zero_any n n _ hn hn).mono ?_
  rintro e w1 ⟨v1, rfl, ho1, hb1⟩
  obtain ⟨ao, cap, rfl, _⟩ := ho1.form
  rw [tp_zero m n] at ho1
  have Ho1 := Lib.hid ho1
  have Hb1 := Lib.hid hb1
  clear ho1 hb1
  go_wp2_with fail
  go_loopw [4] (fun x wr => ∃ i : Nat, i ≤ n ∧ x = .int .i64 i ∧ OIntss wr w.heap.size (.slice ao n cap) n (tp m n i 0) ∧ Below w.heap.size w wr) (fun x _ => n - (intOf x).toNat)
  case atStart => exact ⟨0, Nat.zero_le _, rfl, Ho1.out, Hb1.out⟩
  case round =>
    obtain ⟨i, hi, rfl, hown, hbl⟩ := hrel
    clear Ho1 Hb1
    by_cases hlt : i < n
    · obtain ⟨b1, o1, a1, c1, r, rfl, hca, hrow, hget⟩ := H.out.at_ hlt
      have hrl : r.length = n := HR.out _ _ hget.out
      have HRL := Lib.hid hrl
      have HGET := Lib.hid hget.out
      have Hca := Lib.hid hca
      have Hrow := Lib.hid hrow
      obtain ⟨g, cap', e⟩ := hown.head (by omega)
      injection e with e1 e2 e3
      subst e1
      have Hown := Lib.hid hown
      have Hbl := Lib.hid hbl
      clear hown hbl hca hrow hget hrl e2 e3
      go_wp2_with fail
      go_loopw [5] (fun x wr => ∃ j : Nat, j ≤ n ∧ x = .int .i64 j ∧ OIntss wr w.heap.size (.slice (some ⟨g, 0, none⟩) n cap) n (tp m n i j) ∧ Below w.heap.size w wr) (fun x _ => n - (intOf x).toNat)
      case atStart => exact ⟨0, Nat.zero_le _, rfl, Hown.out, Hbl.out⟩
      case round =>
        obtain ⟨j, hj, rfl, hown, hbl⟩ := hrel
        clear Hown Hbl
        by_cases hjn : j < n
        · obtain ⟨b2, o2, x, rfl, hcx, hgx⟩ := Hrow.out.at_ (k := j) (by have := HRL.out; omega)
          have q1 := (hbl.cell (World.block_lt_of_cell? w _ Hca.out)).trans Hca.out
          have q2 := (hbl.cell (World.block_lt_of_cell? w _ hcx)).trans hcx
          have hjr : j < r.length := by have := HRL.out; omega
          have hxe : (m.getD i []).getD j 0 = x := by simp only [List.getD, HGET.out, hgx.out, Option.getD_some]
          obtain ⟨gk, ck, h5, ho, hne, hlo⟩ := hown.rowAt (tp_get hjn) (by rw [tpR_len]; omega)
          have hset := hown.setIn (tp_get hjn) h5 ho i x
          rw [tp_step hlt hjn hxe] at hset
          rw [tpR_len] at h5 ho
          have h6 := ho.cell i hlt
          have h7 := ho.frozen i
          have hb' := hbl.setCell (p := ⟨gk, i, none⟩) hlo (.int .i64 x)
          have Hset := Lib.hid hset
          have Hb' := Lib.hid hb'
          clear hset hb' ho hown hbl hcx hgx hxe
          go_wp2_with fail
          go_region
          all_goals (go_wp2_with fail)
          all_goals go_roundw
          case rel => exact ⟨j + 1, hjn, by go_num, by first | exact Hset.out | exact Hset.out.drewN 1, by first | exact Hb'.out | exact Hb'.out.drew⟩
          case measure => simp [intOf]; omega
        · have e : j = n := by omega
          rw [e, tp_next] at hown
          have Hown := Lib.hid hown
          have Hbl := Lib.hid hbl
          clear hown hbl
          go_wp2_with fail
          go_roundw
          case rel => exact ⟨i + 1, hlt, by go_num, Hown.out, Hbl.out⟩
          case measure => simp [intOf]; omega
    · have e : i = n := by omega
      rw [e, tp_end HL.out] at hown
      go_wp2_with fail
      go_ret
      exact ⟨_, rfl, hown, hbl⟩
set_option maxHeartbeats 1600000 in
theorem sTurnM_any (p : Option Addr) (n c : Nat) (m : List (List Int)) (w : World) (h : Intss w p n m) :
    Calls Try.prog 72 #[.slice p n c] w fun e w' => ∃ v, e = .returned v ∧ OIntss w' w.heap.size v (turnM m).length (turnM m) ∧ Below w.heap.size w w' := by
  have HL : Hid (m.length = n) := h.1
  have H := Lib.hid h
  clear h
  cases hm : isMat m
  · have hv : Hid (turnM m = []) := by show _ = _; simp [turnM, hm]
    go_enter Try.func72, Try.ntmps72
    go_wp2_with (go_at_call 68; refine (sIsMatrix_any _ _ _ m _ H.out).mono ?_; rintro e w' ⟨rfl, rfl⟩)
    go_ret
    rw [hv.out]
    exact ⟨_, rfl, OIntss.empty _ _ (Nat.le_refl _), (Below.refl _ _).alloc (Nat.le_refl _) _⟩
  · have hv : Hid (turnM m = turnT m) := by show _ = _; simp [turnM, hm]
    have HR : Hid (RowsLen m n) := by rw [← HL.out]; exact isMat_rowsLen hm rfl
    have hn9 : n ≤ 9 := by have := (isMat_len hm).2; have := HL.out; omega
    have HE : Hid ((turnT m).length = n) := by show _ = _; rw [turnT_len, HL.out]
    go_enter Try.func72, Try.ntmps72
    go_wp2_with (go_at_call 68; refine (sIsMatrix_any _ _ _ m _ H.out).mono ?_; rintro e w' ⟨rfl, rfl⟩)
    refine (sTurn4_any _ _ _ m _ H.out HR.out (by omega)).mono ?_
    rintro e w1 ⟨v, rfl, ho, hb⟩
    go_wp2_with fail
    go_ret
    rw [hv.out, HE.out]
    exact ⟨_, rfl, ho, hb⟩
end Go.Proofs.Ytblkgkgopneleaa

namespace Go.Proofs.Ytblkgkgopneleaa
open Go.RowKit
set_option linter.all false
theorem tabOk_is (t : List (List Int)) (c n : Nat) (h : t.length = n) : tabOk t c = (inR n 1 9 && (inR c 1 9 && tabIn c (-1000) 1000 t)) := by unfold tabOk; rw [h]
set_option maxHeartbeats 1600000 in
theorem iIsTable_any (ao : Option Addr) (n cap : Nat) (xss : List (List Int)) (c : Nat) (w : World) (h : Intss w ao n xss) :
    Calls Try.prog 76 #[.slice ao n cap, .int .i64 c] w fun e w' => e = .returned (.bool (tabOk xss c)) ∧ w = w' := by
  have hm := h.2.1
  have HL := Lib.hid h.1
  have H := Lib.hid h
  have hg0 : Hid (tabOk xss c = (inR n 1 9 && (inR c 1 9 && tabIn c (-1000) 1000 xss))) := tabOk_is xss c n h.1
  clear h
  by_cases h1 : n < 1
  · have hg : Hid (tabOk xss c = false) := by show _ = _; rw [hg0.out, inR_no (.inl (by omega))]; simp
    have hd : decide ((n : Int) < 1) = true := by simp; omega
    clear H hg0
    go_enter Try.func76, Try.ntmps76
    go_wp2_with fail
    go_ret
    exact ⟨ret_bool hg.out.symm, rfl⟩
  have hd1 : decide ((n : Int) < 1) = false := by simp; omega
  by_cases h9 : 9 < n
  · have hg : Hid (tabOk xss c = false) := by show _ = _; rw [hg0.out, inR_no (.inr (by omega))]; simp
    have hd : decide ((9 : Int) < n) = true := by simp; omega
    clear H hg0
    go_enter Try.func76, Try.ntmps76
    go_wp2_with fail
    go_ret
    exact ⟨ret_bool hg.out.symm, rfl⟩
  have hd9 : decide ((9 : Int) < n) = false := by simp; omega
  by_cases hc1 : c < 1
  · have hg : Hid (tabOk xss c = false) := by show _ = _; rw [hg0.out, inR_no (x := (c : Int)) (.inl (by omega))]; simp
    have hd : decide ((c : Int) < 1) = true := by simp; omega
    clear H hg0
    go_enter Try.func76, Try.ntmps76
    go_wp2_with fail
    go_ret
    exact ⟨ret_bool hg.out.symm, rfl⟩
  have hdc1 : decide ((c : Int) < 1) = false := by simp; omega
  by_cases hc9 : 9 < c
  · have hg : Hid (tabOk xss c = false) := by show _ = _; rw [hg0.out, inR_no (x := (c : Int)) (.inr (by omega))]; simp
    have hd : decide ((9 : Int) < c) = true := by simp; omega
    clear H hg0
    go_enter Try.func76, Try.ntmps76
    go_wp2_with fail
    go_ret
    exact ⟨ret_bool hg.out.symm, rfl⟩
  have hdc9 : decide ((9 : Int) < c) = false := by simp; omega
  have hg : Hid (tabOk xss c = tabIn c (-1000) 1000 xss) := by show _ = _; rw [hg0.out, inR_mk (x := (n : Int)) ⟨by omega, by omega⟩, inR_mk (x := (c : Int)) ⟨by omega, by omega⟩]; simp
  clear hg0
  go_enter Try.func76, Try.ntmps76
  go_wp2_with fail
  go_loop [27] (fun i => ∃ k : Nat, k ≤ n ∧ i = .int .i64 k ∧ Hid (tabIn c (-1000) 1000 (xss.drop k) = tabIn c (-1000) 1000 xss)) (fun i => n - (intOf i).toNat)
  case atStart => exact ⟨0, Nat.zero_le _, rfl, rfl⟩
  case round =>
    obtain ⟨k, hk, rfl, hr⟩ := hrel
    by_cases hlt : k < n
    · obtain ⟨b, o, ai, ci, r, rfl, hcell, hrow, hget⟩ := H.out.at_ hlt
      clear H
      have Hst := Lib.hid (tabIn_step hget.out hr.out)
      have Hrow := Lib.hid hrow
      clear hrow hr
      by_cases hrl : r.length = c
      · have hne : ((r.length : Int) != (c : Int)) = false := by simp [hrl]
        have hrl1 : r.length ≤ 9 := by omega
        have HRL := Lib.hid hrl
        clear hrl
        go_wp2_with fail
        go_loop [37] (fun i => ∃ j : Nat, j ≤ r.length ∧ i = .int .i64 j ∧ Hid (allIn (-1000) 1000 (r.drop j) = allIn (-1000) 1000 r)) (fun i => r.length - (intOf i).toNat)
        case atStart => exact ⟨0, Nat.zero_le _, rfl, rfl⟩
        case round =>
          obtain ⟨j, hj, rfl, hrj⟩ := hrel
          by_cases hjr : j < r.length
          · obtain ⟨b', o', x, rfl, hcell', hget'⟩ := Hrow.out.at_ (k := j) hjr
            clear Hrow
            have Hsj := Lib.hid (allIn_step hget'.out hrj.out)
            clear hrj
            by_cases h0 : x < -1000
            · have hr1 : Hid _ := Hst.out.2.1 (Hsj.out.2 (inR_no (.inl h0)))
              clear Hst Hsj
              have hx : decide (x < -1000) = true := by simpa using h0
              go_wp2_with fail
              go_ret
              exact ⟨ret_bool (by rw [hg.out, hr1.out]), rfl⟩
            · have hx : decide (x < -1000) = false := by simpa using h0
              by_cases h2 : 1000 < x
              · have hr1 : Hid _ := Hst.out.2.1 (Hsj.out.2 (inR_no (.inr h2)))
                clear Hst Hsj
                have hx2 : decide (1000 < x) = true := by simpa using h2
                go_wp2_with fail
                go_ret
                exact ⟨ret_bool (by rw [hg.out, hr1.out]), rfl⟩
              · have hr1 : Hid _ := Hsj.out.1 (inR_mk ⟨by omega, by omega⟩)
                clear Hst Hsj
                have hx2 : decide (1000 < x) = false := by simpa using h2
                go_wp2_with fail
                go_round
                case rel => exact ⟨j + 1, hjr, by go_num, hr1⟩
                case measure => simp [intOf]; omega
          · have hr1 : Hid _ := Hst.out.2.2 HRL.out (by have := hrj.out; rw [drop_all r j (by omega)] at this; exact this.symm)
            clear Hst hrj Hrow
            go_wp2_with fail
            go_round
            case rel => exact ⟨k + 1, hlt, by go_num, hr1⟩
            case measure => simp [intOf]; omega
      · have hne : ((r.length : Int) != (c : Int)) = true := by simp; omega
        have hr1 : Hid _ := Hst.out.1 hrl
        clear Hst hrl
        go_wp2_with fail
        go_ret
        exact ⟨ret_bool (by rw [hg.out, hr1.out]), rfl⟩
    · rw [drop_all xss k (by have := HL.out; omega)] at hr
      have hr1 : Hid _ := hr.out.symm
      clear hr H
      go_wp2_with fail
      go_ret
      exact ⟨ret_bool (by rw [hg.out, hr1.out]; rfl), rfl⟩
set_option maxHeartbeats 1600000 in
theorem sIsTable_any (ao : Option Addr) (n cap : Nat) (xss : List (List Int)) (c : Nat) (w : World) (h : Intss w ao n xss) (hc : c ≤ 1099511627776) :
    Calls Try.prog 78 #[.slice ao n cap, .int .i64 c] w fun e w' => e = .returned (.bool (tabOk xss c)) ∧ w = w' := by
  have hm := h.2.1
  have HL := Lib.hid h.1
  have H := Lib.hid h
  have hg : Hid (tabOk xss c = (inR n 1 9 && (inR c 1 9 && tabIn c (-1000) 1000 xss))) := tabOk_is xss c n h.1
  clear h
  go_enter Try.func78, Try.ntmps78
  go_wp2_with fail
  go_loop [5] (fun i => ∃ k : Nat, k ≤ n ∧ i = .int .i64 k ∧ Hid (tabIn c (-1000) 1000 (xss.drop k) = tabIn c (-1000) 1000 xss)) (fun i => n - (intOf i).toNat)
  case atStart => exact ⟨0, Nat.zero_le _, rfl, rfl⟩
  case round =>
    obtain ⟨k, hk, rfl, hr⟩ := hrel
    by_cases hlt : k < n
    · obtain ⟨b, o, ai, ci, r, rfl, hcell, hrow, hget⟩ := H.out.at_ hlt
      clear H
      have Hst := Lib.hid (tabIn_step hget.out hr.out)
      have Hrow := Lib.hid hrow
      clear hrow hr
      by_cases hrl : r.length = c
      · have hne : ((r.length : Int) != (c : Int)) = false := by simp [hrl]
        have HRL := Lib.hid hrl
        clear hrl
        go_wp2_with fail
        go_loop [6] (fun i => ∃ j : Nat, j ≤ c ∧ i = .int .i64 j ∧ Hid (allIn (-1000) 1000 (r.drop j) = allIn (-1000) 1000 r)) (fun i => c - (intOf i).toNat)
        case atStart => exact ⟨0, Nat.zero_le _, rfl, rfl⟩
        case round =>
          obtain ⟨j, hj, rfl, hrj⟩ := hrel
          by_cases hjr : j < c
          · obtain ⟨b', o', x, rfl, hcell', hget'⟩ := Hrow.out.at_ (k := j) (by have := HRL.out; omega)
            clear Hrow
            have hjr2 : j < r.length := by have := HRL.out; omega
            have Hsj := Lib.hid (allIn_step hget'.out hrj.out)
            clear hrj
            cases hi : inR x (-1000) 1000
            · have hr1 : Hid _ := Hst.out.2.1 (Hsj.out.2 hi)
              clear Hst Hsj
              go_wp2_with (go_at_call 52; refine (l1In_any _ _ _ _).mono ?_; rintro e w' ⟨rfl, rfl⟩)
              go_ret
              exact ⟨ret_bool (by rw [hg.out, hr1.out]; simp), rfl⟩
            · have hr1 : Hid _ := Hsj.out.1 hi
              clear Hst Hsj
              go_wp2_with (go_at_call 52; refine (l1In_any _ _ _ _).mono ?_; rintro e w' ⟨rfl, rfl⟩)
              go_round
              case rel => exact ⟨j + 1, hjr, by go_num, hr1⟩
              case measure => simp [intOf]; omega
          · have hr1 : Hid _ := Hst.out.2.2 HRL.out (by have := hrj.out; rw [drop_all r j (by have := HRL.out; omega)] at this; exact this.symm)
            clear Hst hrj Hrow
            go_wp2_with fail
            go_round
            case rel => exact ⟨k + 1, hlt, by go_num, hr1⟩
            case measure => simp [intOf]; omega
      · have hne : ((r.length : Int) != (c : Int)) = true := by simp; omega
        have hr1 : Hid _ := Hst.out.1 hrl
        clear Hst hrl
        go_wp2_with fail
        go_ret
        exact ⟨ret_bool (by rw [hg.out, hr1.out]; simp), rfl⟩
    · rw [drop_all xss k (by have := HL.out; omega)] at hr
      have hr1 : Hid _ := hr.out.symm
      clear hr H
      have hend : Hid (tabOk xss c = (inR n 1 9 && inR c 1 9)) := by
        show _ = _
        rw [hg.out, hr1.out]
        simp [tabIn]
      cases hn1 : inR (n : Int) 1 9
      · go_wp2_with (go_at_call 52; refine (l1In_any _ _ _ _).mono ?_; rintro e w' ⟨rfl, rfl⟩)
        go_ret
        exact ⟨ret_bool (by rw [hend.out, hn1]; rfl), rfl⟩
      · go_wp2_with (go_at_call 52; refine (l1In_any _ _ _ _).mono ?_; rintro e w' ⟨rfl, rfl⟩)
        go_ret
        exact ⟨ret_bool (by rw [hend.out, hn1]; rfl), rfl⟩
end Go.Proofs.Ytblkgkgopneleaa

namespace Go.Proofs.Ytblkgkgopneleaa
open Go.RowKit
set_option linter.all false
set_option maxHeartbeats 3200000 in
theorem iTimes_any (pa : Option Addr) (na ca : Nat) (a : List (List Int)) (pb : Option Addr) (nb cb : Nat) (b : List (List Int)) (c : Nat) (w : World) (ha : Intss w pa na a) (hb : Intss w pb nb b)
    (hra : RowsLen a nb) (hrb : RowsLen b c) (hna : na ≤ 1048576) (hc : c ≤ 1048576) (hnb : 0 < nb) :
    Calls Try.prog 77 #[.slice pa na ca, .slice pb nb cb] w fun e w' => ∃ v, e = .returned v ∧ OIntss w' w.heap.size v na (mulT a b c) ∧ Below w.heap.size w w' := by
  have hmb := hb.2.1
  have HA := Lib.hid ha
  have HB := Lib.hid hb
  have HRA := Lib.hid hra
  have HRB := Lib.hid hrb
  have HLA : Hid (a.length = na) := ha.1
  have HLB : Hid (b.length = nb) := hb.1
  obtain ⟨b0, o0, a0, c0, r0, rfl, hc0, hrow0, hget0⟩ := hb.at_ hnb
  have hr0 : r0.length = c := hrb _ _ hget0.out
  rw [hr0, Nat.add_zero] at hc0
  have HC0 := Lib.hid hc0
  clear ha hb hra hrb hrow0 hget0 hr0 hc0
  have hmk := make_ints c (by omega)
  go_enter Try.func77, Try.ntmps77
  go_wp2_with fail
  go_loopw [5, 16] (fun v i wr => ∃ k : Nat, k ≤ na ∧ i = .int .i64 k ∧ OIntss wr w.heap.size v k ((mulT a b c).take k) ∧ Below w.heap.size w wr) (fun _ i _ => na - (intOf i).toNat)
  case atStart => exact ⟨0, Nat.zero_le _, rfl, OIntss.empty w _ (Nat.le_refl _), (Below.refl _ _).alloc (Nat.le_refl _) _⟩
  case round =>
    obtain ⟨i, hi, rfl, hown, hbl⟩ := hrel
    obtain ⟨wo, rfl⟩ : ∃ wo : World, wo = wr := ⟨_, rfl⟩
    by_cases hlt : i < na
    · obtain ⟨b1, o1, a1, c1, ra, rfl, hca, hrow, hgeta⟩ := HA.out.at_ hlt
      have Hrow := Lib.hid hrow
      have HRL : Hid (ra.length = nb) := HRA.out _ _ hgeta.out
      have hrl1 : ra.length ≤ nb := by have := HRL.out; omega
      have h1 := (hbl.cell (World.block_lt_of_cell? w _ hca)).trans hca
      have h0 := (hbl.cell (World.block_lt_of_cell? w _ HC0.out)).trans HC0.out
      have Hown := Lib.hid hown
      have Hbl := Lib.hid hbl
      clear hrow hca hown hbl
      go_wp2_with fail
      clear h1 h0
      have hmade := OInts.made wo c (by omega)
      rw [← wline_zero b ra] at hmade
      go_loopw [27] (fun i' wx => ∃ k : Nat, k ≤ ra.length ∧ i' = .int .i64 k ∧ OInts wx wo.heap.size (.slice (some ⟨wo.heap.size, 0, none⟩) c c) c (wline b ra c k) ∧ Below wo.heap.size wo wx) (fun i _ => ra.length - (intOf i).toNat)
      case atStart => exact ⟨0, Nat.zero_le _, rfl, hmade, (Below.refl _ _).alloc (Nat.le_refl _) _⟩
      case round =>
        obtain ⟨k, hk, rfl, hline, hbx⟩ := hrel
        clear hmade
        have hbw := Hbl.out.trans (hbx.mono Hbl.out.size)
        by_cases hkr : k < ra.length
        · obtain ⟨b2, o2, a2, c2, rb, e, hcb, hrowb, hgetb⟩ := HB.out.at_ (k := k) (by omega)
          injection e with e
          injection e with e1 e2
          subst e1
          subst e2
          have hrbl : rb.length = c := HRB.out _ _ hgetb.out
          obtain ⟨b3, o3, x, rfl, hcx, hgetx⟩ := Hrow.out.at_ (k := k) hkr
          have h2 := (hbw.cell (World.block_lt_of_cell? w _ hcb)).trans hcb
          have h3 := (hbw.cell (World.block_lt_of_cell? w _ hcx)).trans hcx
          have hkb : k < nb := by omega
          have hlc1 : rb.length ≤ c := by omega
          have hlc2 : c ≤ rb.length := by omega
          have Hrowb := Lib.hid hrowb
          have Hline := Lib.hid hline
          have Hbx := Lib.hid hbx
          clear hrowb hrbl hcb hcx hline hbx hbw
          go_wp2_with fail
          clear h2 h3
          go_loopw [37] (fun i' wy => ∃ j : Nat, j ≤ rb.length ∧ i' = .int .i64 j ∧ OInts wy wo.heap.size (.slice (some ⟨wo.heap.size, 0, none⟩) c c) c ((wline b ra c (k + 1)).take j ++ (wline b ra c k).drop j) ∧ Below wo.heap.size wo wy) (fun i _ => c - (intOf i).toNat)
          case atStart => exact ⟨0, Nat.zero_le _, rfl, by simpa using Hline.out, Hbx.out⟩
          case round =>
            obtain ⟨j, hj, rfl, hline, hbx⟩ := hrel
            clear Hline Hbx
            have hbw := Hbl.out.trans (hbx.mono Hbl.out.size)
            by_cases hjc : j < rb.length
            · obtain ⟨b4, o4, y, rfl, hcy, hgety⟩ := Hrowb.out.at_ (k := j) hjc
              have HW : Hid (wd b ra (k + 1) j = wrap64 (wd b ra k j + wrap64 (x * y))) := wd_succ hgetx.out hgetb.out hgety.out
              have h4 := (hbw.cell (World.block_lt_of_cell? w _ hcy)).trans hcy
              have hjc' : j < c := by omega
              have h6 := hline.cell j hjc'
              rw [List.getD, mix_get (by rw [wline_len]; omega) (wline_get hjc'), Option.getD_some] at h6
              have h7 := hline.frozen j
              have hset := hline.set j (wd b ra (k + 1) j)
              rw [mix_set (wline_get hjc') (wline_get hjc')] at hset
              have hb' := hbx.setCell (p := ⟨wo.heap.size, j, none⟩) (Nat.le_refl _) (.int .i64 (wd b ra (k + 1) j))
              have Hset := Lib.hid hset
              have Hb' := Lib.hid hb'
              clear hset hb' hline hbx hbw hcy
              go_wp2_with fail
              go_roundw
              case rel => exact ⟨j + 1, hjc, by go_num, by rw [← HW.out]; first | exact Hset.out | exact Hset.out.drewN 1, by rw [← HW.out]; first | exact Hb'.out | exact Hb'.out.drew⟩
              case measure => simp [intOf]; omega
            · have hjc' : j = c := by omega
              subst hjc'
              rw [mix_end (wline_len b ra j (k + 1)) (wline_len b ra j k)] at hline
              have Hline := Lib.hid hline
              have Hbx := Lib.hid hbx
              clear hline hbx hbw
              go_wp2_with fail
              go_roundw
              case rel => exact ⟨k + 1, hkr, by go_num, Hline.out, Hbx.out⟩
              case measure => simp [intOf]; omega
        · rw [wline_end (by omega) (by have := HLB.out; have := HRL.out; omega)] at hline
          have Hline := Lib.hid hline
          have Hbx := Lib.hid hbx
          clear hline hbx hbw
          go_wp2_with (first | (at_builtin; refine wpList_push_fresh _ _ wo rfl _ _ rfl w.heap.size _ i _ rfl Hown.out (by omega) Hbl.out.size Hbx.out c _ Hline.out _ ?ctb rfl ?_))
          case ctb => rfl
          intro v' w' hown' hbel _
          rw [push_take (mulT_get hgeta.out)] at hown'
          have hb' := Hbl.out.trans hbel
          go_wp2_with fail
          go_roundw
          case rel => exact ⟨i + 1, hlt, by go_num, hown', hb'⟩
          case measure => simp [intOf]; omega
    · have Hown := Lib.hid hown
      have Hbl := Lib.hid hbl
      clear hown hbl
      go_wp2_with fail
      go_ret
      have : i = na := by omega
      subst this
      have h := Hown.out
      rw [List.take_of_length_le (by rw [mulT_len]; have := HLA.out; omega)] at h
      exact ⟨_, rfl, h, Hbl.out⟩
end Go.Proofs.Ytblkgkgopneleaa

namespace Go.Proofs.Ytblkgkgopneleaa
open Go.RowKit
set_option linter.all false
def fillP : List Int → List Int → List (List Int)
  | [], hd => [hd]
  | x :: r, hd => (List.range' 0 (x.toNat + 1)).flatMap fun (y : Nat) => fillP r (hd ++ [(y : Int)])
def zerosL (n : Nat) : List Int := List.replicate n 0
def keepP (row l : List Int) : Bool := !(eqL l (zerosL row.length)) && !(eqL l row)
def partsOk (row : List Int) : Bool := decide (row.length ≤ 4) && allIn 0 3 row
def partsV (row : List Int) : List (List Int) := if partsOk row then (fillP row []).filter (keepP row) else []
theorem rng_step {α : Type} {g : Nat → List α} {acc R : List α} {a N : Nat} (ha : a < N) (h : acc ++ (List.range' a (N - a)).flatMap g = R) : (acc ++ g a) ++ (List.range' (a + 1) (N - (a + 1))).flatMap g = R := by
  rw [show N - a = (N - (a + 1)) + 1 by omega, List.range'_succ] at h
  simpa using h
theorem rng_end {α : Type} {g : Nat → List α} {acc R : List α} {a N : Nat} (ha : N ≤ a) (h : acc ++ (List.range' a (N - a)).flatMap g = R) : acc = R := by
  rw [show N - a = 0 by omega] at h
  simpa using h
theorem pre_le {α : Type} {acc Z R : List α} (h : acc ++ Z = R) : acc.length ≤ R.length := by rw [← h]; simp
theorem fillP_len : ∀ (row hd : List Int), (∀ x ∈ row, x ≤ 3) → (fillP row hd).length ≤ 4 ^ row.length
  | [], hd, _ => by simp [fillP]
  | x :: r, hd, h => by
    have ih := fun y => fillP_len r (hd ++ [((y : Nat) : Int)]) (fun z hz => h z (List.mem_cons_of_mem _ hz))
    have h1 := h x (List.mem_cons_self ..)
    have h2 : ∀ (l : List Nat), (l.flatMap fun (y : Nat) => fillP r (hd ++ [(y : Int)])).length ≤ l.length * 4 ^ r.length := by
      intro l
      induction l with
      | nil => simp
      | cons y l ihl =>
        rw [List.flatMap_cons, List.length_append, List.length_cons, Nat.add_mul, Nat.one_mul]
        have := ih y
        omega
    have h3 := h2 (List.range' 0 (x.toNat + 1))
    rw [List.length_range'] at h3
    rw [fillP, List.length_cons, Nat.pow_succ]
    refine Nat.le_trans h3 ?_
    rw [Nat.mul_comm (4 ^ r.length) 4]
    exact Nat.mul_le_mul_right _ (by omega)
theorem fillP_mem : ∀ (row hd : List Int) (l : List Int), (∀ x ∈ row, 0 ≤ x) → l ∈ fillP row hd → ∃ t, l = hd ++ t ∧ t.length = row.length ∧ leL t row = true
  | [], hd, l, _, h => by
    simp [fillP] at h
    exact ⟨[], by simp [h], rfl, rfl⟩
  | x :: r, hd, l, hx, h => by
    rw [fillP, List.mem_flatMap] at h
    obtain ⟨y, hy, hl⟩ := h
    have hy : y < x.toNat + 1 := by have := List.mem_range'.1 hy; omega
    obtain ⟨t, e, ht, hle⟩ := fillP_mem r (hd ++ [(y : Int)]) l (fun z hz => hx z (List.mem_cons_of_mem _ hz)) hl
    have h0 := hx x (List.mem_cons_self ..)
    refine ⟨(y : Int) :: t, by rw [e]; simp, by simp [ht], ?_⟩
    simp only [leL, Bool.and_eq_true]
    exact ⟨inR_mk ⟨by omega, by omega⟩, hle⟩
def lsum : List Int → Int
  | [] => 0
  | x :: r => x + lsum r
theorem isum_lsum : ∀ (xs : List Int) (a : Int), (∀ x ∈ xs, 0 ≤ x) → 0 ≤ a → a + lsum xs ≤ 9223372036854775807 → isum a xs = a + lsum xs ∧ 0 ≤ lsum xs
  | [], a, _, _, _ => by simp [isum, lsum]
  | x :: r, a, h, ha, hb => by
    have h0 := h x (List.mem_cons_self ..)
    have hr : 0 ≤ lsum r := by
      have : ∀ l : List Int, (∀ x ∈ l, 0 ≤ x) → 0 ≤ lsum l := by
        intro l
        induction l with
        | nil => intro _; simp [lsum]
        | cons y l ih => intro h; have := h y (List.mem_cons_self ..); have := ih (fun z hz => h z (List.mem_cons_of_mem _ hz)); simp [lsum]; omega
      exact this r (fun z hz => h z (List.mem_cons_of_mem _ hz))
    simp only [lsum] at hb ⊢
    have e : wrap64 (a + x) = a + x := by unfold wrap64; omega
    have ih := isum_lsum r (a + x) (fun z hz => h z (List.mem_cons_of_mem _ hz)) (by omega) (by omega)
    refine ⟨?_, by omega⟩
    show isum (wrap64 (a + x)) r = _
    rw [e, ih.1]
    omega
theorem leL_sum : ∀ (p r : List Int), p.length = r.length → leL p r = true → 0 ≤ lsum p ∧ lsum p ≤ lsum r ∧ (lsum p = 0 → p = zerosL r.length) ∧ (lsum p = lsum r → p = r) ∧ (∀ x ∈ p, 0 ≤ x)
  | [], [], _, _ => ⟨by simp [lsum], by simp [lsum], fun _ => rfl, fun _ => rfl, by simp⟩
  | x :: p, y :: r, hl, h => by
    simp only [leL, Bool.and_eq_true] at h
    have h1 := inR_true h.1
    have ih := leL_sum p r (by simpa using hl) h.2
    refine ⟨by simp [lsum]; omega, by simp [lsum]; omega, fun e => ?_, fun e => ?_, fun z hz => ?_⟩
    · simp only [lsum] at e
      have e1 := ih.2.2.1 (by omega)
      have e2 : x = 0 := by omega
      rw [e2, e1]
      rfl
    · simp only [lsum] at e
      have e1 := ih.2.2.2.1 (by omega)
      have e2 : x = y := by omega
      rw [e1, e2]
    · rcases List.mem_cons.1 hz with rfl | hz
      · exact h1.1
      · exact ih.2.2.2.2 z hz
theorem lsum_zeros : ∀ n, lsum (zerosL n) = 0
  | 0 => rfl
  | n + 1 => by show 0 + lsum (zerosL n) = 0; rw [lsum_zeros n]; rfl
theorem lsum_le : ∀ (r : List Int), (∀ x ∈ r, 0 ≤ x ∧ x ≤ 3) → 0 ≤ lsum r ∧ lsum r ≤ 3 * r.length
  | [], _ => by simp [lsum]
  | x :: r, h => by
    have h1 := h x (List.mem_cons_self ..)
    have ih := lsum_le r (fun z hz => h z (List.mem_cons_of_mem _ hz))
    simp only [lsum, List.length_cons]
    omega
theorem allIn_mem {lo hi : Int} {xs : List Int} (h : allIn lo hi xs = true) : ∀ x ∈ xs, lo ≤ x ∧ x ≤ hi := by
  intro x hx
  simp only [allIn, List.all_eq_true] at h
  exact inR_true (h x hx)
/-- The program's test on sums drops what the reference's test drops. -/
theorem keep_sum {row l : List Int} (hr : partsOk row = true) (h : l ∈ fillP row []) : keepP row l = !((isum 0 l == 0) || (isum 0 l == isum 0 row)) := by
  simp only [partsOk, Bool.and_eq_true, decide_eq_true_eq] at hr
  have hm := allIn_mem hr.2
  obtain ⟨t, e, hl, hle⟩ := fillP_mem row [] l (fun x hx => (hm x hx).1) h
  rw [List.nil_append] at e
  subst e
  have hs := leL_sum l row hl hle
  have hb := lsum_le row hm
  have e1 := (isum_lsum l 0 hs.2.2.2.2 (Int.le_refl _) (by omega)).1
  have e2 := (isum_lsum row 0 (fun x hx => (hm x hx).1) (Int.le_refl _) (by omega)).1
  rw [e1, e2]
  unfold keepP
  by_cases h0 : lsum l = 0
  · have := hs.2.2.1 h0
    rw [eqL_true this, h0]
    simp
  · have hz : l ≠ zerosL row.length := fun e => h0 (by rw [e, lsum_zeros])
    rw [eqL_false hz]
    by_cases h1 : lsum l = lsum row
    · rw [eqL_true (hs.2.2.2.1 h1), h1]
      simp
    · have : l ≠ row := fun e => h1 (by rw [e])
      rw [eqL_false this]
      have a1 : (0 + lsum l == 0) = false := by simp; omega
      have a2 : (0 + lsum l == 0 + lsum row) = false := by simp; omega
      rw [a1, a2]
      rfl
theorem partsOk_len {row : List Int} (h : partsOk row = true) : row.length ≤ 4 ∧ (fillP row []).length ≤ 256 := by
  simp only [partsOk, Bool.and_eq_true, decide_eq_true_eq] at h
  refine ⟨h.1, Nat.le_trans (fillP_len row [] (fun x hx => (allIn_mem h.2 x hx).2)) ?_⟩
  exact Nat.le_trans (Nat.pow_le_pow_right (by omega) h.1) (by decide)
end Go.Proofs.Ytblkgkgopneleaa
