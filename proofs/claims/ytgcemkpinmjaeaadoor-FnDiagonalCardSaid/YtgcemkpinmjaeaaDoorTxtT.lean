/- TxtT: parts of the proofs of this seat: DigT Strs JoinT GrpT. -/
import Derived.Lib.ItoaLen
import Derived.Laws.BytesString
import Derived.Laws.Cells
import Derived.Test.YtgcemkpinmjaeaaDoorProg
import Derived.Lib.AppendStr
import Derived.Lib.Join
import Derived.Test.YtgcemkpinmjaeaaDoorBase
namespace Go.Proofs.YtgcemkpinmjaeaaDoor
open Go.RowKit
set_option linter.all false
/- The decimal digits of a number, as both programs and the laws' marks write them. -/
def decB (u : Nat) : ByteArray := ⟨(Lib.decDigits u).toArray⟩
def dg (x : Nat) : List UInt8 := if x = 0 then [] else Lib.decDigits x
theorem dg_zero : dg 0 = [] := rfl
theorem dg_pos {x : Nat} (h : 0 < x) : dg x = Lib.decDigits x := by simp [dg]; omega
theorem ofNat48 (k : Nat) : UInt8.ofNat (48 + k) = 48 + UInt8.ofNat k := by rw [UInt8.ofNat_add]; rfl
theorem belowA (w : World) (o : Obj) : Below w.heap.size w (w.alloc o) := (Below.refl _ _).alloc (Nat.le_refl _) o
theorem dg_step {x : Nat} (h : 0 < x) : dg x = dg (x / 10) ++ [48 + UInt8.ofNat (x % 10)] := by
  rw [← ofNat48]
  rw [dg_pos h, Lib.decDigits]
  by_cases h10 : x < 10
  · rw [dif_pos h10, show x / 10 = 0 by omega, dg_zero, show x % 10 = x by omega]; rfl
  · rw [dif_neg h10, dg_pos (by omega)]
theorem dec_len {u : Nat} (h : u < 18446744073709551616) : (Lib.decDigits u).length ≤ 20 := by
  rw [Lib.decDigits_length]; exact Lib.nDigits_le20 u h
theorem decB_size {u : Nat} (h : u < 18446744073709551616) : (decB u).size ≤ 20 := by
  have := dec_len h
  simpa [decB, ByteArray.size] using this
def catB (b : UInt8) (o : ByteArray) : ByteArray := (⟨#[b]⟩ : ByteArray) ++ o
theorem catB_list (b : UInt8) (o : ByteArray) : (catB b o).data.toList = b :: o.data.toList := by simp [catB]
theorem catB_size (b : UInt8) (o : ByteArray) : (catB b o).size = o.size + 1 := by
  have h := congrArg List.length (catB_list b o)
  simp at h
  exact h
theorem dig_next {x : Nat} {o : ByteArray} {R : List UInt8} (hx : 0 < x) (h : dg x ++ o.data.toList = R) : dg (x / 10) ++ (catB (48 + UInt8.ofNat (x % 10)) o).data.toList = R := by
  rw [dg_step hx] at h
  rw [catB_list, ← h]
  simp
theorem dig_done {o : ByteArray} {u : Nat} (hu : 0 < u) (h : dg 0 ++ o.data.toList = dg u) : o = decB u := by
  rw [dg_zero, dg_pos hu] at h
  apply ByteArray.ext
  apply Array.ext'
  simpa [decB] using h
theorem dig_size {x u : Nat} {o : ByteArray} (hu : u < 18446744073709551616) (h : dg x ++ o.data.toList = dg u) : o.size ≤ 20 := by
  have h2 := congrArg List.length h
  have h3 : (dg u).length ≤ 20 := by
    by_cases h0 : u = 0
    · rw [h0, dg_zero]; exact Nat.zero_le _
    · rw [dg_pos (by omega)]; exact dec_len hu
  simp only [List.length_append] at h2
  have h4 : o.data.toList.length = o.size := Array.length_toList
  omega
/-- One byte made a string. -/
theorem conv_one (w : World) (z : Int) (t : TypeId) : (convert 22 9 (.slice (some ⟨w.heap.size, 0, none⟩) 1 1)).run Tryd.prog (w.alloc (.cells #[.int .u8 z] t)) = .ok (.string ⟨#[UInt8.ofNat z.toNat]⟩) (w.alloc (.cells #[.int .u8 z] t)) := by
  rw [run_convert_bytes_string _ 22 9 5 _ _ _ Tryd.underlying22 Tryd.underlying5 Tryd.underlying9]
  have hc := run_loadCells_list (P := Tryd.prog) (w.alloc (.cells #[.int .u8 z] t)) ⟨w.heap.size, 0, none⟩ (([z] : List Int).map (Value.int .u8)) (by
    intro j u hu
    match j, hu with
    | 0, hu =>
      simp at hu
      subst hu
      exact World.cell?_alloc_new _ _ _ _)
  rw [run_bytesToString _ ⟨w.heap.size, 0, none⟩ 1 1 [z] hc]
  rfl
theorem ret_text {a b : ByteArray} (h : a = b) : Ending.returned (.string a) = .returned (.string b) := by rw [h]
end Go.Proofs.YtgcemkpinmjaeaaDoor

namespace Go.Proofs.YtgcemkpinmjaeaaDoor
open Go.RowKit
set_option linter.all false
/- Words for memory: a slice of strings. -/
theorem info_str : (Tryd.prog.info? 9).map (fun i => (i.zero, i.size, i.bytes)) = some (some (.string ⟨#[]⟩), 1, 16) := by kernel_rfl
def Strs (w : World) (ao : Option Addr) (n : Nat) (ss : List ByteArray) : Prop :=
  ss.length = n ∧ n ≤ 1099511627776 ∧ ∀ i s, ss[i]? = some s → ∃ b o, ao = some ⟨b, o, none⟩ ∧ w.cell? ⟨b, o + i, none⟩ = some (.string s)
theorem Strs.keep {w w' : World} {ao : Option Addr} {n : Nat} {ss : List ByteArray} (h : Strs w ao n ss) (hb : Below w.heap.size w w') : Strs w' ao n ss := by
  refine ⟨h.1, h.2.1, fun i s hi => ?_⟩
  obtain ⟨b, o, e, hc⟩ := h.2.2 i s hi
  exact ⟨b, o, e, (hb.cell (p := ⟨b, o + i, none⟩) (World.block_lt_of_cell? w _ hc)).trans hc⟩
theorem Strs.drewN {w : World} {ao : Option Addr} {n : Nat} {ss : List ByteArray} (h : Strs w ao n ss) (k : Nat) : Strs (w.drewN k) ao n ss := h
theorem Strs.at_ {w : World} {ao : Option Addr} {n k : Nat} {ss : List ByteArray} (h : Strs w ao n ss) (hk : k < n) :
    ∃ b o s, ao = some ⟨b, o, none⟩ ∧ w.cell? ⟨b, o + k, none⟩ = some (.string s) ∧ Hid (ss[k]? = some s) := by
  have hl : k < ss.length := by rw [h.1]; exact hk
  obtain ⟨b, o, e, hc⟩ := h.2.2 k _ (List.getElem?_eq_getElem hl)
  exact ⟨b, o, _, e, hc, List.getElem?_eq_getElem hl⟩
def OStrs (w : World) (lo : Nat) (v : Value) (n : Nat) (ss : List ByteArray) : Prop := n ≤ 1099511627776 ∧ w.ownsRow lo 9 1 v n (ss.map Value.string)
section
variable {w w' : World} {lo n : Nat} {v : Value} {ss : List ByteArray}
theorem OStrs.len (h : OStrs w lo v n ss) : ss.length = n := by simpa using h.2.1
theorem OStrs.keep (h : OStrs w lo v n ss) (hb : Below w.heap.size w w') : OStrs w' lo v n ss := ⟨h.1, own_keep h.2 hb⟩
theorem OStrs.grown {row : Option Nat} (h : OStrs w lo v n ss) (hg : w.grownBy w' row) (hne : v.ownBlock = none ∨ v.ownBlock ≠ row) : OStrs w' lo v n ss := ⟨h.1, h.2.kept hg hne⟩
theorem OStrs.alloc (h : OStrs w lo v n ss) (o : Obj) : OStrs (w.alloc o) lo v n ss := ⟨h.1, h.2.alloc o⟩
theorem OStrs.drewN (h : OStrs w lo v n ss) (k : Nat) : OStrs (w.drewN k) lo v n ss := h
theorem OStrs.ownlt (h : OStrs w lo v n ss) : ∀ k, v.ownBlock = some k → lo ≤ k ∧ k < w.heap.size := h.2.lt
theorem OStrs.mono {lo' : Nat} (h : OStrs w lo v n ss) (hl : lo' ≤ lo) : OStrs w lo' v n ss := by
  refine ⟨h.1, h.2.1, ?_⟩
  rcases h.2.2 with h2 | ⟨g, cap, cur, hv, hg, r⟩
  · exact .inl h2
  · exact .inr ⟨g, cap, cur, hv, Nat.le_trans hl hg, r⟩
theorem OStrs.form (h : OStrs w lo v n ss) : ∃ ao cap, v = .slice ao n cap ∧ Strs w ao n ss := by
  have hl := h.len
  rcases h.2.2 with ⟨rfl, rfl⟩ | ⟨g, cap, cur, rfl, hg, hh, hnc, _, _, ht⟩
  · exact ⟨none, 0, rfl, hl, h.1, fun i s hi => by rw [List.eq_nil_of_length_eq_zero hl] at hi; simp at hi⟩
  · refine ⟨some ⟨g, 0, none⟩, cap, rfl, hl, h.1, fun i s hi => ⟨g, 0, rfl, ?_⟩⟩
    have hc := h.2.cells (g := g) rfl i (.string s) (by simp [hi])
    rw [Addr.add_lit] at hc
    simpa using hc
theorem OStrs.capLe {m cap : Nat} {ao : Option Addr} (h : OStrs w lo v n ss) (e : v = .slice ao m cap) : n ≤ cap := by
  rcases h.2.2 with ⟨rfl, rfl⟩ | ⟨g, c, cur, rfl, _, _, hnc, _⟩
  · exact Nat.zero_le _
  · injection e with _ _ e3
    omega
theorem OStrs.head (h : OStrs w lo v n ss) (hn : 0 < n) : ∃ g cap, v = .slice (some ⟨g, 0, none⟩) n cap := by
  rcases h.2.2 with ⟨_, h0⟩ | ⟨g, cap, cur, e, _⟩
  · omega
  · exact ⟨g, cap, e⟩
theorem OStrs.none_ (w : World) (lo : Nat) : OStrs w lo (.slice none 0 0) 0 [] := ⟨by omega, by simp, .inl ⟨rfl, rfl⟩⟩
theorem OStrs.empty (w : World) (lo : Nat) (hlo : lo ≤ w.heap.size) : OStrs (w.alloc (.cells #[] 9)) lo (.slice (some ⟨w.heap.size, 0, none⟩) 0 0) 0 [] :=
  ⟨by omega, World.ownsRow_made (base := lo) (e := 9) (size := 1) w #[] 0 hlo (by unfold maxLen; omega) rfl⟩
end
section
variable {w w' : World} {lo g n cap : Nat} {ss : List ByteArray}
theorem OStrs.read {ao : Option Addr} (h : OStrs w lo (.slice ao n cap) n ss) : Strs w ao n ss := by
  obtain ⟨ao', cap', e, hi⟩ := h.form
  injection e with e1
  subst e1
  exact hi
theorem OStrs.two {ao : Option Addr} (h : OStrs w lo (.slice ao n cap) n ss) : (ao = none ∧ n = 0) ∨ ∃ g, ao = some ⟨g, 0, none⟩ := by
  rcases h.2.2 with ⟨e, hn⟩ | ⟨g, c, cur, e, _⟩
  · injection e with e1
    exact .inl ⟨e1, hn⟩
  · injection e with e1
    exact .inr ⟨g, e1⟩
theorem OStrs.lt (h : OStrs w lo (.slice (some ⟨g, 0, none⟩) n cap) n ss) : lo ≤ g ∧ g < w.heap.size := h.2.lt g rfl
theorem OStrs.frozen (h : OStrs w lo (.slice (some ⟨g, 0, none⟩) n cap) n ss) (k : Nat) : w.frozen? ⟨g, k, none⟩ = false := h.2.frozenAt k
theorem OStrs.cell (h : OStrs w lo (.slice (some ⟨g, 0, none⟩) n cap) n ss) {k : Nat} {s : ByteArray} (hk : ss[k]? = some s) : w.cell? ⟨g, k, none⟩ = some (.string s) := by
  obtain ⟨b, o, e, hc⟩ := h.read.2.2 k s hk
  injection e with e
  injection e with e1 e2
  subst e1
  subst e2
  simpa using hc
theorem OStrs.set (h : OStrs w lo (.slice (some ⟨g, 0, none⟩) n cap) n ss) (k : Nat) (s : ByteArray) : OStrs (w.setCell ⟨g, k, none⟩ (.string s)) lo (.slice (some ⟨g, 0, none⟩) n cap) n (ss.set k s) := by
  refine ⟨h.1, ?_⟩
  rw [List.map_set]
  exact (h.2.stored k _).1
end
theorem wp_push_str {o : Oper} {a : Act} {K0 : Act → World → Prop} {Q : Exit → Act → World → Prop} (W : World) (y : ByteArray) (s x : Operand)
    (ho : o.op = .call { callee := .builtin .append, args := #[s, x], argTypes := #[52, 52] })
    (lo : Nat) (v : Value) (n : Nat) (xs : List ByteArray) (hs : a.eval s = v) (h : OStrs W lo v n xs) (hn : n + 1 ≤ 1099511627776) (hlo : lo ≤ W.heap.size)
    (tb : Nat) (htb : tb = W.heap.size) (hx : a.eval x = .slice (some ⟨tb, 0, none⟩) 1 1)
    (K : ∀ v' w', OStrs w' lo v' (n + 1) (xs ++ [y]) → Below lo W w' → K0 (a.put o.dst v') w') : o.wp Tryd.prog a (W.alloc (.cells #[.string y] 9)) K0 Q := by
  subst htb
  obtain ⟨i0, hi, hz0, hz1, hz2⟩ := info_parts info_str
  refine wp_append_own _ s x 52 ho lo 9 i0 (.string ⟨#[]⟩) 1 16 Tryd.underlying52 hi hz0 hz1 hz2 rfl (by decide) v n _ hs (h.alloc _).2 ⟨W.heap.size, 0, none⟩ 1 1 [.string y] hx rfl ?_ ?_ ?_ ?_ (by simp; omega) ?_
  · intro j u' hj
    match j, hj with
    | 0, hj =>
      simp at hj
      subst hj
      exact World.cell?_alloc_new _ _ _ _
  · intro u' hu'
    simp at hu'
    subst hu'
    rfl
  · unfold maxLen; omega
  · omega
  · intro v' w' hown hgrow _
    refine K v' w' ⟨hn, ?_⟩ (((Below.refl lo W).alloc hlo _).grown hgrow (by simp; omega) (fun k hk => (h.ownlt k hk).1))
    rw [List.map_append]
    exact hown
theorem wpList_push_str {ops : Array Oper} {rest : List Oper} {o : Oper} {a : Act} {Q : Exit → Act → World → Prop} (W : World) (y : ByteArray) (hgd : o.guard = none) (s x : Operand)
    (ho : o.op = .call { callee := .builtin .append, args := #[s, x], argTypes := #[52, 52] })
    (lo : Nat) (v : Value) (n : Nat) (xs : List ByteArray) (hs : a.eval s = v) (h : OStrs W lo v n xs) (hn : n + 1 ≤ 1099511627776) (hlo : lo ≤ W.heap.size)
    (tb : Nat) (htb : tb = W.heap.size) (hx : a.eval x = .slice (some ⟨tb, 0, none⟩) 1 1)
    (K : ∀ v' w', OStrs w' lo v' (n + 1) (xs ++ [y]) → Below lo W w' → wpList Tryd.prog ops Q rest (a.put o.dst v') w') : wpList Tryd.prog ops Q (o :: rest) a (W.alloc (.cells #[.string y] 9)) := by
  refine wpList_plain hgd fun K' hK => ?_
  exact wp_push_str W y s x ho lo v n xs hs h hn hlo tb htb hx fun v' w' h1 h2 => hK _ _ (K v' w' h1 h2)
theorem OStrs.lit (w : World) (lo : Nat) (ss : List ByteArray) (hlo : lo ≤ w.heap.size) (hn : ss.length ≤ 1048576) : OStrs (w.alloc (.cells (ss.map Value.string).toArray 9)) lo (.slice (some ⟨w.heap.size, 0, none⟩) ss.length ss.length) ss.length ss := by
  refine ⟨by omega, ?_⟩
  have h := World.ownsRow_lit (base := lo) (e := 9) (size := 1) w (ss.map Value.string).toArray ss.length hlo (by unfold maxLen; omega) (by simp)
  simpa using h
theorem OStrs.far {w w' : World} {lo n : Nat} {u v : Value} {ss : List ByteArray} (h : OStrs w lo u n ss) (hg : w.grownBy w' v.ownBlock) (ha : Apart u v) : OStrs w' lo u n ss := h.grown hg ha.ne
theorem wpList_push_strAt {ops : Array Oper} {rest : List Oper} {o : Oper} {a : Act} {Q : Exit → Act → World → Prop} (W : World) (y : ByteArray) (hgd : o.guard = none) (s x : Operand)
    (ho : o.op = .call { callee := .builtin .append, args := #[s, x], argTypes := #[52, 52] })
    (lo : Nat) (v : Value) (n : Nat) (xs : List ByteArray) (hs : a.eval s = v) (h : OStrs W lo v n xs) (hn : n + 1 ≤ 1099511627776) (hlo : lo ≤ W.heap.size)
    (tb : Nat) (htb : tb = W.heap.size) (hx : a.eval x = .slice (some ⟨tb, 0, none⟩) 1 1)
    (K : ∀ v' w', OStrs w' lo v' (n + 1) (xs ++ [y]) → W.grownBy w' v.ownBlock → NewOr W.heap.size v v' → wpList Tryd.prog ops Q rest (a.put o.dst v') w') : wpList Tryd.prog ops Q (o :: rest) a (W.alloc (.cells #[.string y] 9)) := by
  refine wpList_plain hgd fun K' hK => ?_
  subst htb
  obtain ⟨i0, hi, hz0, hz1, hz2⟩ := info_parts info_str
  obtain ⟨v', w', hr, h2, h3, _, h5⟩ := run_append_own_at (P := Tryd.prog) (W.alloc (.cells #[.string y] 9)) lo 52 o.type 9 i0 (.string ⟨#[]⟩) 1 16 Tryd.underlying52 hi hz0 hz1 hz2 rfl (by decide) v n _ (h.alloc _).2 ⟨W.heap.size, 0, none⟩ 1 1 [.string y] rfl
    (by
      intro j u' hj
      match j, hj with
      | 0, hj =>
        simp at hj
        subst hj
        exact World.cell?_alloc_new _ _ _ _) (by intro u hu; simp at hu; subst hu; rfl) (by unfold maxLen; omega) (by omega) (by simp; omega)
  unfold Oper.wp execOp
  simp only [ho, resolve, invoke, builtin, Sem.run_bind, Sem.run_pure, Result.andThen_ok, List.map_toArray, List.map_cons, List.map_nil, hs, hx, hr]
  refine hK _ _ (K v' w' ⟨hn, ?_⟩ ((grown_alloc W _ _).trans h3) ?_)
  · rw [List.map_append]; exact h2
  · rcases h5 with h5 | h5
    · exact .inl h5
    · exact .inr ⟨_, h5, by simp⟩
end Go.Proofs.YtgcemkpinmjaeaaDoor

namespace Go.Proofs.YtgcemkpinmjaeaaDoor
open Go.RowKit
set_option linter.all false
def u8C (B : List UInt8) : List Value := B.map fun b => Value.int .u8 (b.toNat : Int)
def OB (w : World) (lo : Nat) (v : Value) (B : List UInt8) : Prop := B.length ≤ 1099511627776 ∧ w.ownsRow lo 5 1 v B.length (u8C B)
theorem info_u8 : (Tryd.prog.info? 5).map (fun i => (i.zero, i.size, i.bytes)) = some (some (.int .u8 0), 1, 1) := by kernel_rfl
section
variable {w w' : World} {lo : Nat} {v : Value} {B : List UInt8}
theorem OB.keep (h : OB w lo v B) (hb : Below w.heap.size w w') : OB w' lo v B := ⟨h.1, own_keep h.2 hb⟩
theorem OB.alloc (h : OB w lo v B) (o : Obj) : OB (w.alloc o) lo v B := ⟨h.1, h.2.alloc o⟩
theorem OB.ownlt (h : OB w lo v B) : ∀ k, v.ownBlock = some k → lo ≤ k ∧ k < w.heap.size := h.2.lt
theorem OB.form (h : OB w lo v B) : ∃ ao cap, v = .slice ao B.length cap := by
  rcases h.2.2 with ⟨rfl, h0⟩ | ⟨g, cap, cur, rfl, _⟩
  · exact ⟨none, 0, by rw [h0]⟩
  · exact ⟨some ⟨g, 0, none⟩, cap, rfl⟩
theorem OB.empty (w : World) (lo : Nat) (hlo : lo ≤ w.heap.size) : OB (w.alloc (.cells #[] 5)) lo (.slice (some ⟨w.heap.size, 0, none⟩) 0 0) [] :=
  ⟨Nat.zero_le _, World.ownsRow_made (base := lo) (e := 5) (size := 1) w #[] 0 hlo (by unfold maxLen; omega) rfl⟩
end
theorem u8C_app (A B : List UInt8) : u8C (A ++ B) = u8C A ++ u8C B := by simp [u8C]
theorem u8C_str (s : ByteArray) : u8C s.data.toList = Lib.strCells s := rfl
theorem fold_u8 : ∀ (B : List UInt8) (s : ByteArray), (B.map fun b => (b.toNat : Int)).foldl (fun r n => r.push (UInt8.ofNat n.toNat)) s = ⟨s.data ++ B.toArray⟩
  | [], s => by simp
  | b :: r, s => by
    rw [List.map_cons, List.foldl_cons, fold_u8 r]
    simp [ByteArray.push]
theorem conv_u8 (w : World) (lo : Nat) (v : Value) (B : List UInt8) (h : OB w lo v B) : (convert 22 9 v).run Tryd.prog w = .ok (.string ⟨B.toArray⟩) w := by
  rcases h.2.2 with ⟨rfl, h0⟩ | ⟨g, cap, cur, rfl, _⟩
  · have e : B = [] := List.eq_nil_of_length_eq_zero h0
    subst e
    rw [run_convert_bytes_string w 22 9 5 _ _ _ Tryd.underlying22 Tryd.underlying5 Tryd.underlying9]
    simp [Conv.bytesToString]
    rfl
  · rw [run_convert_bytes_string w 22 9 5 _ _ _ Tryd.underlying22 Tryd.underlying5 Tryd.underlying9]
    have e : u8C B = (B.map fun b => (b.toNat : Int)).map (Value.int .u8) := by simp [u8C]
    have hc := run_loadCells_list (P := Tryd.prog) w ⟨g, 0, none⟩ ((B.map fun b => (b.toNat : Int)).map (Value.int .u8)) (fun j u hu => h.2.cells (g := g) rfl j u (by rw [e]; exact hu))
    rw [List.length_map, List.length_map] at hc
    rw [run_bytesToString w ⟨g, 0, none⟩ B.length cap (B.map fun b => (b.toNat : Int)) hc, fold_u8]
    simp [ByteArray.empty, ByteArray.emptyWithCapacity]
    rfl
/-- Pieces joined. -/
def joinB (ss : List ByteArray) (sep : ByteArray) : ByteArray := ⟨(Lib.join (ss.map (·.data.toList)) sep.data.toList).toArray⟩
def toCome (sep : ByteArray) (k : Nat) (ss : List ByteArray) : List UInt8 :=
  if k = 0 then Lib.join (ss.map (·.data.toList)) sep.data.toList else Lib.joinTail sep.data.toList (ss.map (·.data.toList))
theorem toCome_first {sep s : ByteArray} {ss : List ByteArray} {R : List UInt8} (hs : ss[0]? = some s) (h : [] ++ toCome sep 0 (ss.drop 0) = R) : ([] ++ s.data.toList) ++ toCome sep 1 (ss.drop 1) = R := by
  rw [← h, drop_of_get hs]
  simp [toCome, Lib.join_cons]
theorem toCome_next {sep s : ByteArray} {k : Nat} {ss : List ByteArray} {B R : List UInt8} (hk : 0 < k) (hs : ss[k]? = some s) (h : B ++ toCome sep k (ss.drop k) = R) : ((B ++ sep.data.toList) ++ s.data.toList) ++ toCome sep (k + 1) (ss.drop (k + 1)) = R := by
  rw [← h, drop_of_get hs]
  have h0 : k ≠ 0 := by omega
  simp [toCome, h0, Lib.joinTail]
theorem toCome_end {sep : ByteArray} {k : Nat} {ss : List ByteArray} {B R : List UInt8} (hk : ss.length ≤ k) (h : B ++ toCome sep k (ss.drop k) = R) : B = R := by
  rw [drop_all ss k hk] at h
  rw [← h]
  unfold toCome
  split <;> simp [Lib.join, Lib.joinTail]
theorem toCome_len {sep : ByteArray} {k : Nat} {ss : List ByteArray} {B R : List UInt8} (h : B ++ toCome sep k ss = R) : B.length ≤ R.length := by rw [← h]; simp
set_option maxRecDepth 20000 in
theorem wpList_app_str {ops : Array Oper} {rest : List Oper} {o : Oper} {a : Act} {Q : Exit → Act → World → Prop} (W : World) (hgd : o.guard = none) (s x : Operand)
    (ho : o.op = .call { callee := .builtin .append, args := #[s, x], argTypes := #[22, 9] })
    (lo : Nat) (v : Value) (B : List UInt8) (hs : a.eval s = v) (h : OB W lo v B) (y : ByteArray) (hx : a.eval x = .string y) (hn : B.length + y.size ≤ 1099511627776) (hlo : lo ≤ W.heap.size)
    (K : ∀ v' w', OB w' lo v' (B ++ y.data.toList) → Below lo W w' → wpList Tryd.prog ops Q rest (a.put o.dst v') w') : wpList Tryd.prog ops Q (o :: rest) a W := by
  obtain ⟨i0, hi, hz0, hz1, hz2⟩ := info_parts info_u8
  have hyl : y.data.toList.length = y.size := Array.length_toList
  refine Lib.wpList_append_own_string W hgd s x 22 9 ho lo 5 i0 Tryd.underlying22 Tryd.underlying9 hi hz0 hz1 hz2 v B.length (u8C B) hs h.2 y hx (by unfold maxLen; omega) (by omega) hlo ?_
  intro v' w' hown hgrow _
  have e : (B ++ y.data.toList).length = B.length + y.size := by rw [List.length_append, hyl]
  refine K v' w' ⟨by rw [e]; exact hn, ?_⟩ ((Below.refl lo W).grown hgrow hlo (fun k hk => (h.ownlt k hk).1))
  rw [e, u8C_app]
  exact hown
section
variable {w w' : World} {lo g cap : Nat} {B : List UInt8}
theorem OB.num {n : Nat} (h : OB w lo (.slice (some ⟨g, 0, none⟩) n cap) B) : n = B.length := by
  rcases h.2.2 with ⟨e, _⟩ | ⟨g', c, cur, e, _⟩
  · cases e
  · injection e with _ e2 _
theorem OB.frozen {n : Nat} (h : OB w lo (.slice (some ⟨g, 0, none⟩) n cap) B) (k : Nat) : w.frozen? ⟨g, k, none⟩ = false := by
  obtain rfl := h.num
  exact h.2.frozenAt k
theorem OB.lt {n : Nat} (h : OB w lo (.slice (some ⟨g, 0, none⟩) n cap) B) : lo ≤ g ∧ g < w.heap.size := h.2.lt g rfl
theorem OB.cell {n : Nat} (h : OB w lo (.slice (some ⟨g, 0, none⟩) n cap) B) {k : Nat} {b : UInt8} (hk : B[k]? = some b) : w.cell? ⟨g, k, none⟩ = some (.int .u8 (b.toNat : Int)) := by
  have hc := h.2.cells (g := g) rfl k (.int .u8 (b.toNat : Int)) (by simp [u8C, hk])
  rw [Addr.add_lit] at hc
  simpa using hc
theorem OB.set {n : Nat} (h : OB w lo (.slice (some ⟨g, 0, none⟩) n cap) B) (k : Nat) (b : UInt8) : OB (w.setCell ⟨g, k, none⟩ (.int .u8 (b.toNat : Int))) lo (.slice (some ⟨g, 0, none⟩) n cap) (B.set k b) := by
  obtain rfl := h.num
  refine ⟨by simpa using h.1, ?_⟩
  have e : u8C (B.set k b) = (u8C B).set k (.int .u8 (b.toNat : Int)) := by unfold u8C; rw [List.map_set]
  rw [e, List.length_set]
  exact (h.2.stored k _).1
end
theorem make_bytes (n : Nat) (hn : n ≤ 1099511627776) (w : World) :
    (Instr.makeSlice 22 (.int .i64 (n : Int)) (.int .i64 (n : Int))).run Tryd.prog w = .ok (.slice (some ⟨w.heap.size, 0, none⟩) n n) (w.alloc (.cells (madeCells #[.int .u8 0] n) 5)) :=
  run_make_row' (P := Tryd.prog) 22 5 (.int .u8 0) 1 Tryd.underlying22 info_u8 rfl .i64 .i64 n (by omega) (by omega) w
theorem OB.made (w : World) (n : Nat) (hn : n ≤ 1099511627776) : OB (w.alloc (.cells (madeCells #[.int .u8 0] n) 5)) w.heap.size (.slice (some ⟨w.heap.size, 0, none⟩) n n) (List.replicate n 0) := by
  refine ⟨by simpa using hn, ?_⟩
  have h := World.ownsRow_lit (base := w.heap.size) (e := 5) (size := 1) w (madeCells #[.int .u8 0] n) n (Nat.le_refl _) (by unfold maxLen; omega) (by simp [madeCells])
  rw [toList_madeCells_one] at h
  rw [List.length_replicate]
  simpa [u8C] using h
end Go.Proofs.YtgcemkpinmjaeaaDoor

namespace Go.Proofs.YtgcemkpinmjaeaaDoor
open Go.RowKit
set_option linter.all false
def zt (x : Nat) : ByteArray := (⟨#[90, 47]⟩ : ByteArray) ++ decB x
def grpF : List Int → List ByteArray → ByteArray
  | [], ws => if ws.length = 0 then ⟨#[48]⟩ else joinB ws ⟨#[43]⟩
  | x :: r, ws => if x < 0 then ⟨#[]⟩ else if x = 0 then grpF r (ws ++ [⟨#[90]⟩]) else if 1 < x then grpF r (ws ++ [zt x.toNat]) else grpF r ws
def groupTxt (xs : List Int) : ByteArray := grpF xs []
theorem zt_size {x : Nat} (h : x < 18446744073709551616) : (zt x).size ≤ 22 := by
  have h1 := decB_size h
  have h2 : (zt x).size = 2 + (decB x).size := by unfold zt; rw [ByteArray.size_append]; rfl
  omega
theorem grp_step {xs : List Int} {k : Nat} {x : Int} {ws : List ByteArray} {R : ByteArray} (hx : xs[k]? = some x) (h : grpF (xs.drop k) ws = R) :
    (x < 0 → R = ⟨#[]⟩) ∧ (x = 0 → grpF (xs.drop (k + 1)) (ws ++ [⟨#[90]⟩]) = R) ∧ (1 < x → grpF (xs.drop (k + 1)) (ws ++ [zt x.toNat]) = R) ∧ (x = 1 → grpF (xs.drop (k + 1)) ws = R) := by
  rw [drop_of_get hx, grpF] at h
  refine ⟨fun e => ?_, fun e => ?_, fun e => ?_, fun e => ?_⟩
  · rw [if_pos e] at h; exact h.symm
  · rw [if_neg (by omega), if_pos e] at h; exact h
  · rw [if_neg (by omega), if_neg (by omega), if_pos e] at h; exact h
  · rw [if_neg (by omega), if_neg (by omega), if_neg (by omega)] at h; exact h
theorem grp_end {xs : List Int} {k : Nat} {ws : List ByteArray} {R : ByteArray} (hk : xs.length ≤ k) (h : grpF (xs.drop k) ws = R) : (ws.length = 0 → R = ⟨#[48]⟩) ∧ (0 < ws.length → R = joinB ws ⟨#[43]⟩) := by
  rw [drop_all xs k hk, grpF] at h
  constructor
  · intro e; rw [if_pos e] at h; exact h.symm
  · intro e; rw [if_neg (by omega)] at h; exact h.symm
theorem lens_le : ∀ (ws : List ByteArray) (m : Nat), (∀ s ∈ ws, s.size ≤ m) → Lib.lens (ws.map (·.data.toList)) ≤ m * ws.length
  | [], m, _ => by simp [Lib.lens]
  | s :: r, m, h => by
    have h1 := lens_le r m (fun x hx => h x (List.mem_cons_of_mem _ hx))
    have h2 := h s (List.mem_cons_self ..)
    have h3 : s.data.toList.length = s.size := Array.length_toList
    simp only [Lib.lens, List.map_cons, List.sum_cons, List.length_cons] at h1 ⊢
    rw [Nat.mul_succ]
    omega
theorem joinB_len (ws : List ByteArray) (sep : ByteArray) : (Lib.join (ws.map (·.data.toList)) sep.data.toList).length = (joinB ws sep).size := by simp [joinB, ByteArray.size]
theorem joinB_size {ws : List ByteArray} {sep : ByteArray} {m : Nat} (h : ∀ s ∈ ws, s.size ≤ m) : (joinB ws sep).size ≤ (m + sep.size) * ws.length := by
  have hs : sep.data.toList.length = sep.size := Array.length_toList
  have e : (joinB ws sep).size = (Lib.join (ws.map (·.data.toList)) sep.data.toList).length := by simp [joinB, ByteArray.size]
  rw [e]
  cases ws with
  | nil => simp [Lib.join]
  | cons s r =>
    rw [List.map_cons, Lib.join_length, hs, List.length_map]
    have h1 := lens_le (s :: r) m h
    rw [List.map_cons] at h1
    have h2 : (m + sep.size) * (s :: r).length = m * (s :: r).length + sep.size * (s :: r).length := Nat.add_mul ..
    have h3 : sep.size * r.length ≤ sep.size * (s :: r).length := Nat.mul_le_mul_left _ (by simp)
    omega
theorem all_push {ws : List ByteArray} {s : ByteArray} {m : Nat} (h : ∀ x ∈ ws, x.size ≤ m) (hs : s.size ≤ m) : ∀ x ∈ ws ++ [s], x.size ≤ m := by
  intro x hx
  rcases List.mem_append.1 hx with hx | hx
  · exact h x hx
  · simp at hx; subst hx; exact hs
end Go.Proofs.YtgcemkpinmjaeaaDoor
