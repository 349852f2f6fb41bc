/- Names of objects and entries in memory: many cells at once, loaded, stored, built, in slices. Conditions: each theorem's premises. -/
import Derived.Test.YtaebmhbggbpnoaaGNdSpec
import Derived.Laws.StructEq
import Derived.Laws.Rows
import Derived.Laws.Tables
import Derived.Laws.IdiomCopy
import Derived.Deep.MidRow
import Derived.Deep.WholeRow
import Derived.Stop.BytesEq
import Derived.Laws.CopyOwn
import Derived.Great.BuildSlice
namespace Go.Proofs.Ytaebmhbggbpnoaa
open Go.RowKit
/-- A name's cells. -/
def NC (nm : List UInt8) : Array Value := (u8s nm).toArray
/-- An entry's cells. -/
def EC (e : EV) : Array Value := (Value.string e.name :: Value.bool e.dir :: u8s e.h).toArray
theorem NC_size {nm : List UInt8} (h : nm.length = 32) : (NC nm).size = 32 := by simp [NC, u8s, h]
theorem NC_one (nm : List UInt8) : (NC nm).all (·.oneCell') = true := by
  rw [Array.all_eq_true_iff_forall_mem]
  intro v hv
  exact u8s_one v (by simpa [NC] using hv)
theorem EC_size {e : EV} (h : e.ok) : (EC e).size = 34 := by simp [EC, u8s]; exact h
theorem EC_one (e : EV) : (EC e).all (·.oneCell') = true := by
  rw [Array.all_eq_true_iff_forall_mem]
  intro v hv
  simp only [EC, List.mem_toArray, List.mem_cons] at hv
  rcases hv with h | h | h
  · subst h; rfl
  · subst h; rfl
  · exact u8s_one v h
theorem EC_0 (e : EV) : (EC e)[0]? = some (.string e.name) := by simp [EC]
theorem EC_1 (e : EV) : (EC e)[1]? = some (.bool e.dir) := by simp [EC]
theorem EC_2 (e : EV) (j : Nat) : (EC e)[j + 2]? = (u8s e.h)[j]? := by simp [EC]
theorem size107 : (Try.prog.info? 107).map (·.size) = some 32 := by kernel_rfl
theorem size144 : (Try.prog.info? 144).map (·.size) = some 34 := by kernel_rfl
theorem size182 : (Try.prog.info? 182).map (·.size) = some 34 := by kernel_rfl
/-- A type of many cells: what the laws ask of it. -/
structure Wide (ty : TypeId) (n : Nat) : Prop where
  under : ∃ d, Try.prog.underlying ty = some d ∧ d.isRow = true
  size : (Try.prog.info? ty).map (·.size) = some n
theorem wide107 : Wide 107 32 := ⟨⟨_, Try.underlying107, rfl⟩, size107⟩
theorem wide144 : Wide 144 34 := ⟨⟨_, Try.underlying144, rfl⟩, size144⟩
theorem wide182 : Wide 182 34 := ⟨⟨_, Try.underlying182, rfl⟩, size182⟩
theorem run_loadVar_at (w : World) (p : Addr) (ty : TypeId) (cs : List Value) (d : TypeDesc) (hc : ∀ j v, cs[j]? = some v → w.cell? (p.add j) = some v)
    (hu : Try.prog.underlying ty = some d) (hd : d.isRow = true) (hi : (Try.prog.info? ty).map (·.size) = some cs.length) :
    (loadVar ty p).run Try.prog w = .ok (.agg cs.toArray) w := by
  have hl : (loadCells p cs.length).run Try.prog w = .ok cs.toArray w := run_loadCells_list (P := Try.prog) w p cs hc
  cases hq : Try.prog.info? ty with
  | none => simp [hq] at hi
  | some i =>
    have hs : i.size = cs.length := by simpa [hq] using hi
    have hagg : (isAgg ty).run Try.prog w = .ok true w := by
      unfold isAgg
      rw [Sem.run_bind, run_underlying hu w]
      cases d <;> simp_all
    simp [loadVar, Sem.run_bind, hagg, sizeOf, typeInfo, hq, hs, hl]
/-- Cells that lie from an address on. -/
def At (w : World) (p : Addr) (cs : Array Value) : Prop := ∀ j v, cs[j]? = some v → w.cell? (p.add j) = some v
theorem At.load {w : World} {p : Addr} {cs : Array Value} {ty : TypeId} (h : At w p cs) (ht : Wide ty cs.size) : (loadVar ty p).run Try.prog w = .ok (.agg cs) w := by
  obtain ⟨d, hu, hd⟩ := ht.under
  have := run_loadVar_at w p ty cs.toList d (fun j v hv => h j v (by simpa using hv)) hu hd (by rw [ht.size, Array.length_toList])
  simpa using this
theorem At.blk {w : World} {g t : Nat} {cs : Array Value} (h : Blk w g t cs) : At w ⟨g, 0, none⟩ cs := fun j v hv => by
  rw [add_plain, h.cell]; exact hv
theorem At.keep {w w' : World} {p : Addr} {cs : Array Value} (h : At w p cs) (hk : ∀ q : Addr, q.block = p.block → w.cell? q ≠ none → w'.cell? q = w.cell? q) : At w' p cs := fun j v hv => (hk _ (block_of_add _ _) (by rw [h j v hv]; simp)).trans (h j v hv)
theorem At.after {w w' : World} {p : Addr} {cs : Array Value} {B : Nat} (h : At w p cs) (hb : Below B w w') (hp : p.block < B) : At w' p cs := h.keep (fun q hq _ => hb.cell (by rw [hq]; exact hp))
/-- The name within an entry. -/
theorem At.hash {w : World} {p : Addr} {e : EV} (h : At w p (EC e)) : At w ⟨p.block, p.off + 2, none⟩ (NC e.h) := fun j v hv => by
  have := h (j + 2) v (by rw [EC_2]; simpa [NC] using hv)
  rw [Addr.add_mid, ← this, Addr.add_succ']
  congr 2
  omega
theorem At.str {w : World} {p : Addr} {e : EV} (h : At w p (EC e)) : w.cell? p = some (.string e.name) := by
  have := h 0 _ (EC_0 e)
  rwa [show p.add 0 = p by simp [Addr.add]] at this
theorem At.flag {w : World} {p : Addr} {e : EV} (h : At w p (EC e)) : w.cell? ⟨p.block, p.off + 1, none⟩ = some (.bool e.dir) := by
  have := h 1 _ (EC_1 e)
  rwa [Addr.add_succ'] at this
/-! ### Slices -/
/-- A slice of things of many cells. -/
structure Ls {α : Type} (enc : α → Array Value) (size : Nat) (w : World) (S : Nat → Prop) (A : Option Addr) (n c : Nat) (l : List α) : Prop where
  len : l.length = n
  cap : n ≤ c
  all : ∀ x ∈ l, (enc x).size = size
  rd : Reads w S size A n (l.flatMap fun x => (enc x).toList)
section
variable {α : Type} {enc : α → Array Value} {size : Nat} {w w' : World} {S S' : Nat → Prop} {A : Option Addr} {n c : Nat} {l : List α}
theorem flat_len (h : ∀ x ∈ l, (enc x).size = size) : (l.flatMap fun x => (enc x).toList).length = l.length * size := by
  induction l with
  | nil => simp
  | cons x l ih =>
    rw [List.flatMap_cons, List.length_append, ih (fun y hy => h y (by simp [hy])), Array.length_toList, h x (by simp), List.length_cons, Nat.succ_mul, Nat.add_comm]
theorem flat_get (h : ∀ x ∈ l, (enc x).size = size) {k : Nat} {x : α} (hk : l[k]? = some x) {j : Nat} {v : Value} (hv : (enc x)[j]? = some v) : (l.flatMap fun x => (enc x).toList)[k * size + j]? = some v := by
  induction l generalizing k with
  | nil => simp at hk
  | cons y l ih =>
    have hy := h y (by simp)
    rw [List.flatMap_cons]
    rcases k with _ | k
    · simp at hk
      subst hk
      have hj : j < (enc y).size := (Array.getElem?_eq_some_iff.1 hv).1
      rw [List.getElem?_append_left (by simpa using by omega)]
      simpa using hv
    · rw [List.getElem?_append_right (by rw [Array.length_toList, hy, Nat.succ_mul]; omega), Array.length_toList, hy, show (k + 1) * size + j - size = k * size + j by rw [Nat.succ_mul]; omega]
      exact ih (fun z hz => h z (by simp [hz])) (by simpa using hk)
theorem Ls.keep (h : Ls enc size w S A n c l) (hs : 0 < size) (hk : ∀ p : Addr, S p.block → p.block < w.heap.size → w'.cell? p = w.cell? p) (hS : ∀ k, S k → k < w.heap.size → S' k) : Ls enc size w' S' A n c l := ⟨h.len, h.cap, h.all, h.rd.keep hs hk hS⟩
theorem Ls.after (h : Ls enc size w S A n c l) (hs : 0 < size) (hb : Below w.heap.size w w') : Ls enc size w' S A n c l := h.keep hs (fun _ _ hp => hb.cell hp) (fun _ h _ => h)
theorem Ls.old (h : Ls enc size w S A n c l) (hs : 0 < size) : Ls enc size w (Lo w.heap.size) A n c l := h.keep hs (fun _ _ _ => rfl) (fun _ _ h => h)
theorem Ls.any (h : Ls enc size w S A n c l) : Ls enc size w AnyB A n c l := ⟨h.len, h.cap, h.all, h.rd.any⟩
theorem Ls.mono (h : Ls enc size w S A n c l) (hS : ∀ k, S k → S' k) : Ls enc size w S' A n c l := ⟨h.len, h.cap, h.all, h.rd.mono hS⟩
theorem Ls.oldS (h : Ls enc size w S A n c l) (hs : 0 < size) : Ls enc size w (fun k => S k ∧ k < w.heap.size) A n c l := h.keep hs (fun _ _ _ => rfl) (fun _ h h' => ⟨h, h'⟩)
theorem Ls.below {B : Nat} (h : Ls enc size w (Lo B) A n c l) (hs : 0 < size) (hb : Below B w w') : Ls enc size w' (Lo B) A n c l := h.keep hs (fun _ hp _ => hb.cell hp) (fun _ h _ => h)
theorem Ls.nil (w : World) (S : Nat → Prop) (c : Nat) : Ls enc size w S none 0 c [] := ⟨rfl, Nat.zero_le _, fun _ h => by simp at h, Reads.none_⟩
theorem Ls.nil' (w : World) (S : Nat → Prop) (A : Option Addr) (c : Nat) : Ls enc size w S A 0 c [] := ⟨rfl, Nat.zero_le _, fun _ h => by simp at h, by simp, fun h => absurd h (by omega)⟩
theorem Ls.at_ (h : Ls enc size w S A n c l) {k : Nat} (hk : k < n) : ∃ ad p x, A = some ad ∧ ad.add (k * size) = p ∧ Hid (l[k]? = some x) ∧ Hid (At w p (enc x)) ∧ (enc x).size = size ∧ S p.block := by
  have hl := h.len
  obtain ⟨ad, e, hS, hcell⟩ := h.rd.2 (by omega)
  have hkl : k < l.length := by omega
  refine ⟨ad, _, l[k], e, rfl, List.getElem?_eq_getElem hkl, fun j v hv => ?_, h.all _ (List.getElem_mem hkl), by rw [block_of_add]; exact hS⟩
  rw [add_of_add]
  exact hcell _ _ (flat_get h.all (List.getElem?_eq_getElem hkl) hv)
theorem Ls.of_own {base : Nat} {e : TypeId} (h : w.ownsRow base e size (.slice A n c) n (l.flatMap fun x => (enc x).toList)) (hl : l.length = n) (ha : ∀ x ∈ l, (enc x).size = size) : Ls enc size w (fun k => base ≤ k) A n c l := by
  have hc : n ≤ c := by
    obtain ⟨_, _, he, hc⟩ := own_shape h
    cases he
    exact hc
  exact ⟨hl, hc, ha, Reads.of_own h⟩
end
abbrev Hs := Ls NC 32
abbrev Es := Ls EC 34
theorem At.lt {w : World} {p : Addr} {cs : Array Value} (h : At w p cs) (hs : 0 < cs.size) : p.block < w.heap.size := by
  have := World.block_lt_of_cell? w _ (h 0 cs[0] (Array.getElem?_eq_getElem hs))
  rwa [block_of_add] at this
section
variable {ops : Array Oper} {rest : List Oper} {o : Oper} {a : Act} {Q : Exit → Act → World → Prop} {w : World} {cs : Array Value}
/-- Many cells are loaded. -/
theorem wl_ldA (hw : Region.wanted o (yielded ops a.tmps) = true) (ty : TypeId) (x : Operand) (ho : o.op = .load ty x) (ht : Wide ty cs.size) {p : Addr} (hx : a.eval x = .pointer (some p)) (h : At w p cs)
    (hk : wpList Try.prog ops Q rest (a.put o.dst (.agg cs)) w) : wpList Try.prog ops Q (o :: rest) a w :=
  BigFrame.wpList_want hw fun _ hK => by
    unfold Oper.wp execOp
    simp only [ho, hx, Instr.loadAt, Instr.sureAddr, Sem.run_bind, Sem.run_pure, Result.andThen_ok, h.load ht]
    exact hK _ _ hk
/-- A whole block is stored. -/
theorem wl_stA (hw : Region.wanted o (yielded ops a.tmps) = true) (ty : TypeId) (x y : Operand) (ho : o.op = .store ty x y) (ht : Wide ty cs.size) {g t : Nat} (hx : a.eval x = .pointer (some ⟨g, 0, none⟩)) (hy : a.eval y = .agg cs) {old : Array Value} (h : Blk w g t old) (hold : old.size = cs.size) (h1 : cs.all (·.oneCell') = true)
    (hk : ∀ w', Blk w' g t cs → w.grownBy w' (some g) → (∀ B, B ≤ g → Below B w w') → wpList Try.prog ops Q rest (a.put o.dst undef) w') : wpList Try.prog ops Q (o :: rest) a w :=
  BigFrame.wpList_want hw fun _ hK => wp_store_row ty x y ho g _ hx hy t old h ht.size hold h1 (hK _ _ (hk _ (setRow_heap w g old _ t (0, 0) h) ⟨rfl, rfl, rfl, by simp, fun i _ hne => setRow_other w g i _ (fun e => hne (by rw [e]))⟩ (fun B hB => below_setRow (Below.refl _ _) hB _)))
theorem wl_buildA (hg : o.guard = none) (ty : TypeId) (parts : Array (Nat × Operand)) (ho : o.op = .build ty parts) (hb : Try.prog.built ty (parts.map fun (i, x) => (i, a.eval x)).toList = some cs)
    (hk : wpList Try.prog ops Q rest (a.put o.dst (.agg cs)) w) : wpList Try.prog ops Q (o :: rest) a w :=
  wpList_build hg ty parts ho (by rw [hb]; rfl) (by rw [hb]; exact hk)
end
theorem list32 : ∀ (nm : List UInt8), nm.length = 32 → ∃ a0 a1 a2 a3 a4 a5 a6 a7 a8 a9 a10 a11 a12 a13 a14 a15 a16 a17 a18 a19 a20 a21 a22 a23 a24 a25 a26 a27 a28 a29 a30 a31, nm = [a0, a1, a2, a3, a4, a5, a6, a7, a8, a9, a10, a11, a12, a13, a14, a15, a16, a17, a18, a19, a20, a21, a22, a23, a24, a25, a26, a27, a28, a29, a30, a31]
  | [a0, a1, a2, a3, a4, a5, a6, a7, a8, a9, a10, a11, a12, a13, a14, a15, a16, a17, a18, a19, a20, a21, a22, a23, a24, a25, a26, a27, a28, a29, a30, a31], _ => ⟨a0, a1, a2, a3, a4, a5, a6, a7, a8, a9, a10, a11, a12, a13, a14, a15, a16, a17, a18, a19, a20, a21, a22, a23, a24, a25, a26, a27, a28, a29, a30, a31, rfl⟩
/-- 32 noughts. -/
def noName : List UInt8 := List.replicate 32 0
theorem noName_len : noName.length = 32 := by simp [noName]
theorem built144 (e : EV) (h : e.ok) : Try.prog.built 144 [(0, .string e.name), (1, .bool e.dir), (2, .agg (NC e.h))] = some (EC e) := by
  obtain ⟨nm, d, x⟩ := e
  obtain ⟨a0, a1, a2, a3, a4, a5, a6, a7, a8, a9, a10, a11, a12, a13, a14, a15, a16, a17, a18, a19, a20, a21, a22, a23, a24, a25, a26, a27, a28, a29, a30, a31, rfl⟩ := list32 x h
  kernel_rfl
theorem built182 (e : EV) (h : e.ok) : Try.prog.built 182 [(0, .string e.name), (1, .bool e.dir), (2, .agg (NC e.h))] = some (EC e) := by
  obtain ⟨nm, d, x⟩ := e
  obtain ⟨a0, a1, a2, a3, a4, a5, a6, a7, a8, a9, a10, a11, a12, a13, a14, a15, a16, a17, a18, a19, a20, a21, a22, a23, a24, a25, a26, a27, a28, a29, a30, a31, rfl⟩ := list32 x h
  kernel_rfl
set_option maxRecDepth 100000 in
theorem fill_hash (nm : List UInt8) (hn : nm.length = 32) : ∃ (ie : TypeInfo) (zz : Value), Try.prog.info? 107 = some ie ∧ ie.zero = some zz ∧ ie.size = 32 ∧
    Instr.fill (fun i => some (i * ie.size, ie.size)) ((Array.range (1 * ie.size)).map (zz.cells[· % zz.cells.size]!)) [(0, .agg (NC nm))] = some (NC nm) := by
  obtain ⟨a0, a1, a2, a3, a4, a5, a6, a7, a8, a9, a10, a11, a12, a13, a14, a15, a16, a17, a18, a19, a20, a21, a22, a23, a24, a25, a26, a27, a28, a29, a30, a31, rfl⟩ := list32 nm hn
  obtain ⟨ie, hie⟩ : ∃ ie, Try.prog.info? 107 = some ie := ⟨_, rfl⟩
  refine ⟨_, _, rfl, rfl, rfl, ?_⟩
  kernel_rfl
set_option maxRecDepth 100000 in
theorem fill_ent (ty : TypeId) (ht : ty = 144 ∨ ty = 182) (e : EV) (h : e.ok) : ∃ (ie : TypeInfo) (zz : Value), Try.prog.info? ty = some ie ∧ ie.zero = some zz ∧ ie.size = 34 ∧
    Instr.fill (fun i => some (i * ie.size, ie.size)) ((Array.range (1 * ie.size)).map (zz.cells[· % zz.cells.size]!)) [(0, .agg (EC e))] = some (EC e) := by
  obtain ⟨nm, d, x⟩ := e
  obtain ⟨a0, a1, a2, a3, a4, a5, a6, a7, a8, a9, a10, a11, a12, a13, a14, a15, a16, a17, a18, a19, a20, a21, a22, a23, a24, a25, a26, a27, a28, a29, a30, a31, rfl⟩ := list32 x h
  rcases ht with rfl | rfl
  · refine ⟨_, _, rfl, rfl, rfl, ?_⟩
    kernel_rfl
  · refine ⟨_, _, rfl, rfl, rfl, ?_⟩
    kernel_rfl
end Go.Proofs.Ytaebmhbggbpnoaa
