/- Values of layer 1 in memory. Plain definitions and theorems; conditions: each theorem's premises. -/
import Derived.Test.YtaebmhbggbpnoaaBase
import Derived.Test.YtaebmhbggbpnoaaTlvSpec
namespace Go.Proofs.Ytaebmhbggbpnoaa
open Go.RowKit

/-- The four cells of a value. -/
structure Quad where
  a : Value
  b : Value
  c : Value
  d : Value
def Quad.cells (q : Quad) : List Value := [q.a, q.b, q.c, q.d]
def Quad.agg (q : Quad) : Value := .agg #[q.a, q.b, q.c, q.d]
def flat (qs : List Quad) : List Value := qs.flatMap Quad.cells
theorem flat_length (qs : List Quad) : (flat qs).length = qs.length * 4 := by
  induction qs with
  | nil => rfl
  | cons q qs ih => simp [flat, Quad.cells] at ih ⊢; omega
theorem flat_append (a b : List Quad) : flat (a ++ b) = flat a ++ flat b := by simp [flat]
theorem flat_at (qs : List Quad) (i : Nat) (q : Quad) (h : qs[i]? = some q) :
    (flat qs)[i * 4]? = some q.a ∧ (flat qs)[i * 4 + 1]? = some q.b ∧ (flat qs)[i * 4 + 2]? = some q.c ∧ (flat qs)[i * 4 + 3]? = some q.d := by
  induction qs generalizing i with
  | nil => simp at h
  | cons p qs ih =>
    cases i with
    | zero =>
      simp at h
      subst h
      simp [flat, Quad.cells]
    | succ i =>
      have := ih i (by simpa using h)
      have e : flat (p :: qs) = p.a :: p.b :: p.c :: p.d :: flat qs := rfl
      rw [e, show (i + 1) * 4 = i * 4 + 1 + 1 + 1 + 1 from by omega]
      simpa using this
def u64ok (n : Nat) : Prop := n < 18446744073709551616
/-- A value in memory: its cells read as V, all blocks in S. -/
inductive VR (w : World) (S : Nat → Prop) : Quad → TV → Prop
  | mk {tag : Int} {n : Nat} {b : List UInt8} {l : List TV} {A2 A3 : Option Addr} {n2 c2 n3 c3 : Nat} {qs : List Quad} (hu : u64ok n) (hb : Bs w S A2 n2 c2 b) (h2 : n2 ≤ 1000000000)
      (hq : qs.length = l.length) (hl : l.length = n3) (hc : n3 ≤ c3) (h3 : n3 ≤ 1000000000) (hr : Reads w S 4 A3 n3 (flat qs)) (hv : ∀ (i : Nat) (q : Quad) (v : TV), qs[i]? = some q → l[i]? = some v → VR w S q v) :
      VR w S ⟨.int .i64 tag, .int .u64 (n : Int), .slice A2 n2 c2, .slice A3 n3 c3⟩ (.mk tag n b l)
/-- A list of values in memory. -/
structure LR (w : World) (S : Nat → Prop) (A : Option Addr) (n c : Nat) (l : List TV) : Prop where
  len : l.length = n
  cap : n ≤ c
  few : n ≤ 1000000000
  rd : ∃ qs : List Quad, qs.length = l.length ∧ Reads w S 4 A n (flat qs) ∧ ∀ (i : Nat) (q : Quad) (v : TV), qs[i]? = some q → l[i]? = some v → VR w S q v
section
variable {w w' : World} {S S' : Nat → Prop} {q : Quad} {v : TV}
theorem VR.keep (h : VR w S q v) (hk : ∀ p : Addr, S p.block → p.block < w.heap.size → w'.cell? p = w.cell? p) (hS : ∀ k, S k → k < w.heap.size → S' k) : VR w' S' q v := by
  induction h with
  | mk hu hb h2 hq hl hc h3 hr _ ih => exact VR.mk hu (hb.keep hk hS) h2 hq hl hc h3 (hr.keep (by omega) hk hS) ih
theorem VR.any (h : VR w S q v) : VR w AnyB q v := h.keep (fun _ _ _ => rfl) (fun _ _ _ => trivial)
theorem VR.old (h : VR w S q v) : VR w (Lo w.heap.size) q v := h.keep (fun _ _ _ => rfl) (fun _ _ h => h)
theorem VR.after (h : VR w S q v) (hb : Below w.heap.size w w') : VR w' S q v := h.keep (fun _ _ hp => hb.cell hp) (fun _ h _ => h)
theorem VR.lower {B : Nat} (h : VR w (Lo B) q v) (hb : Below B w w') : VR w' (Lo B) q v := h.keep (fun _ hp _ => hb.cell hp) (fun _ h _ => h)
theorem VR.oldS (h : VR w S q v) : VR w (fun k => S k ∧ k < w.heap.size) q v := h.keep (fun _ _ _ => rfl) (fun _ h h' => ⟨h, h'⟩)
theorem VR.under {B : Nat} (h : VR w S q v) (hS : ∀ k, S k → k < B) (hb : Below B w w') : VR w' S q v := h.keep (fun _ hp _ => hb.cell (hS _ hp)) (fun _ h _ => h)
theorem VR.drew (h : VR w S q v) : VR w.drew S q v := h.keep (fun _ _ _ => rfl) (fun _ h _ => h)
/-- A value, opened. -/
theorem VR.opens (h : VR w S q v) : ∃ (tag : Int) (n : Nat) (b : List UInt8) (l : List TV) (A2 A3 : Option Addr) (n2 c2 n3 c3 : Nat), q = ⟨.int .i64 tag, .int .u64 (n : Int), .slice A2 n2 c2, .slice A3 n3 c3⟩ ∧ v = .mk tag n b l ∧
    u64ok n ∧ Bs w S A2 n2 c2 b ∧ n2 ≤ 1000000000 ∧ LR w S A3 n3 c3 l := by
  cases h with
  | mk hu hb h2 hq hl hc h3 hr hv => exact ⟨_, _, _, _, _, _, _, _, _, _, rfl, rfl, hu, hb, h2, hl, hc, h3, _, hq, hr, hv⟩
theorem VR.shut {tag : Int} {n : Nat} {b : List UInt8} {l : List TV} {A2 A3 : Option Addr} {n2 c2 n3 c3 : Nat} (hu : u64ok n) (hb : Bs w S A2 n2 c2 b) (h2 : n2 ≤ 1000000000) (hl : LR w S A3 n3 c3 l) :
    VR w S ⟨.int .i64 tag, .int .u64 (n : Int), .slice A2 n2 c2, .slice A3 n3 c3⟩ (.mk tag n b l) := by
  obtain ⟨hln, hc, h3, qs, hq, hr, hv⟩ := hl
  exact VR.mk hu hb h2 hq hln hc h3 hr hv
theorem LR.keep {A : Option Addr} {n c : Nat} {l : List TV} (h : LR w S A n c l) (hk : ∀ p : Addr, S p.block → p.block < w.heap.size → w'.cell? p = w.cell? p) (hS : ∀ k, S k → k < w.heap.size → S' k) : LR w' S' A n c l := by
  obtain ⟨hl, hc, hf, qs, hq, hr, hv⟩ := h
  exact ⟨hl, hc, hf, qs, hq, hr.keep (by omega) hk hS, fun i q v h1 h2 => (hv i q v h1 h2).keep hk hS⟩
theorem LR.any {A : Option Addr} {n c : Nat} {l : List TV} (h : LR w S A n c l) : LR w AnyB A n c l := h.keep (fun _ _ _ => rfl) (fun _ _ _ => trivial)
theorem LR.old {A : Option Addr} {n c : Nat} {l : List TV} (h : LR w S A n c l) : LR w (Lo w.heap.size) A n c l := h.keep (fun _ _ _ => rfl) (fun _ _ h => h)
theorem LR.after {A : Option Addr} {n c : Nat} {l : List TV} (h : LR w S A n c l) (hb : Below w.heap.size w w') : LR w' S A n c l := h.keep (fun _ _ hp => hb.cell hp) (fun _ h _ => h)
theorem LR.oldS {A : Option Addr} {n c : Nat} {l : List TV} (h : LR w S A n c l) : LR w (fun k => S k ∧ k < w.heap.size) A n c l := h.keep (fun _ _ _ => rfl) (fun _ h h' => ⟨h, h'⟩)
theorem LR.under {A : Option Addr} {n c B : Nat} {l : List TV} (h : LR w S A n c l) (hS : ∀ k, S k → k < B) (hb : Below B w w') : LR w' S A n c l := h.keep (fun _ hp _ => hb.cell (hS _ hp)) (fun _ h _ => h)
theorem LR.drew {A : Option Addr} {n c : Nat} {l : List TV} (h : LR w S A n c l) : LR w.drew S A n c l := h.keep (fun _ _ _ => rfl) (fun _ h _ => h)
theorem LR.lower {B : Nat} {A : Option Addr} {n c : Nat} {l : List TV} (h : LR w (Lo B) A n c l) (hb : Below B w w') : LR w' (Lo B) A n c l := h.keep (fun _ hp _ => hb.cell hp) (fun _ h _ => h)
theorem LR.nil (w : World) (S : Nat → Prop) (c : Nat) : LR w S none 0 c [] := ⟨rfl, Nat.zero_le _, by omega, [], rfl, Reads.none_, fun i q v h _ => by simp at h⟩
theorem Bs.nil (w : World) (S : Nat → Prop) (c : Nat) : Bs w S none 0 c [] := ⟨rfl, Nat.zero_le _, Reads.none_⟩
/-- An element of a list: its four cells, and what they read as. -/
theorem LR.at_ {A : Option Addr} {n c : Nat} {l : List TV} (h : LR w S A n c l) {k : Nat} (hk : k < n) : ∃ ad x q v, A = some ad ∧ ad.add (k * 4) = x ∧ Hid (l[k]? = some v) ∧ VR w S q v ∧
    w.cell? x = some q.a ∧ w.cell? ⟨x.block, x.off + 1, none⟩ = some q.b ∧ w.cell? ⟨x.block, x.off + 2, none⟩ = some q.c ∧ w.cell? ⟨x.block, x.off + 3, none⟩ = some q.d ∧ S x.block ∧ x.block < w.heap.size := by
  obtain ⟨hl, hc, hf, qs, hq, hr, hv⟩ := h
  obtain ⟨ad, e, hS, hcell⟩ := hr.2 (by omega)
  have hkl : k < l.length := by omega
  have hkq : k < qs.length := by omega
  have h1 := flat_at qs k qs[k] (List.getElem?_eq_getElem hkq)
  have c0 := hcell _ _ h1.1
  have e1 : ∀ j, ad.add (k * 4 + (j + 1)) = ⟨(ad.add (k * 4)).block, (ad.add (k * 4)).off + (j + 1), none⟩ := fun j => by rw [← add_of_add, Addr.add_succ']
  refine ⟨ad, _, qs[k], l[k], e, rfl, List.getElem?_eq_getElem hkl, hv k _ _ (List.getElem?_eq_getElem hkq) (List.getElem?_eq_getElem hkl), c0, ?_, ?_, ?_, by rw [block_of_add]; exact hS, World.block_lt_of_cell? w _ c0⟩
  · rw [← e1 0]; exact hcell _ _ h1.2.1
  · rw [← e1 1]; exact hcell _ _ h1.2.2.1
  · rw [← e1 2]; exact hcell _ _ h1.2.2.2
end

/-- A box of four cells that the call has laid, behind a call that kept it. -/
theorem box4 {w w1 : World} {a b c d : Value} {t : TypeId} (hb : Below (w.heap.size + 1) (w.alloc (.cells #[a, b, c, d] t)) w1) :
    w1.cell? ⟨w.heap.size, 0, none⟩ = some a ∧ w1.cell? ⟨w.heap.size, 1, none⟩ = some b ∧ w1.cell? ⟨w.heap.size, 2, none⟩ = some c ∧ w1.cell? ⟨w.heap.size, 3, none⟩ = some d ∧
    w1.frozen? ⟨w.heap.size, 0, none⟩ = false ∧ w1.frozen? ⟨w.heap.size, 1, none⟩ = false ∧ w1.frozen? ⟨w.heap.size, 2, none⟩ = false ∧ w1.frozen? ⟨w.heap.size, 3, none⟩ = false ∧ w.heap.size < w1.heap.size :=
  ((Blk.new w t #[a, b, c, d]).below hb (by omega)).four
theorem set4_blk {w : World} {g : Nat} {t : TypeId} {a b c d : Value} (h : Blk w g t #[a, b, c, d]) (a' b' c' d' : Value) : Blk ((((w.setCell ⟨g, 0, none⟩ a').setCell ⟨g, 1, none⟩ b').setCell ⟨g, 2, none⟩ c').setCell ⟨g, 3, none⟩ d') g t #[a', b', c', d'] := by
  have := (((h.set_ 0 a').set_ 1 b').set_ 2 c').set_ 3 d'
  simpa using this
theorem set4_other (w : World) (g : Nat) (a b c d : Value) (p : Addr) (h : p.block ≠ g) : ((((w.setCell ⟨g, 0, none⟩ a).setCell ⟨g, 1, none⟩ b).setCell ⟨g, 2, none⟩ c).setCell ⟨g, 3, none⟩ d).cell? p = w.cell? p := by
  rw [World.cell?_setCell_other _ _ _ _ (fun e => h (by rw [← e])), World.cell?_setCell_other _ _ _ _ (fun e => h (by rw [← e])), World.cell?_setCell_other _ _ _ _ (fun e => h (by rw [← e])), World.cell?_setCell_other _ _ _ _ (fun e => h (by rw [← e]))]
theorem set4_below {B : Nat} {w0 w : World} (h : Below B w0 w) (g : Nat) (hg : B ≤ g) (a b c d : Value) : Below B w0 ((((w.setCell ⟨g, 0, none⟩ a).setCell ⟨g, 1, none⟩ b).setCell ⟨g, 2, none⟩ c).setCell ⟨g, 3, none⟩ d) :=
  (((h.setCell (p := ⟨g, 0, none⟩) hg a).setCell (p := ⟨g, 1, none⟩) hg b).setCell (p := ⟨g, 2, none⟩) hg c).setCell (p := ⟨g, 3, none⟩) hg d
theorem load27 {W : World} {g t : Nat} {a b c d : Value} (hB : Blk W g t #[a, b, c, d]) : (loadVar 27 ⟨g, 0, none⟩).run Try.prog W = .ok (.agg #[a, b, c, d]) W := by
  obtain ⟨z0, z1, z2, z3, -⟩ := hB.four
  simp [loadVar, go_sem, z0, z1, z2, z3]
theorem load33 {W : World} {g t : Nat} {a b c d : Value} (hB : Blk W g t #[a, b, c, d]) : (loadVar 33 ⟨g, 0, none⟩).run Try.prog W = .ok (.agg #[a, b, c, d]) W := by
  obtain ⟨z0, z1, z2, z3, -⟩ := hB.four
  simp [loadVar, go_sem, z0, z1, z2, z3]
section
variable {fn : Func} {i T j k : Nat} {W : World} {a : Addr} {v : Value} {tmps : Array Value} {P : Program}
theorem results_cell1 (h : fn.results = #[.cell i T]) (ht : tmps.getD i undef = .pointer (some a)) (hl : (loadVar T a).run P W = .ok v W) : (results fn tmps).run P W = .ok v W := by
  simp only [Array.getD_eq_getD_getElem?] at ht
  simp [results, h, ht, asAddr, hl]
theorem results_cell2 (h : fn.results = #[.cell i T, .tmp j]) (ht : tmps.getD i undef = .pointer (some a)) (hl : (loadVar T a).run P W = .ok v W) : (results fn tmps).run P W = .ok (.tuple #[v, tmps.getD j undef]) W := by
  simp only [Array.getD_eq_getD_getElem?] at ht
  simp [results, h, ht, asAddr, hl]
theorem results_cell3 (h : fn.results = #[.cell i T, .tmp j, .tmp k]) (ht : tmps.getD i undef = .pointer (some a)) (hl : (loadVar T a).run P W = .ok v W) : (results fn tmps).run P W = .ok (.tuple #[v, tmps.getD j undef, tmps.getD k undef]) W := by
  simp only [Array.getD_eq_getD_getElem?] at ht
  simp [results, h, ht, asAddr, hl]
end
theorem cell_after {w w' : World} (hb : Below w.drew.heap.size w.drew w') {p : Addr} {v : Value} (h : w.cell? p = some v) : w'.cell? p = some v :=
  (hb.cell (World.block_lt_of_cell? w p h)).trans h
/-- A list of values that the call itself lays: the row is its own (element type e), the values lie in T and not in that row. -/
structure LO (w : World) (T : Nat → Prop) (base : Nat) (e : TypeId) (v : Value) (n : Nat) (l : List TV) : Prop where
  len : l.length = n
  few : n ≤ 1000000000
  own : ∃ qs : List Quad, qs.length = l.length ∧ w.ownsRow base e 4 v n (flat qs) ∧ ∀ (i : Nat) (q : Quad) (x : TV), qs[i]? = some q → l[i]? = some x → VR w (fun k => T k ∧ some k ≠ v.ownBlock) q x
section
variable {w w' : World} {T : Nat → Prop} {base n : Nat} {e : TypeId} {v : Value} {l : List TV}
theorem LO.nil (w : World) (T : Nat → Prop) (base : Nat) (e : TypeId) : LO w T base e (.slice none 0 0) 0 [] := ⟨rfl, by omega, [], rfl, World.ownsRow_nil _ _ _ _, fun i q v h _ => by simp at h⟩
/-- What the call has laid is read. -/
theorem LO.reads {A : Option Addr} {c : Nat} (h : LO w T base e (.slice A n c) n l) : LR w (fun k => T k ∨ base ≤ k) A n c l := by
  obtain ⟨hl, hf, qs, hq, hown, hv⟩ := h
  have hc : n ≤ c := by
    obtain ⟨_, _, he, hc⟩ := own_shape hown
    cases he
    exact hc
  exact ⟨hl, hc, hf, qs, hq, (Reads.of_own hown).mono (fun _ h => .inr h), fun i q x h1 h2 => (hv i q x h1 h2).keep (fun _ _ _ => rfl) (fun _ h _ => .inl h.1)⟩
theorem LO.shape (h : LO w T base e v n l) : ∃ A c, v = .slice A n c ∧ n ≤ c := by
  obtain ⟨_, _, _, _, hown, _⟩ := h
  exact own_shape hown
/-- It is kept while nothing of the world turns. -/
theorem LO.after (h : LO w T base e v n l) (hb : Below w.heap.size w w') : LO w' T base e v n l := by
  obtain ⟨hl, hf, qs, hq, hown, hv⟩ := h
  exact ⟨hl, hf, qs, hq, own_below hown hb (Nat.le_refl _), fun i q x h1 h2 => (hv i q x h1 h2).after hb⟩
/-- It is kept while a cell is written that is none of its. -/
theorem LO.setCell (h : LO w T base e v n l) {p : Addr} (h1 : v.ownBlock ≠ some p.block) (h2 : ∀ k, T k → k ≠ p.block) (u : Value) : LO (w.setCell p u) T base e v n l := by
  obtain ⟨hl, hf, qs, hq, hown, hv⟩ := h
  refine ⟨hl, hf, qs, hq, hown.kept (row := some p.block) ⟨rfl, rfl, rfl, by simp, fun k _ hk => Below.heap_setCell _ _ _ _ (fun e => hk (by rw [e]))⟩ (.inr h1), fun i q x h3 h4 => (hv i q x h3 h4).keep (fun a ha _ => World.cell?_setCell_other _ _ _ _ (fun e => h2 _ ha.1 (by rw [← e]))) (fun _ h _ => h)⟩
/-- One value more. -/
theorem LO.snoc {v' : Value} {q : Quad} {x : TV} {qs : List Quad} (hq : qs.length = l.length) (hl : l.length = n) (hf : n + 1 ≤ 1000000000) (hown : w'.ownsRow base e 4 v' (n + 1) (flat qs ++ flat [q])) (hg : w.grownBy w' v.ownBlock)
    (hat : v'.ownBlock = v.ownBlock ∨ v'.ownBlock = some w.heap.size) (hv : ∀ (i : Nat) (q : Quad) (x : TV), qs[i]? = some q → l[i]? = some x → VR w (fun k => T k ∧ some k ≠ v.ownBlock) q x)
    (hx : VR w (fun k => T k ∧ some k ≠ v.ownBlock) q x) : LO w' T base e v' (n + 1) (l ++ [x]) := by
  have hkeep : ∀ {q : Quad} {x : TV}, VR w (fun k => T k ∧ some k ≠ v.ownBlock) q x → VR w' (fun k => T k ∧ some k ≠ v'.ownBlock) q x := fun h =>
    h.keep (fun p hp hlt => World.cell?_of_block (hg.block p.block hlt hp.2)) (fun k hk hlt => ⟨hk.1, by
      rcases hat with e | e
      · rw [e]; exact hk.2
      · rw [e]; intro h; injection h with h; omega⟩)
  refine ⟨by simp [hl], hf, qs ++ [q], by simp [hq], by rw [flat_append]; exact hown, fun i p y h1 h2 => ?_⟩
  rcases Nat.lt_trichotomy i qs.length with hi | hi | hi
  · rw [List.getElem?_append_left hi] at h1
    rw [List.getElem?_append_left (by omega)] at h2
    exact hkeep (hv i p y h1 h2)
  · subst hi
    rw [List.getElem?_append_right (Nat.le_refl _)] at h1
    rw [List.getElem?_append_right (by omega)] at h2
    simp at h1
    rw [hq, Nat.sub_self] at h2
    simp at h2
    subst h1
    subst h2
    exact hkeep hx
  · rw [List.getElem?_eq_none (by simp; omega)] at h1
    cases h1
end
/-- Ahead of 'l = append(l, x)': the list, the value and its copy in the variadic's own block. -/
theorem LO.ready {w w2 : World} {T S : Nat → Prop} {base n : Nat} {e e' : TypeId} {v : Value} {l : List TV} {q : Quad} {x : TV} (h : LO w T base e v n l) (hb : Below w.heap.size w w2) (hx : VR w2 S q x) (hS : ∀ k, S k → k < w2.heap.size → T k ∧ some k ≠ v.ownBlock) :
    ∃ qs : List Quad, qs.length = l.length ∧ (w2.alloc (.cells #[q.a, q.b, q.c, q.d] e')).ownsRow base e 4 v n (flat qs) ∧
      (∀ (i : Nat) (p : Quad) (y : TV), qs[i]? = some p → l[i]? = some y → VR (w2.alloc (.cells #[q.a, q.b, q.c, q.d] e')) (fun k => T k ∧ some k ≠ v.ownBlock) p y) ∧
      VR (w2.alloc (.cells #[q.a, q.b, q.c, q.d] e')) (fun k => T k ∧ some k ≠ v.ownBlock) q x ∧ Reads (w2.alloc (.cells #[q.a, q.b, q.c, q.d] e')) AnyB 4 (some ⟨w2.heap.size, 0, none⟩) 1 (flat [q]) := by
  have hb2 : Below w.heap.size w (w2.alloc (.cells #[q.a, q.b, q.c, q.d] e')) := hb.alloc hb.size _
  obtain ⟨hl, hf, qs, hq, hown, hv⟩ := h
  refine ⟨qs, hq, own_below hown hb2 (Nat.le_refl _), fun i p y h1 h2 => ?_, ?_, ?_⟩
  · exact ((hv i p y h1 h2).after (hb.alloc hb.size _))
  · exact hx.keep (fun p _ hlt => World.cell?_alloc_lt _ _ _ hlt) hS
  · refine ⟨rfl, fun _ => ⟨_, rfl, trivial, fun j u hu => ?_⟩⟩
    rw [add_plain, World.cell?_alloc_new]
    simpa [flat, Quad.cells] using hu
end Go.Proofs.Ytaebmhbggbpnoaa
namespace Go.Proofs.Ytaebmhbggbpnoaa
open Go.RowKit
set_option maxHeartbeats 400000 in
theorem bytes_any (w : World) (S S' : Nat → Prop) (A A' : Option Addr) (n n' c c' : Nat) (xs ys : List UInt8) (hx : Bs w S A n c xs) (hy : Bs w S' A' n' c' ys) (hn : n ≤ 1000000000) (hn' : n' ≤ 1000000000) :
    Calls Try.prog 26 #[.slice A n c, .slice A' n' c'] w fun e w' => e = .returned (.bool (decide (xs = ys))) ∧ ∃ k, w' = w.drewN k := by
  have hlx := hx.len
  have hly := hy.len
  by_cases hne : n = n'
  · subst hne
    have Hlx := Lib.hid hlx
    have Hly := Lib.hid hly
    clear hlx hly
    go_enter Try.func26, Try.ntmps26
    go_wp2
    go_loopw [5] (fun i wr => ∃ k m : Nat, k ≤ n ∧ i = .int .i64 k ∧ Hid (xs.take k = ys.take k) ∧ wr = w.drewN m) (fun i _ => n - (intOf i).toNat)
    case atStart => exact ⟨0, 0, Nat.zero_le _, rfl, Lib.hid (by simp), rfl⟩
    case round =>
      obtain ⟨k, m, hk, rfl, he, rfl⟩ := hrel
      by_cases hlt : k < n
      · obtain ⟨ad, a, rfl, ha, h1⟩ := hx.at_ hlt
        obtain ⟨ad', b, rfl, hb, h2⟩ := hy.at_ hlt
        by_cases hd : a = b
        · subst hd
          have he' : Hid (xs.take (k + 1) = ys.take (k + 1)) := Lib.hid (by rw [take_snoc ha.out, take_snoc hb.out, he.out])
          go_wp2
          go_quiet (fail)
          go_wp2
          exact ⟨⟨k + 1, _, by omega, by go_num, he', rfl⟩, by simp [intOf]; omega⟩
        · have hbb := u8_ne hd
          have hf : Hid (xs ≠ ys) := Lib.hid (by rintro rfl; have := ha.out; rw [hb.out] at this; injection this with this; exact hd this.symm)
          clear hd
          go_wp2
          go_quiet (fail)
          go_wp2
          go_ret
          exact ⟨ret_bool (by simp [hf.out]), _, World.drewN_drewN _ _ _⟩
      · obtain rfl : k = n := by omega
        go_wp2
        go_ret
        refine ⟨ret_bool ?_, _, rfl⟩
        have := he.out
        rw [List.take_of_length_le (by have := Hlx.out; omega), List.take_of_length_le (by have := Hly.out; omega)] at this
        simp [this]
  · have h0 : ((n : Int) != (n' : Int)) = true := by simp; omega
    have Hne : Hid (xs ≠ ys) := Lib.hid (by rintro rfl; omega)
    clear hne
    clear hlx hly
    go_enter Try.func26, Try.ntmps26
    go_wp2
    go_ret
    exact ⟨ret_bool (by simp [Hne.out]), 0, rfl⟩
set_option maxRecDepth 10000 in
set_option maxHeartbeats 400000 in
theorem clone_any (w : World) (S : Nat → Prop) (A : Option Addr) (n c : Nat) (xs : List UInt8) (hx : Bs w S A n c xs) (hn : n ≤ 1000000000) :
    Calls Try.prog 88 #[.slice A n c] w fun e w' => ∃ A' c', e = .returned (.slice A' n c') ∧ w'.ownsRow w.heap.size 5 1 (.slice A' n c') n (u8s xs) ∧ Below w.heap.size w w' := by
  have qT := eql_nil22
  cases A with
  | none =>
    obtain ⟨rfl, rfl⟩ := hx.nil0
    go_enter Try.func88, Try.ntmps88
    go_wp2
    go_ret
    exact ⟨_, _, rfl, World.ownsRow_nil _ _ _ _, Below.refl _ _⟩
  | some ad =>
    go_enter Try.func88, Try.ntmps88
    go_wp2_with (at_builtin; (refine wpList_append_u8 (A := some ad) (m := n) (c := c) (ys := xs) (v := .slice (some ⟨w.heap.size, 0, none⟩) 0 0) (n := 0) (xs := []) rfl (.tmp 5) (.tmp 6) rfl rfl (World.ownsRow_made w #[] 0 (Nat.le_refl _) (by simp [maxLen]) rfl : World.ownsRow _ _ _ _ _ _ (u8s [])) rfl (hx.after ((Below.refl _ _).alloc (Nat.le_refl _) _)) (by omega) (by simp) ?_); intro v1 w1 hown hg hat)
    go_ret
    obtain ⟨A1, c1, rfl, _⟩ := own_shape hown
    simp only [Nat.zero_add, List.nil_append] at hown ⊢
    exact ⟨A1, c1, rfl, hown, ((Below.refl _ _).alloc (Nat.le_refl _) _).grown hg (by simp) (by simp [Value.ownBlock])⟩
set_option maxRecDepth 10000 in
set_option maxHeartbeats 400000 in
theorem split_short (w : World) (A : Option Addr) (n c : Nat) (hn : n < 3) :
    Calls Try.prog 123 #[.slice A n c] w fun e w' => e = .returned (.tuple #[.int .i64 0, .slice none 0 0, .slice none 0 0, .bool false]) ∧ ∃ k, w' = w.drewN k := by
  go_enter Try.func123, Try.ntmps123
  go_wp2
  refine bodyPost_ret (results_tmp4 rfl _ _ _) rfl ?_
  exact ⟨rfl, 0, rfl⟩
set_option maxRecDepth 10000 in
set_option maxHeartbeats 400000 in
theorem split_long (w : World) (S : Nat → Prop) (A : Option Addr) (n c : Nat) (t h l : UInt8) (xs : List UInt8) (hx : Bs w S A n c (t :: h :: l :: xs)) (hn : n ≤ 1000000000) (hlt : xs.length < h.toNat * 256 + l.toNat) :
    Calls Try.prog 123 #[.slice A n c] w fun e w' => e = .returned (.tuple #[.int .i64 0, .slice none 0 0, .slice none 0 0, .bool false]) ∧ ∃ k, w' = w.drewN k := by
  have hl := hx.len
  have hcap := hx.cap
  simp only [List.length_cons] at hl
  have h3 : ¬ n < 3 := by omega
  obtain ⟨ad, b0, rfl, e0, c0⟩ := hx.at0 (by omega)
  obtain ⟨_, b1, he, e1, c1⟩ := hx.atS 0 (by omega)
  cases he
  obtain ⟨_, b2, he, e2, c2⟩ := hx.atS 1 (by omega)
  cases he
  obtain rfl : t = b0 := by simpa using e0.out
  obtain rfl : h = b1 := by simpa using e1.out
  obtain rfl : l = b2 := by simpa using e2.out
  have n1 : ((1:Int) < (n : Int)) := by omega
  have n2 : ((2:Int) < (n : Int)) := by omega
  have u1 := u8_lt h
  have u2 := u8_lt l
  have hor := or256 h l
  have d0 : n - 3 < h.toNat * 256 + l.toNat := by omega
  generalize h.toNat * 256 + l.toNat = m at hor d0 hlt
  have d1 : decide ((n : Int) - 3 < (m : Int)) = true := by simp; omega
  clear hl d0 hlt e0 e1 e2
  go_enter Try.func123, Try.ntmps123
  go_wp2
  go_quiet (fail)
  go_wp2
  refine bodyPost_ret (results_tmp4 rfl _ _ _) rfl ?_
  exact ⟨rfl, _, rfl⟩
set_option maxRecDepth 10000 in
set_option maxHeartbeats 400000 in
theorem split_ok (w : World) (S : Nat → Prop) (A : Option Addr) (n c : Nat) (t h l : UInt8) (xs : List UInt8) (hx : Bs w S A n c (t :: h :: l :: xs)) (hn : n ≤ 1000000000) (hlt : ¬ xs.length < h.toNat * 256 + l.toNat) :
    Calls Try.prog 123 #[.slice A n c] w fun e w' => ∃ A1 c1 A2 c2, e = .returned (.tuple #[.int .i64 (t.toNat : Int), .slice A1 (h.toNat * 256 + l.toNat) c1, .slice A2 (n - 3 - (h.toNat * 256 + l.toNat)) c2, .bool true]) ∧
      Bs w S A1 (h.toNat * 256 + l.toNat) c1 (xs.take (h.toNat * 256 + l.toNat)) ∧ Bs w S A2 (n - 3 - (h.toNat * 256 + l.toNat)) c2 (xs.drop (h.toNat * 256 + l.toNat)) ∧ ∃ k, w' = w.drewN k := by
  have hl := hx.len
  have hcap := hx.cap
  simp only [List.length_cons] at hl
  have h3 : ¬ n < 3 := by omega
  obtain ⟨ad, b0, rfl, e0, c0⟩ := hx.at0 (by omega)
  obtain ⟨_, b1, he, e1, c1⟩ := hx.atS 0 (by omega)
  cases he
  obtain ⟨_, b2, he, e2, c2⟩ := hx.atS 1 (by omega)
  cases he
  obtain rfl : t = b0 := by simpa using e0.out
  obtain rfl : h = b1 := by simpa using e1.out
  obtain rfl : l = b2 := by simpa using e2.out
  have n1 : ((1:Int) < (n : Int)) := by omega
  have n2 : ((2:Int) < (n : Int)) := by omega
  have n0 : ((0:Int) < (n : Int)) := by omega
  have u1 := u8_lt h
  have u2 := u8_lt l
  have u0 := u8_lt t
  have hor := or256 h l
  have d0 : ¬ n - 3 < h.toNat * 256 + l.toNat := by omega
  generalize h.toNat * 256 + l.toNat = m at hor d0 hlt
  have d1 : decide ((n : Int) - 3 < (m : Int)) = false := by simp; omega
  obtain ⟨A1, k1, s1, r1⟩ := hx.cut 3 (3 + (m : Int)) 3 m rfl rfl (by omega)
  obtain ⟨A2, k2, s2, r2⟩ := hx.from_ (3 + (m : Int)) (3 + m) (n - 3 - m) (by omega) (by omega)
  simp only [List.drop_succ_cons, List.drop_zero] at r1
  have R2 : Bs w S A2 (n - 3 - m) k2 (xs.drop m) := by
    have e : (t :: h :: l :: xs).drop (3 + m) = xs.drop m := by rw [Nat.add_comm]; rfl
    rwa [e] at r2
  have dm : ¬ (n : Int) - 3 < m := by omega
  clear hl d0 hlt e0 e1 e2 r2
  go_enter Try.func123, Try.ntmps123
  go_wp2
  go_quiet (fail)
  go_wp2
  go_quiet (fail)
  go_wp2
  refine bodyPost_ret (results_tmp4 rfl _ _ _) rfl ?_
  exact ⟨A1, k1, A2, k2, rfl, r1, R2, _, World.drewN_drewN _ _ _⟩

theorem Try.info27 : (Try.prog.info? 27).map (fun i => (i.zero, i.size, i.bytes)) = some (some (.agg #[.int .i64 0, .int .u64 0, .slice none 0 0, .slice none 0 0]), 4, 64) := by kernel_rfl
theorem Try.info33 : (Try.prog.info? 33).map (fun i => (i.zero, i.size, i.bytes)) = some (some (.agg #[.int .i64 0, .int .u64 0, .slice none 0 0, .slice none 0 0]), 4, 64) := by kernel_rfl
theorem eql_nil25 (w : World) (a : Option Addr) (n c n' c' : Nat) : (binOp .eql 25 (.slice a n c) (.slice none n' c')).run Try.prog w = .ok (.bool a.isNone) w := Lib.run_eql_slice_nil w _ _ a n c n' c' Try.underlying25
theorem VR.cells_one {w : World} {S : Nat → Prop} {q : Quad} {v : TV} (h : VR w S q v) : ∀ u ∈ q.cells, u.oneCell' = true := by
  obtain ⟨tag, n, b, l, A2, A3, n2, c2, n3, c3, rfl, _⟩ := h.opens
  intro u hu
  simp [Quad.cells] at hu
  rcases hu with rfl | rfl | rfl | rfl <;> rfl
theorem flat_one {w : World} {S : Nat → Prop} {qs : List Quad} {l : List TV} (hq : qs.length = l.length) (hv : ∀ (i : Nat) (q : Quad) (v : TV), qs[i]? = some q → l[i]? = some v → VR w S q v) : ∀ u ∈ flat qs, u.oneCell' = true := by
  intro u hu
  simp only [flat, List.mem_flatMap] at hu
  obtain ⟨q, hq', hu⟩ := hu
  obtain ⟨i, hi, rfl⟩ := List.getElem_of_mem hq'
  exact (hv i _ l[i] (List.getElem?_eq_getElem hi) (List.getElem?_eq_getElem (by omega))).cells_one u hu
set_option maxHeartbeats 400000 in
theorem number_any (n : Int) (w : World) :
    Calls Try.prog 27 #[.int .u64 n] w fun e w' => e = .returned (.agg #[.int .i64 1, .int .u64 n, .slice none 0 0, .slice none 0 0]) ∧ Below w.heap.size w w' := by
  go_enter Try.func27, Try.ntmps27
  go_wp2
  refine bodyPost_ret (v := .agg #[.int .i64 1, .int .u64 n, .slice none 0 0, .slice none 0 0]) (by simp [results, Try.results27, go_sem]) rfl ⟨rfl, ?_⟩
  exact (Below.refl _ _).alloc (Nat.le_refl _) _
set_option maxRecDepth 10000 in
set_option maxHeartbeats 400000 in
theorem cloneV_any (w : World) (S : Nat → Prop) (A : Option Addr) (n c : Nat) (l : List TV) (hx : LR w S A n c l) :
    Calls Try.prog 90 #[.slice A n c] w fun e w' => ∃ A' c', e = .returned (.slice A' n c') ∧ LR w' (fun k => S k ∨ w.heap.size ≤ k) A' n c' l ∧ Below w.heap.size w w' := by
  have qT := eql_nil25
  obtain ⟨hl, hc, hf, qs, hq, hr, hv⟩ := hx
  obtain ⟨i0, hi0, hz0, hz1, hz2⟩ := info_parts Try.info27
  cases A with
  | none =>
    have h0 : n = 0 := by
      rcases Nat.eq_zero_or_pos n with h0 | h0
      · exact h0
      · obtain ⟨_, h', _⟩ := hr.2 h0; cases h'
    obtain rfl : n = 0 := h0
    obtain rfl : l = [] := List.eq_nil_of_length_eq_zero hl
    go_enter Try.func90, Try.ntmps90
    go_wp2
    go_ret
    exact ⟨_, _, rfl, LR.nil _ _ _, Below.refl _ _⟩
  | some ad =>
    have Hl := Lib.hid hl
    have Hq := Lib.hid hq
    have hb0 : Below w.heap.size w (w.alloc (.cells #[] 27)) := (Below.refl _ _).alloc (Nat.le_refl _) _
    have h1 := flat_one hq hv
    have r1 := hr.after (by omega) hb0
    clear hl hq
    go_enter Try.func90, Try.ntmps90
    go_wp2_with (at_builtin; refine wpList_append_any _ rfl (.tmp 5) (.tmp 6) 25 rfl w.heap.size 27 i0 _ 4 64 Try.underlying25 hi0 hz0 hz1 hz2 rfl (by omega) (.slice (some ⟨w.heap.size, 0, none⟩) 0 0) 0 [] rfl (World.ownsRow_made w #[] 0 (Nat.le_refl _) (by simp [maxLen]) rfl) S (some ad) n c (flat qs) rfl r1 h1 (by simp only [maxLen]; omega) (by omega) (by simp) ?_; intro v1 w1 hown hg hat)
    go_ret
    have hb1 : Below w.heap.size w w1 := hb0.grown hg (by simp) (by simp [Value.ownBlock])
    obtain ⟨A1, c1, rfl, hc1⟩ := own_shape hown
    simp only [Nat.zero_add, List.nil_append] at hown hc1 ⊢
    exact ⟨A1, c1, rfl, ⟨Hl.out, hc1, hf, qs, Hq.out, (Reads.of_own hown).mono (fun _ h => .inr h), fun i q v h2 h3 => ((hv i q v h2 h3).after hb1).keep (fun _ _ _ => rfl) (fun _ h _ => .inl h)⟩, hb1⟩
set_option maxRecDepth 10000 in
set_option maxHeartbeats 400000 in
theorem bytesV_any (w : World) (S : Nat → Prop) (A : Option Addr) (n c : Nat) (xs : List UInt8) (hx : Bs w S A n c xs) (hn : n ≤ 1000000000) :
    Calls Try.prog 28 #[.slice A n c] w fun e w' => ∃ q, e = .returned q.agg ∧ VR w' AnyB q (.mk 2 0 xs []) ∧ Below w.heap.size w w' := by
  have u0 : u64ok 0 := by simp [u64ok]
  go_enter Try.func28, Try.ntmps28
  go_wp2_with (go_at_call 88; refine (clone_any _ S _ _ _ _ (hx.after ((Below.refl _ _).alloc (Nat.le_refl _) _)) hn).mono ?_; rintro e w1 ⟨A1, c1, rfl, hown, hb⟩; simp only [World.size_alloc] at hb; obtain ⟨h0, h1, h2, h3, f0, f1, f2, f3, hz⟩ := box4 hb)
  refine bodyPost_ret (v := .agg #[.int .i64 2, .int .u64 0, .slice A1 n c1, .slice none 0 0]) (by simp [results, Try.results28, go_sem, h0, h1, h2, h3]) rfl ?_
  have hb1 : Below w.heap.size w w1 := ((Below.refl _ _).alloc (Nat.le_refl _) _).trans (hb.mono (by omega))
  obtain ⟨A', c', e, hbs⟩ := own_bs hown
  cases e
  exact ⟨⟨.int .i64 2, .int .u64 ((0 : Nat) : Int), .slice A1 n c1, .slice none 0 0⟩, rfl,
    VR.shut u0 (hbs.keep (S' := AnyB) (fun p hp _ => set4_other _ _ _ _ _ _ p (by simp only [World.size_alloc] at hp; omega)) (fun _ _ _ => trivial)) hn (LR.nil _ _ _), set4_below hb1 _ (Nat.le_refl _) _ _ _ _⟩
set_option maxRecDepth 10000 in
set_option maxHeartbeats 400000 in
theorem many_any (w : World) (S : Nat → Prop) (A : Option Addr) (n c : Nat) (l : List TV) (hx : LR w S A n c l) :
    Calls Try.prog 29 #[.slice A n c] w fun e w' => ∃ q, e = .returned q.agg ∧ VR w' AnyB q (.mk 3 0 [] l) ∧ Below w.heap.size w w' := by
  have hf := hx.few
  have u0 : u64ok 0 := by simp [u64ok]
  go_enter Try.func29, Try.ntmps29
  go_wp2_with (go_at_call 90; refine (cloneV_any _ (Lo w.heap.size) _ _ _ _ (hx.old.lower ((Below.refl _ _).alloc (Nat.le_refl _) _))).mono ?_; rintro e w1 ⟨A1, c1, rfl, hown, hb⟩; simp only [World.size_alloc] at hb; obtain ⟨h0, h1, h2, h3, f0, f1, f2, f3, hz⟩ := box4 hb)
  refine bodyPost_ret (v := .agg #[.int .i64 3, .int .u64 0, .slice none 0 0, .slice A1 n c1]) (by simp [results, Try.results29, go_sem, h0, h1, h2, h3]) rfl ?_
  have hb1 : Below w.heap.size w w1 := ((Below.refl _ _).alloc (Nat.le_refl _) _).trans (hb.mono (by omega))
  exact ⟨⟨.int .i64 3, .int .u64 ((0 : Nat) : Int), .slice none 0 0, .slice A1 n c1⟩, rfl,
    VR.shut u0 (Bs.nil _ _ _) (by omega) (hown.keep (S' := AnyB) (fun p hp _ => set4_other _ _ _ _ _ _ p (by simp only [World.size_alloc, Lo] at hp; omega)) (fun _ _ _ => trivial)), set4_below hb1 _ (Nat.le_refl _) _ _ _ _⟩
end Go.Proofs.Ytaebmhbggbpnoaa
namespace Go.Proofs.Ytaebmhbggbpnoaa
open Go.RowKit
/-- What reading a value leaves. -/
def ReadPost (w : World) (S : Nat → Prop) : Option (TV × List UInt8) → Ending → World → Prop
  | none => fun e w' => e = .returned (.tuple #[.agg #[.int .i64 0, .int .u64 0, .slice none 0 0, .slice none 0 0], .slice none 0 0, .bool false]) ∧ Below w.heap.size w w'
  | some (v, rest) => fun e w' => ∃ q A n c, e = .returned (.tuple #[q.agg, .slice A n c, .bool true]) ∧ VR w' (fun k => w.heap.size ≤ k) q v ∧ Bs w' S A n c rest ∧ n ≤ 1000000000 ∧ Below w.heap.size w w'
def ReadSaid (d : Nat) : Prop := ∀ (w : World) (S : Nat → Prop) (A : Option Addr) (n c : Nat) (bs : List UInt8), Bs w S A n c bs → n ≤ 1000000000 → Calls Try.prog 87 #[.slice A n c, .int .i64 (d : Int)] w (ReadPost w S (readT d bs))
/-- The call of split, where there is no head. -/
theorem split_call_none {bs : List UInt8} (hs : splitT bs = none) (W : World) (S : Nat → Prop) (A : Option Addr) (n c : Nat) (hx : Bs W S A n c bs) (hn : n ≤ 1000000000) :
    Calls Try.prog 123 #[.slice A n c] W fun e w' => e = .returned (.tuple #[.int .i64 0, .slice none 0 0, .slice none 0 0, .bool false]) ∧ Below W.heap.size W w' := by
  have hq : ∀ (e : Ending) (w' : World), (e = .returned (.tuple #[.int .i64 0, .slice none 0 0, .slice none 0 0, .bool false]) ∧ ∃ k, w' = W.drewN k) → e = .returned (.tuple #[.int .i64 0, .slice none 0 0, .slice none 0 0, .bool false]) ∧ Below W.heap.size W w' := by
    rintro e w' ⟨he, k, rfl⟩
    exact ⟨he, below_drewN (Below.refl _ _) _⟩
  have hl := hx.len
  match bs, hs, hl with
  | [], _, hl => exact (split_short W A n c (by simp at hl; omega)).mono hq
  | [_], _, hl => exact (split_short W A n c (by simp at hl; omega)).mono hq
  | [_, _], _, hl => exact (split_short W A n c (by simp at hl; omega)).mono hq
  | t :: h :: l :: xs, hs, _ =>
    refine (split_long W S A n c t h l xs hx hn ?_).mono hq
    simp only [splitT] at hs
    split at hs
    · cases hs
    · omega
/-- The call of split, where there is a head. -/
theorem split_call {bs inn rest : List UInt8} {t : Nat} (hs : splitT bs = some (t, inn, rest)) (W : World) (S : Nat → Prop) (A : Option Addr) (n c : Nat) (hx : Bs W S A n c bs) (hn : n ≤ 1000000000) :
    Calls Try.prog 123 #[.slice A n c] W fun e w' => ∃ A1 n1 c1 A2 n2 c2, e = .returned (.tuple #[.int .i64 (t : Int), .slice A1 n1 c1, .slice A2 n2 c2, .bool true]) ∧
      Bs w' S A1 n1 c1 inn ∧ Bs w' S A2 n2 c2 rest ∧ n1 ≤ 65535 ∧ n2 ≤ 1000000000 ∧ Below W.heap.size W w' := by
  match bs, hs with
  | t' :: h :: l :: xs, hs =>
    have hl := hx.len
    simp only [List.length_cons] at hl
    have b1 := h.toNat_lt
    have b2 := l.toNat_lt
    simp only [splitT] at hs
    split at hs
    · simp only [Option.some.injEq, Prod.mk.injEq] at hs
      obtain ⟨rfl, rfl, rfl⟩ := hs
      refine (split_ok W S A n c t' h l xs hx hn (by omega)).mono ?_
      rintro e w' ⟨A1, c1, A2, c2, he, h1, h2, k, rfl⟩
      have hb : Below W.heap.size W (W.drewN k) := below_drewN (Below.refl _ _) _
      exact ⟨A1, _, c1, A2, _, c2, he, h1.after hb, h2.after hb, by omega, by omega, hb⟩
    · cases hs
theorem splitT_short {bs inn rest : List UInt8} {t : Nat} (hs : splitT bs = some (t, inn, rest)) : t < 256 ∧ rest.length + inn.length + 3 = bs.length := by
  match bs, hs with
  | t' :: h :: l :: xs, hs =>
    have b0 := t'.toNat_lt
    simp only [splitT] at hs
    split at hs
    · simp only [Option.some.injEq, Prod.mk.injEq] at hs
      obtain ⟨rfl, rfl, rfl⟩ := hs
      simp
      omega
    · cases hs
set_option maxRecDepth 10000 in
set_option maxHeartbeats 1000000 in
theorem read_none (d : Nat) (w : World) (S : Nat → Prop) (A : Option Addr) (n c : Nat) (bs : List UInt8) (hx : Bs w S A n c bs) (hn : n ≤ 1000000000) (hs : splitT bs = none) : Calls Try.prog 87 #[.slice A n c, .int .i64 (d : Int)] w (ReadPost w S none) := by
  have K := Lib.hid (split_call_none hs _ _ _ _ _ (hx.after (w' := w.alloc (.cells #[.int .i64 0, .int .u64 0, .slice none 0 0, .slice none 0 0] 27)) ((Below.refl _ _).alloc (Nat.le_refl _) _)) hn)
  clear hs
  go_enter Try.func87, Try.ntmps87
  go_wp2_with fail
  refine (K.out).mono ?_
  rintro e w1 ⟨rfl, hb⟩
  simp only [World.size_alloc] at hb
  obtain ⟨h0, h1, h2, h3, f0, f1, f2, f3, hz⟩ := box4 hb
  go_wp2_with fail
  refine bodyPost_ret (v := .tuple #[.agg #[.int .i64 0, .int .u64 0, .slice none 0 0, .slice none 0 0], .slice none 0 0, .bool false]) (by simp [results, Try.results87, go_sem, h0, h1, h2, h3]) rfl ⟨rfl, ?_⟩
  exact set4_below (((Below.refl _ _).alloc (Nat.le_refl _) _).trans (hb.mono (by omega))) _ (Nat.le_refl _) _ _ _ _
theorem u64_or_nat' (a b : Nat) (ha : a < 18446744073709551616) (hb : b < 18446744073709551616) : bits .or .u64 (a : Int) (b : Int) = ((a ||| b : Nat) : Int) := by
  have hx : a ||| b < 2 ^ 64 := Nat.or_lt_two_pow (by omega) (by omega)
  have o1 : ∀ x : Nat, x < 18446744073709551616 → (BitVec.ofInt 64 (x : Int)).toNat = x := fun x hx => by
    rw [BitVec.ofInt_natCast, BitVec.toNat_ofNat]; exact Nat.mod_eq_of_lt (by omega)
  show IntKind.u64.wrap ((BitVec.ofInt 64 (a : Int) ||| BitVec.ofInt 64 (b : Int)).toNat : Int) = _
  rw [BitVec.toNat_or, o1 a ha, o1 b hb, IntKind.wrap_u64]
  omega
theorem orU64 (a : Nat) (b : UInt8) (ha : a ≤ 72057594037927935) : bits .or .u64 ((a : Int) * 256) (b.toNat : Int) = ((a * 256 + b.toNat : Nat) : Int) := by
  have hb := b.toNat_lt
  have e1 : ((a : Int) * 256) = ((a * 256 : Nat) : Int) := by omega
  rw [e1, u64_or_nat' _ _ (by omega) (by omega), or_add _ _ (by omega)]
theorem bigE_take {inn : List UInt8} {k : Nat} {b : UInt8} (h : inn[k]? = some b) : bigE (inn.take (k + 1)) = bigE (inn.take k) * 256 + b.toNat := by
  rw [take_snoc h, bigE_snoc]
theorem bigE_le {inn : List UInt8} {k : Nat} (h : k ≤ 7) : bigE (inn.take k) ≤ 72057594037927935 := by
  have h1 := bigE_lt (inn.take k)
  have h2 : (inn.take k).length ≤ 7 := Nat.le_trans (List.length_take_le _ _) h
  have h3 : 256 ^ (inn.take k).length ≤ 256 ^ 7 := Nat.pow_le_pow_right (by omega) h2
  omega
theorem bigE_ok {inn : List UInt8} (h : inn.length ≤ 8) : u64ok (bigE inn) := by
  have h1 := bigE_lt inn
  have h3 : 256 ^ inn.length ≤ 256 ^ 8 := Nat.pow_le_pow_right (by omega) h
  unfold u64ok
  omega

/-- The last steps of a value that is read: the box is laid out, and read. -/
theorem read_end {w W : World} {S : Nat → Prop} {q : Quad} {v : TV} {A : Option Addr} {n c : Nat} {rest : List UInt8} (hb : Below w.heap.size w W) (hv : VR W (fun k => w.heap.size < k) q v) (hr : Bs W (fun k => S k ∧ k < w.heap.size) A n c rest) (hn : n ≤ 1000000000) (a b c' d : Value) :
    ReadPost w S (some (v, rest)) (.returned (.tuple #[q.agg, .slice A n c, .bool true])) ((((W.setCell ⟨w.heap.size, 0, none⟩ a).setCell ⟨w.heap.size, 1, none⟩ b).setCell ⟨w.heap.size, 2, none⟩ c').setCell ⟨w.heap.size, 3, none⟩ d) :=
  ⟨q, A, n, c, rfl, hv.keep (fun p hp _ => set4_other _ _ _ _ _ _ p (by omega)) (fun k hk _ => by omega),
    hr.keep (fun p hp _ => set4_other _ _ _ _ _ _ p (by omega)) (fun k hk _ => hk.1), hn, set4_below hb _ (Nat.le_refl _) _ _ _ _⟩
set_option maxRecDepth 10000 in
set_option maxHeartbeats 2000000 in
theorem read_num1 (d : Nat) (w : World) (S : Nat → Prop) (A : Option Addr) (n c : Nat) (bs xs rest : List UInt8) (b : UInt8) (hx : Bs w S A n c bs) (hn : n ≤ 1000000000) (hs : splitT bs = some (1, b :: xs, rest)) (h8 : (b :: xs).length ≤ 8) (h0 : b ≠ 0) :
    Calls Try.prog 87 #[.slice A n c, .int .i64 (d : Int)] w (ReadPost w S (some (.mk 1 (bigE (b :: xs)) [] [], rest))) := by
  have H8 := Lib.hid h8
  have K := Lib.hid (split_call hs _ _ _ _ _ (hx.oldS.after (w' := w.alloc (.cells #[.int .i64 0, .int .u64 0, .slice none 0 0, .slice none 0 0] 27)) ((Below.refl _ _).alloc (Nat.le_refl _) _)) hn)
  have q2 : ((b.toNat : Int) != 0) = true := by simp; exact fun e => h0 (UInt8.toNat_inj.1 (by simpa using e))
  clear h8 hs h0
  obtain ⟨inn, hinn⟩ : ∃ inn, inn = b :: xs := ⟨_, rfl⟩
  rw [← hinn] at K H8 ⊢
  have H0 : Hid (inn[0]? = some b) := Lib.hid (by rw [hinn]; rfl)
  clear hinn
  go_enter Try.func87, Try.ntmps87
  go_wp2_with fail
  refine (K.out).mono ?_
  rintro e w1 ⟨A1, n1, c1, A2, n2, c2, rfl, hi, hr, hn1, hn2, hb⟩
  clear K
  have hp : 0 < n1 := by
    have h1 := H0.out
    have h2 := hi.len
    cases inn with
    | nil => simp at h1
    | cons x xs => simp at h2; omega
  have h8 : n1 ≤ 8 := by have := hi.len; have := H8.out; omega
  obtain ⟨ad, b', rfl, hb0, hc0⟩ := hi.at0 hp
  obtain rfl : b = b' := by have := hb0.out; rw [H0.out] at this; injection this
  have q1 : ((n1 : Int) == 0) = false := by simp; omega
  have q3 : (n1 : Int) ≤ 8 := by omega
  simp only [World.size_alloc] at hb
  have hblk : Blk w1 w.heap.size 27 _ := (Blk.new w 27 _).below hb (by omega)
  obtain ⟨z0, z1, z2, z3, f0, f1, f2, f3, hz⟩ := hblk.four
  have hadb : ad.block < w.heap.size := by
    obtain ⟨ad', he, h', _⟩ := hi.rd.2 hp
    cases he
    exact h'.2
  obtain ⟨x1, x2, x3⟩ := far_of (show ad.block ≠ w.heap.size by omega)
  have hb1 : Below w.heap.size w w1 := ((Below.refl _ _).alloc (Nat.le_refl _) _).trans (hb.mono (by omega))
  clear hb0
  go_wp2_with fail
  go_loopw [10, 46] (fun _ i wr => ∃ k : Nat, k ≤ n1 ∧ i = .int .i64 k ∧ Hid (Blk wr w.heap.size 27 #[.int .i64 1, .int .u64 (bigE (inn.take k) : Int), .slice none 0 0, .slice none 0 0]) ∧ Below w.heap.size w1 wr) (fun _ i _ => n1 - (intOf i).toNat)
  case atStart =>
    refine ⟨0, Nat.zero_le _, rfl, Lib.hid ?_, (Below.refl _ _).setCell (p := ⟨w.heap.size, 0, none⟩) (Nat.le_refl _) _⟩
    exact hblk.set_ 0 (.int .i64 1)
  case round =>
    clear z0 z1 z2 z3 f0 f1 f2 f3 hc0
    obtain ⟨k, hk, rfl, hB, hbr⟩ := hrel
    obtain ⟨z0, z1, z2, z3, f0, f1, f2, f3, hz'⟩ := hB.out.four
    by_cases hlt : k < n1
    · obtain ⟨ad', b', he, hb', hc'⟩ := (hi.under (fun k h => h.2) hbr).at_ hlt
      cases he
      have hu := u8_lt b'
      have hle : bigE (inn.take k) ≤ 72057594037927935 := bigE_le (by omega)
      have hor := orU64 (bigE (inn.take k)) b' hle
      have hsn := Lib.hid (bigE_take hb'.out)
      generalize bigE (inn.take k) = N at hor hle hsn hB z1
      go_wp2_with fail
      refine ⟨⟨k + 1, by omega, by go_num, Lib.hid ?_, hbr.setCell (p := ⟨w.heap.size, 1, none⟩) (Nat.le_refl _) _⟩, by simp [intOf]; omega⟩
      rw [hsn.out]
      exact hB.out.set_ 1 _
    · obtain rfl : k = n1 := by omega
      have e : inn.take k = inn := List.take_of_length_le (by have := hi.len; omega)
      rw [e] at hB z1
      have hok := bigE_ok H8.out
      have hbb := hb1.trans hbr
      have hrr := hr.under (fun k h => h.2) hbr
      generalize hN : bigE inn = N at z1
      have HN := Lib.hid hN
      clear hN hB
      go_wp2_with fail
      refine bodyPost_ret (v := .tuple #[.agg #[.int .i64 1, .int .u64 (N : Int), .slice none 0 0, .slice none 0 0], .slice A2 n2 c2, .bool true]) (by simp [results, Try.results87, go_sem, z0, z1, z2, z3]) rfl ?_
      rw [← HN.out]
      exact read_end hbb (VR.shut (tag := 1) hok (Bs.nil _ _ _) (by omega) (LR.nil _ _ _)) hrr hn2 _ _ _ _
set_option maxRecDepth 10000 in
set_option maxHeartbeats 2000000 in
theorem read_num0 (d : Nat) (w : World) (S : Nat → Prop) (A : Option Addr) (n c : Nat) (bs rest : List UInt8) (hx : Bs w S A n c bs) (hn : n ≤ 1000000000) (hs : splitT bs = some (1, [], rest)) :
    Calls Try.prog 87 #[.slice A n c, .int .i64 (d : Int)] w (ReadPost w S (some (.mk 1 0 [] [], rest))) := by
  have K := Lib.hid (split_call hs _ _ _ _ _ (hx.oldS.after (w' := w.alloc (.cells #[.int .i64 0, .int .u64 0, .slice none 0 0, .slice none 0 0] 27)) ((Below.refl _ _).alloc (Nat.le_refl _) _)) hn)
  clear hs
  go_enter Try.func87, Try.ntmps87
  go_wp2_with fail
  refine (K.out).mono ?_
  rintro e w1 ⟨A1, n1, c1, A2, n2, c2, rfl, hi, hr, hn1, hn2, hb⟩
  clear K
  obtain rfl : n1 = 0 := by have := hi.len; simpa using this.symm
  simp only [World.size_alloc] at hb
  have hblk : Blk w1 w.heap.size 27 _ := (Blk.new w 27 _).below hb (by omega)
  obtain ⟨z0, z1, z2, z3, f0, f1, f2, f3, hz⟩ := hblk.four
  have hb1 : Below w.heap.size w w1 := ((Below.refl _ _).alloc (Nat.le_refl _) _).trans (hb.mono (by omega))
  go_wp2_with fail
  refine wp_loop_rounds 1 ?_
  rw [rounds_succ]
  go_wp2_with fail
  refine bodyPost_ret (v := .tuple #[.agg #[.int .i64 1, .int .u64 ((0 : Nat) : Int), .slice none 0 0, .slice none 0 0], .slice A2 n2 c2, .bool true]) (by simp [results, Try.results87, go_sem, z0, z1, z2, z3]) rfl ?_
  exact read_end (W := w1.setCell ⟨w.heap.size, 0, none⟩ (.int .i64 1)) (hb1.setCell (p := ⟨w.heap.size, 0, none⟩) (Nat.le_refl _) _) (VR.shut (tag := 1) (n := 0) (by simp [u64ok]) (Bs.nil _ _ _) (by omega) (LR.nil _ _ _)) (hr.under (fun k h => h.2) ((Below.refl _ _).setCell (p := ⟨w.heap.size, 0, none⟩) (Nat.le_refl _) _)) hn2 _ _ _ _
set_option maxRecDepth 10000 in
set_option maxHeartbeats 2000000 in
theorem read_bytes (d : Nat) (w : World) (S : Nat → Prop) (A : Option Addr) (n c : Nat) (bs inn rest : List UInt8) (hx : Bs w S A n c bs) (hn : n ≤ 1000000000) (hs : splitT bs = some (2, inn, rest)) :
    Calls Try.prog 87 #[.slice A n c, .int .i64 (d : Int)] w (ReadPost w S (some (.mk 2 0 inn [], rest))) := by
  have K := Lib.hid (split_call hs _ _ _ _ _ (hx.oldS.after (w' := w.alloc (.cells #[.int .i64 0, .int .u64 0, .slice none 0 0, .slice none 0 0] 27)) ((Below.refl _ _).alloc (Nat.le_refl _) _)) hn)
  clear hs
  go_enter Try.func87, Try.ntmps87
  go_wp2_with fail
  refine (K.out).mono ?_
  rintro e w1 ⟨A1, n1, c1, A2, n2, c2, rfl, hi, hr, hn1, hn2, hb⟩
  clear K
  simp only [World.size_alloc] at hb
  have hblk : Blk w1 w.heap.size 27 _ := (Blk.new w 27 _).below hb (by omega)
  obtain ⟨z0, z1, z2, z3, f0, f1, f2, f3, hz⟩ := hblk.four
  have hb1 : Below w.heap.size w w1 := ((Below.refl _ _).alloc (Nat.le_refl _) _).trans (hb.mono (by omega))
  go_wp2_with fail
  have hb2 : Below w.heap.size w1 (w1.setCell ⟨w.heap.size, 0, none⟩ (.int .i64 2)) := (Below.refl _ _).setCell (p := ⟨w.heap.size, 0, none⟩) (Nat.le_refl _) _
  have hbk : Blk (w1.setCell ⟨w.heap.size, 0, none⟩ (.int .i64 2)) w.heap.size 27 #[.int .i64 2, .int .u64 0, .slice none 0 0, .slice none 0 0] := hblk.set_ 0 (.int .i64 2)
  refine (clone_any _ (fun k => S k ∧ k < w.heap.size) _ _ _ _ (hi.under (fun k h => h.2) hb2) (by omega)).mono ?_
  rintro e w2 ⟨A3, c3, rfl, hown, hb3⟩
  have hsz := hbk.lt
  have hbk2 := hbk.after hb3
  have hr2 := (hr.under (fun k h => h.2) hb2).after hb3
  have hbb : Below w.heap.size w w2 := (hb1.trans hb2).trans (hb3.mono (by omega))
  generalize (w1.setCell ⟨w.heap.size, 0, none⟩ (.int .i64 2)).heap.size = m at hown hsz
  clear hb3 hb2 hbk z0 z1 z2 z3 f0 f1 f2 f3 hz hr hi
  obtain ⟨z0, z1, z2, z3, f0, f1, f2, f3, hz⟩ := hbk2.four
  go_wp2_with fail
  refine bodyPost_ret (v := .tuple #[.agg #[.int .i64 2, .int .u64 ((0 : Nat) : Int), .slice A3 n1 c3, .slice none 0 0], .slice A2 n2 c2, .bool true]) (by simp [results, Try.results87, go_sem, z0, z1, z2, z3]) rfl ?_
  obtain ⟨_, _, he, hbs⟩ := own_bs hown
  cases he
  have hb4 : Below w.heap.size w2 (w2.setCell ⟨w.heap.size, 2, none⟩ (.slice A3 n1 c3)) := (Below.refl _ _).setCell (p := ⟨w.heap.size, 2, none⟩) (Nat.le_refl _) _
  refine read_end (W := w2.setCell ⟨w.heap.size, 2, none⟩ (.slice A3 n1 c3)) (hbb.trans hb4) (VR.shut (tag := 2) (n := 0) (by simp [u64ok]) (hbs.keep (fun p hp _ => World.cell?_setCell_other _ _ _ _ (fun e => by subst e; simp at hp; omega)) (fun k hk _ => by omega)) (by omega) (LR.nil _ _ _)) (hr2.under (fun k h => h.2) hb4) hn2 _ _ _ _
end Go.Proofs.Ytaebmhbggbpnoaa
namespace Go.Proofs.Ytaebmhbggbpnoaa
open Go.RowKit
set_option maxRecDepth 10000 in
set_option maxHeartbeats 2000000 in
theorem read_other (d : Nat) (w : World) (S : Nat → Prop) (A : Option Addr) (n c t : Nat) (bs inn rest : List UInt8) (hx : Bs w S A n c bs) (hn : n ≤ 1000000000) (hs : splitT bs = some (t, inn, rest)) (h1 : t ≠ 1) (h2 : t ≠ 2) (h3 : t ≠ 3) :
    Calls Try.prog 87 #[.slice A n c, .int .i64 (d : Int)] w (ReadPost w S none) := by
  have K := Lib.hid (split_call hs _ _ _ _ _ (hx.oldS.after (w' := w.alloc (.cells #[.int .i64 0, .int .u64 0, .slice none 0 0, .slice none 0 0] 27)) ((Below.refl _ _).alloc (Nat.le_refl _) _)) hn)
  have ht := (splitT_short hs).1
  have q1 : ((t : Int) == 1) = false := by simp; omega
  have q2 : ((t : Int) == 2) = false := by simp; omega
  have q3 : ((t : Int) == 3) = false := by simp; omega
  clear hs h1 h2 h3
  go_enter Try.func87, Try.ntmps87
  go_wp2_with fail
  refine (K.out).mono ?_
  rintro e w1 ⟨A1, n1, c1, A2, n2, c2, rfl, hi, hr, hn1, hn2, hb⟩
  clear K
  simp only [World.size_alloc] at hb
  have hblk : Blk w1 w.heap.size 27 _ := (Blk.new w 27 _).below hb (by omega)
  obtain ⟨z0, z1, z2, z3, f0, f1, f2, f3, hz⟩ := hblk.four
  have hb1 : Below w.heap.size w w1 := ((Below.refl _ _).alloc (Nat.le_refl _) _).trans (hb.mono (by omega))
  go_wp2_with fail
  refine bodyPost_ret (v := .tuple #[.agg #[.int .i64 0, .int .u64 0, .slice none 0 0, .slice none 0 0], .slice none 0 0, .bool false]) (by simp [results, Try.results87, go_sem, z0, z1, z2, z3]) rfl ?_
  exact ⟨rfl, set4_below (hb1.setCell (p := ⟨w.heap.size, 0, none⟩) (Nat.le_refl _) _) _ (Nat.le_refl _) _ _ _ _⟩
set_option maxRecDepth 10000 in
set_option maxHeartbeats 2000000 in
theorem read_deep (w : World) (S : Nat → Prop) (A : Option Addr) (n c : Nat) (bs inn rest : List UInt8) (hx : Bs w S A n c bs) (hn : n ≤ 1000000000) (hs : splitT bs = some (3, inn, rest)) :
    Calls Try.prog 87 #[.slice A n c, .int .i64 ((0 : Nat) : Int)] w (ReadPost w S none) := by
  have K := Lib.hid (split_call hs _ _ _ _ _ (hx.oldS.after (w' := w.alloc (.cells #[.int .i64 0, .int .u64 0, .slice none 0 0, .slice none 0 0] 27)) ((Below.refl _ _).alloc (Nat.le_refl _) _)) hn)
  clear hs
  go_enter Try.func87, Try.ntmps87
  go_wp2_with fail
  refine (K.out).mono ?_
  rintro e w1 ⟨A1, n1, c1, A2, n2, c2, rfl, hi, hr, hn1, hn2, hb⟩
  clear K
  simp only [World.size_alloc] at hb
  have hblk : Blk w1 w.heap.size 27 _ := (Blk.new w 27 _).below hb (by omega)
  obtain ⟨z0, z1, z2, z3, f0, f1, f2, f3, hz⟩ := hblk.four
  have hb1 : Below w.heap.size w w1 := ((Below.refl _ _).alloc (Nat.le_refl _) _).trans (hb.mono (by omega))
  go_wp2_with fail
  refine bodyPost_ret (v := .tuple #[.agg #[.int .i64 0, .int .u64 0, .slice none 0 0, .slice none 0 0], .slice none 0 0, .bool false]) (by simp [results, Try.results87, go_sem, z0, z1, z2, z3]) rfl ?_
  exact ⟨rfl, set4_below (hb1.setCell (p := ⟨w.heap.size, 0, none⟩) (Nat.le_refl _) _) _ (Nat.le_refl _) _ _ _ _⟩
set_option maxRecDepth 10000 in
set_option maxHeartbeats 2000000 in
theorem read_long (d : Nat) (w : World) (S : Nat → Prop) (A : Option Addr) (n c : Nat) (bs inn rest : List UInt8) (hx : Bs w S A n c bs) (hn : n ≤ 1000000000) (hs : splitT bs = some (1, inn, rest)) (h8 : ¬ inn.length ≤ 8) :
    Calls Try.prog 87 #[.slice A n c, .int .i64 (d : Int)] w (ReadPost w S none) := by
  have K := Lib.hid (split_call hs _ _ _ _ _ (hx.oldS.after (w' := w.alloc (.cells #[.int .i64 0, .int .u64 0, .slice none 0 0, .slice none 0 0] 27)) ((Below.refl _ _).alloc (Nat.le_refl _) _)) hn)
  have H8 := Lib.hid h8
  clear hs h8
  go_enter Try.func87, Try.ntmps87
  go_wp2_with fail
  refine (K.out).mono ?_
  rintro e w1 ⟨A1, n1, c1, A2, n2, c2, rfl, hi, hr, hn1, hn2, hb⟩
  clear K
  have q3 : ¬ (n1 : Int) ≤ 8 := by have := hi.len; have := H8.out; omega
  have q4 : decide ((n1 : Int) ≤ 8) = false := by simpa using q3
  clear q3
  simp only [World.size_alloc] at hb
  have hblk : Blk w1 w.heap.size 27 _ := (Blk.new w 27 _).below hb (by omega)
  obtain ⟨z0, z1, z2, z3, f0, f1, f2, f3, hz⟩ := hblk.four
  have hb1 : Below w.heap.size w w1 := ((Below.refl _ _).alloc (Nat.le_refl _) _).trans (hb.mono (by omega))
  go_wp2_with fail
  refine bodyPost_ret (v := .tuple #[.agg #[.int .i64 0, .int .u64 0, .slice none 0 0, .slice none 0 0], .slice none 0 0, .bool false]) (by simp [results, Try.results87, go_sem, z0, z1, z2, z3]) rfl ?_
  exact ⟨rfl, set4_below (hb1.setCell (p := ⟨w.heap.size, 0, none⟩) (Nat.le_refl _) _) _ (Nat.le_refl _) _ _ _ _⟩
set_option maxRecDepth 10000 in
set_option maxHeartbeats 2000000 in
theorem read_nought (d : Nat) (w : World) (S : Nat → Prop) (A : Option Addr) (n c : Nat) (bs inn rest : List UInt8) (hx : Bs w S A n c bs) (hn : n ≤ 1000000000) (hs : splitT bs = some (1, inn, rest)) (h8 : inn.length ≤ 8) (h0 : inn.head? = some 0) :
    Calls Try.prog 87 #[.slice A n c, .int .i64 (d : Int)] w (ReadPost w S none) := by
  have K := Lib.hid (split_call hs _ _ _ _ _ (hx.oldS.after (w' := w.alloc (.cells #[.int .i64 0, .int .u64 0, .slice none 0 0, .slice none 0 0] 27)) ((Below.refl _ _).alloc (Nat.le_refl _) _)) hn)
  have H8 := Lib.hid h8
  have H0 := Lib.hid h0
  clear hs h8 h0
  go_enter Try.func87, Try.ntmps87
  go_wp2_with fail
  refine (K.out).mono ?_
  rintro e w1 ⟨A1, n1, c1, A2, n2, c2, rfl, hi, hr, hn1, hn2, hb⟩
  clear K
  have q3 : (n1 : Int) ≤ 8 := by have := hi.len; have := H8.out; omega
  have hp : 0 < n1 := by
    have h1 := H0.out
    have h2 := hi.len
    cases inn with
    | nil => simp at h1
    | cons x xs => simp at h2; omega
  have q1 : ((n1 : Int) == 0) = false := by simp; omega
  obtain ⟨ad, b', rfl, hb0, hc0⟩ := hi.at0 hp
  obtain rfl : b' = 0 := by
    have h1 := H0.out
    have h2 := hb0.out
    cases inn with
    | nil => simp at h1
    | cons x xs => simp at h1 h2; rw [← h2, h1]
  have hc1 : w1.cell? ad = some (.int .u8 0) := hc0
  simp only [World.size_alloc] at hb
  have hblk : Blk w1 w.heap.size 27 _ := (Blk.new w 27 _).below hb (by omega)
  obtain ⟨z0, z1, z2, z3, f0, f1, f2, f3, hz⟩ := hblk.four
  have hadb : ad.block < w.heap.size := by
    obtain ⟨ad', he, h', _⟩ := hi.rd.2 hp
    cases he
    exact h'.2
  obtain ⟨x1, x2, x3⟩ := far_of (show ad.block ≠ w.heap.size by omega)
  have hb1 : Below w.heap.size w w1 := ((Below.refl _ _).alloc (Nat.le_refl _) _).trans (hb.mono (by omega))
  clear hc0 hb0
  go_wp2_with fail
  refine bodyPost_ret (v := .tuple #[.agg #[.int .i64 0, .int .u64 0, .slice none 0 0, .slice none 0 0], .slice none 0 0, .bool false]) (by simp [results, Try.results87, go_sem, z0, z1, z2, z3]) rfl ?_
  exact ⟨rfl, set4_below (hb1.setCell (p := ⟨w.heap.size, 0, none⟩) (Nat.le_refl _) _) _ (Nat.le_refl _) _ _ _ _⟩
end Go.Proofs.Ytaebmhbggbpnoaa
namespace Go.Proofs.Ytaebmhbggbpnoaa
open Go.RowKit
theorem readAll_nil (rd : List UInt8 → Option (TV × List UInt8)) : readAll rd [] = some [] := by rw [readAll]
theorem readAll_none {rd : List UInt8 → Option (TV × List UInt8)} {b : List UInt8} (hb : b ≠ []) (h : rd b = none) : readAll rd b = none := by
  cases b with
  | nil => exact absurd rfl hb
  | cons x xs => rw [readAll, h]
theorem readAll_some {rd : List UInt8 → Option (TV × List UInt8)} {b rest : List UInt8} {v : TV} (hb : b ≠ []) (h : rd b = some (v, rest)) (hl : rest.length < b.length) : readAll rd b = (readAll rd rest).map (v :: ·) := by
  cases b with
  | nil => exact absurd rfl hb
  | cons x xs => rw [readAll, h]; simp only; rw [if_pos hl]
theorem VR.cells_one' {w : World} {S : Nat → Prop} {q : Quad} {v : TV} (h : VR w S q v) : ∀ u ∈ flat [q], u.oneCell' = true := fun u hu => h.cells_one u (by simpa [flat] using hu)
theorem readT_short {d : Nat} {b rest : List UInt8} {v : TV} (h : readT d b = some (v, rest)) : rest.length + 3 ≤ b.length := by
  unfold readT at h
  split at h
  · cases h
  · rename_i t inn rest' hs
    have := (splitT_short hs).2
    have key : rest = rest' := by
      split at h
      · split at h
        · injection h with h; injection h with _ h; exact h.symm
        · cases h
      · split at h
        · injection h with h; injection h with _ h; exact h.symm
        · split at h
          · split at h
            · cases h
            · rw [Option.map_eq_some_iff] at h
              obtain ⟨l, _, h⟩ := h
              injection h with _ h
              exact h.symm
          · cases h
    subst key
    omega
set_option maxRecDepth 10000 in
set_option maxHeartbeats 4000000 in
theorem read_list (d : Nat) (ih : ReadSaid d) (w : World) (S : Nat → Prop) (A : Option Addr) (n c : Nat) (bs inn rest : List UInt8) (hx : Bs w S A n c bs) (hn : n ≤ 1000000000) (hd : d ≤ 1000000) (hs : splitT bs = some (3, inn, rest)) :
    Calls Try.prog 87 #[.slice A n c, .int .i64 ((d + 1 : Nat) : Int)] w (ReadPost w S ((readAll (readT d) inn).map fun l => (.mk 3 0 [] l, rest))) := by
  have K := Lib.hid (split_call hs _ _ _ _ _ (hx.oldS.after (w' := w.alloc (.cells #[.int .i64 0, .int .u64 0, .slice none 0 0, .slice none 0 0] 27)) ((Below.refl _ _).alloc (Nat.le_refl _) _)) hn)
  have IH := Lib.hid ih
  clear hs ih
  have hd1 : (0 : Int) < ((d + 1 : Nat) : Int) := by omega
  go_enter Try.func87, Try.ntmps87
  go_wp2_with fail
  refine (K.out).mono ?_
  rintro e w1 ⟨A1, n1, c1, A2, n2, c2, rfl, hi, hr, hn1, hn2, hb⟩
  clear K
  simp only [World.size_alloc] at hb
  have hblk : Blk w1 w.heap.size 27 _ := (Blk.new w 27 _).below hb (by omega)
  obtain ⟨z0, z1, z2, z3, f0, f1, f2, f3, hz⟩ := hblk.four
  have hb1 : Below w.heap.size w w1 := ((Below.refl _ _).alloc (Nat.le_refl _) _).trans (hb.mono (by omega))
  go_wp2_with fail
  go_loopg [5, 6, 8] n1 (fun k v5 _ v8 wr => ∃ A1 c1 cur acc Al cl, v5 = .slice A2 n2 c2 ∧ v8 = .slice A1 k c1 ∧ Hid (Bs wr (fun k => S k ∧ k < w.heap.size) A1 k c1 cur) ∧ acc.length + k ≤ 65535 ∧
    Hid (Blk wr w.heap.size 27 #[.int .i64 3, .int .u64 0, .slice none 0 0, .slice Al acc.length cl]) ∧ Hid (LO wr (fun k => w.heap.size < k) (w.heap.size + 1) 27 (.slice Al acc.length cl) acc.length acc) ∧ Hid (Below w.heap.size w wr) ∧ Hid (Below w.heap.size w1 wr) ∧ Hid (readAll (readT d) inn = (readAll (readT d) cur).map (acc ++ ·)))
  case atStart =>
    have hb2 : Below w.heap.size w1 (w1.setCell ⟨w.heap.size, 0, none⟩ (.int .i64 3)) := (Below.refl _ _).setCell (p := ⟨w.heap.size, 0, none⟩) (Nat.le_refl _) _
    exact ⟨A1, c1, inn, [], none, 0, rfl, rfl, Lib.hid (hi.under (fun k h => h.2) hb2), by simpa using hn1, Lib.hid (hblk.set_ 0 (.int .i64 3)), Lib.hid (LO.nil _ _ _ _), Lib.hid (hb1.trans hb2), Lib.hid hb2, Lib.hid (by simp)⟩
  case round =>
    clear z0 z1 z2 z3 f0 f1 f2 f3 hz hblk hb1 hb hi hn1
    obtain ⟨A1, c1, cur, acc, Al, cl, rfl, rfl, hcur, hac, hB, hLO, hbel, hbw, heq⟩ := hrel
    obtain ⟨z0, z1, z2, z3, f0, f1, f2, f3, hz⟩ := hB.out.four
    by_cases hgk : 0 < gk
    · have hgk' : (0 : Int) < (gk : Int) := by omega
      have hW1 : Below wr.heap.size wr (wr.alloc (.cells #[.int .i64 0, .int .u64 0, .slice none 0 0, .slice none 0 0] 27)) := (Below.refl _ _).alloc (Nat.le_refl _) _
      have IC := Lib.hid (IH.out _ (fun k => S k ∧ k < w.heap.size) A1 gk c1 cur (hcur.out.after hW1) (by omega))
      have hne : Hid (cur ≠ []) := Lib.hid (by have := hcur.out.len; rintro rfl; simp at this; omega)
      go_wp2_with fail
      refine (IC.out).mono ?_
      clear IC
      cases hread : readT d cur with
      | none =>
        rintro e w2 ⟨rfl, hb2⟩
        have hnone : readAll (readT d) inn = none := by rw [heq.out, readAll_none hne.out hread]; rfl
        simp only [World.size_alloc] at hb2
        obtain ⟨y0, y1, y2, y3, g0, g1, g2, g3, hy⟩ := box4 hb2
        have hw2 : Below wr.heap.size wr w2 := hW1.trans (hb2.mono (by omega))
        have hB2 := hB.out.after hw2
        have hdone : Below w.heap.size w w2 := hbel.out.trans (hw2.mono (by omega))
        have Hr := Lib.hid hread
        have Hn := Lib.hid hnone
        have Hb := Lib.hid hdone
        clear hread hnone hdone z0 z1 z2 z3 f0 f1 f2 f3
        obtain ⟨z0, z1, z2, z3, f0, f1, f2, f3, hz2⟩ := hB2.four
        have hne1 : ¬ wr.heap.size = w.heap.size := by omega
        have hne2 : ¬ w.heap.size = wr.heap.size := by omega
        clear hw2 hB2 hb2 hW1
        go_wp2_with fail
        refine bodyPost_ret (v := .tuple #[.agg #[.int .i64 0, .int .u64 0, .slice none 0 0, .slice none 0 0], .slice none 0 0, .bool false]) (by simp [results, Try.results87, go_sem, z0, z1, z2, z3]) rfl ?_
        rw [Hn.out]
        exact ⟨rfl, set4_below (set4_below Hb.out _ (by omega) _ _ _ _) _ (Nat.le_refl _) _ _ _ _⟩
      | some p =>
        obtain ⟨x, rest'⟩ := p
        rintro e w2 ⟨q, A3, n3, c3, rfl, hv, hr3, hn3, hb2⟩
        have hshort := readT_short hread
        have hsome : readAll (readT d) inn = (readAll (readT d) rest').map ((acc ++ [x]) ++ ·) := by
          rw [heq.out, readAll_some hne.out hread (by omega), Option.map_map]
          congr 1
          funext y
          simp
        have hl3 : n3 + 3 ≤ gk := by have := hcur.out.len; have := hr3.len; omega
        simp only [World.size_alloc] at hb2 hv
        obtain ⟨tag, nn, bb, ll, A5, A6, n5, c5, n6, c6, rfl, rfl, -⟩ := hv.opens
        obtain ⟨y0, y1, y2, y3, g0, g1, g2, g3, hy⟩ := box4 hb2
        have hw2 : Below wr.heap.size wr w2 := hW1.trans (hb2.mono (by omega))
        have hw3 : Below wr.heap.size wr ((((w2.setCell ⟨wr.heap.size, 0, none⟩ (.int .i64 tag)).setCell ⟨wr.heap.size, 1, none⟩ (.int .u64 (nn : Int))).setCell ⟨wr.heap.size, 2, none⟩ (.slice A5 n5 c5)).setCell ⟨wr.heap.size, 3, none⟩ (.slice A6 n6 c6)) := set4_below hw2 _ (Nat.le_refl _) _ _ _ _
        have hv3 : VR ((((w2.setCell ⟨wr.heap.size, 0, none⟩ (.int .i64 tag)).setCell ⟨wr.heap.size, 1, none⟩ (.int .u64 (nn : Int))).setCell ⟨wr.heap.size, 2, none⟩ (.slice A5 n5 c5)).setCell ⟨wr.heap.size, 3, none⟩ (.slice A6 n6 c6)) (fun k => wr.heap.size ≤ k) ⟨.int .i64 tag, .int .u64 (nn : Int), .slice A5 n5 c5, .slice A6 n6 c6⟩ (.mk tag nn bb ll) := hv.keep (fun p hp _ => set4_other _ _ _ _ _ _ p (by omega)) (fun k hk _ => by omega)
        obtain ⟨qs, hq, hown, hch, hvn, hrn⟩ := hLO.out.ready (e' := 27) hw3 hv3 (fun k hk _ => ⟨by omega, fun he => by obtain ⟨_, _, _, _, ho, _⟩ := hLO.out; have := (ho.lt _ he.symm).2; omega⟩)
        simp only [World.size_setCell] at hrn
        have hB2 := hB.out.after hw2
        obtain ⟨i0, hi0, hj0, hj1, hj2⟩ := info_parts Try.info27
        have hw4 := hw3.alloc hw3.size (.cells #[.int .i64 tag, .int .u64 (nn : Int), .slice A5 n5 c5, .slice A6 n6 c6] 27)
        have hnb : some w.heap.size ≠ (Value.slice Al acc.length cl).ownBlock := fun e => by have := (hown.lt _ e.symm).1; omega
        have hB3 := hB.out.after hw4
        have hcur3 : Bs w2 (fun k => S k ∧ k < w.heap.size) A3 n3 c3 rest' := hr3
        have H : Hid (readT d cur = some (.mk tag nn bb ll, rest') ∧ readAll (readT d) inn = (readAll (readT d) rest').map ((acc ++ [.mk tag nn bb ll]) ++ ·) ∧ qs.length = acc.length ∧ Blk w2 w.heap.size 27 #[.int .i64 3, .int .u64 0, .slice none 0 0, .slice Al acc.length cl]) := Lib.hid ⟨hread, hsome, hq, hB2⟩
        clear hread hsome hq z0 z1 z2 z3 f0 f1 f2 f3
        obtain ⟨z0, z1, z2, z3, f0, f1, f2, f3, hz2⟩ := hB2.four
        have hne1 : ¬ wr.heap.size = w.heap.size := by omega
        have hne2 : ¬ w.heap.size = wr.heap.size := by omega
        have HH := Lib.hid (And.intro hB3 (And.intro hw4 hnb))
        clear hW1 hB2 hb2 hw3 hw2 hw4 hB3 hnb
        dsimp only [Quad.agg]
        go_wp2_with (at_builtin; go_must (refine wpList_append_any _ rfl (.tmp 86) (.tmp 88) 25 rfl (w.heap.size + 1) 27 i0 _ 4 64 Try.underlying25 hi0 hj0 hj1 hj2 rfl (by omega) (.slice Al acc.length cl) acc.length (flat qs) rfl hown AnyB _ 1 1 (flat [⟨.int .i64 tag, .int .u64 (nn : Int), .slice A5 n5 c5, .slice A6 n6 c6⟩]) rfl hrn hvn.cells_one' (by simp only [maxLen]; omega) (by omega) (by simp; omega) ?_); intro v4 w4 hown4 hg4 hat4; obtain ⟨A7, c7, rfl, hc7⟩ := own_shape hown4; have hB4 := HH.out.1.grown hg4 HH.out.2.2; obtain ⟨k0, k1, k2, k3, m0, m1, m2, m3, hz4⟩ := hB4.four)
        go_roundg n3
        case measure => omega
        case rel =>
          obtain ⟨hB3, hw4, hnb⟩ := HH.out
          obtain ⟨hread, hsome, hq, -⟩ := H.out
          have hfew : acc.length + 1 ≤ 1000000000 := by omega
          have hL5 := (LO.snoc hq rfl hfew hown4 hg4 hat4 hch hvn).setCell (p := ⟨w.heap.size, 3, none⟩) (fun e => by have := (hown4.lt _ e).1; dsimp only at this; omega) (fun k hk => by dsimp only; omega) (.slice A7 (acc.length + 1) c7)
          have hB5 := hB4.set_ 3 (.slice A7 (acc.length + 1) c7)
          have hrow : ∀ k, (Value.slice Al acc.length cl).ownBlock = some k → w.heap.size ≤ k := fun k hk => by have := (hown.lt k hk).1; omega
          have hbr : Below w.heap.size wr w4 := (hw4.mono (Nat.le_of_lt hz)).grown hg4 (by have := hw4.size; omega) hrow
          have hb24 : Below w.heap.size w2 w4 := ((set4_below (Below.refl _ _) wr.heap.size (Nat.le_of_lt hz) _ _ _ _).alloc (by simp; omega) _).grown hg4 (by have := hw4.size; omega) hrow
          have hset : ∀ {a : World}, Below w.heap.size a w4 → Below w.heap.size a (w4.setCell ⟨w.heap.size, 3, none⟩ (.slice A7 (acc.length + 1) c7)) := fun h => h.setCell (p := ⟨w.heap.size, 3, none⟩) (Nat.le_refl _) _
          have hlen : (acc ++ [TV.mk tag nn bb ll]).length = acc.length + 1 := by simp
          refine ⟨A3, c3, rest', acc ++ [.mk tag nn bb ll], A7, c7, rfl, rfl, Lib.hid (hr3.under (fun k h => h.2) (hset hb24)), by rw [hlen]; omega, ?_, ?_, Lib.hid (hset (hbel.out.trans hbr)), Lib.hid (hset (hbw.out.trans hbr)), Lib.hid hsome⟩
          · rw [hlen]; exact Lib.hid hB5
          · rw [hlen]; exact Lib.hid hL5
    · obtain rfl : gk = 0 := by omega
      have hnil : Hid (readAll (readT d) inn = some acc) := by
        have hc : cur = [] := List.eq_nil_of_length_eq_zero hcur.out.len
        have := heq.out
        rw [hc, readAll_nil] at this
        exact Lib.hid (by simpa using this)
      go_wp2_with fail
      refine bodyPost_ret (v := .tuple #[.agg #[.int .i64 3, .int .u64 ((0 : Nat) : Int), .slice none 0 0, .slice Al acc.length cl], .slice A2 n2 c2, .bool true]) (by simp [results, Try.results87, go_sem, z0, z1, z2, z3]) rfl ?_
      rw [hnil.out]
      have hl := hLO.out.reads.keep (S' := fun k => w.heap.size < k) (fun _ _ _ => rfl) (fun k hk _ => by omega)
      exact read_end hbel.out (VR.shut (tag := 3) (n := 0) (by simp [u64ok]) (Bs.nil _ _ _) (by omega) hl) (hr.under (fun k h => h.2) hbw.out) hn2 _ _ _ _
theorem read_any : ∀ d : Nat, d ≤ 1000000 → ReadSaid d := by
  intro d
  induction d with
  | zero =>
    intro _ w S A n c bs hx hn
    unfold readT
    cases hs : splitT bs with
    | none => exact read_none 0 w S A n c bs hx hn hs
    | some p =>
      obtain ⟨t, inn, rest⟩ := p
      simp only
      by_cases h1 : t = 1
      · subst h1
        rw [if_pos rfl]
        by_cases h8 : inn.length ≤ 8 ∧ (inn = [] ∨ inn.head? ≠ some 0)
        · rw [if_pos h8]
          match inn, h8, hs with
          | [], _, hs => exact read_num0 0 w S A n c bs rest hx hn hs
          | b :: xs, h8, hs => exact read_num1 0 w S A n c bs xs rest b hx hn hs h8.1 (by intro e; subst e; rcases h8.2 with h | h <;> simp at h)
        · rw [if_neg h8]
          by_cases h8' : inn.length ≤ 8
          · refine read_nought 0 w S A n c bs inn rest hx hn hs h8' ?_
            rw [not_and] at h8
            have := h8 h8'
            rw [not_or] at this
            simpa using this.2
          · exact read_long 0 w S A n c bs inn rest hx hn hs h8'
      · rw [if_neg h1]
        by_cases h2 : t = 2
        · subst h2
          rw [if_pos rfl]
          exact read_bytes 0 w S A n c bs inn rest hx hn hs
        · rw [if_neg h2]
          by_cases h3 : t = 3
          · subst h3
            rw [if_pos rfl]
            exact read_deep w S A n c bs inn rest hx hn hs
          · rw [if_neg h3]
            exact read_other 0 w S A n c t bs inn rest hx hn hs h1 h2 h3
  | succ d ih =>
    intro hd w S A n c bs hx hn
    unfold readT
    cases hs : splitT bs with
    | none => exact read_none (d + 1) w S A n c bs hx hn hs
    | some p =>
      obtain ⟨t, inn, rest⟩ := p
      simp only
      by_cases h1 : t = 1
      · subst h1
        rw [if_pos rfl]
        by_cases h8 : inn.length ≤ 8 ∧ (inn = [] ∨ inn.head? ≠ some 0)
        · rw [if_pos h8]
          match inn, h8, hs with
          | [], _, hs => exact read_num0 (d + 1) w S A n c bs rest hx hn hs
          | b :: xs, h8, hs => exact read_num1 (d + 1) w S A n c bs xs rest b hx hn hs h8.1 (by intro e; subst e; rcases h8.2 with h | h <;> simp at h)
        · rw [if_neg h8]
          by_cases h8' : inn.length ≤ 8
          · refine read_nought (d + 1) w S A n c bs inn rest hx hn hs h8' ?_
            rw [not_and] at h8
            have := h8 h8'
            rw [not_or] at this
            simpa using this.2
          · exact read_long (d + 1) w S A n c bs inn rest hx hn hs h8'
      · rw [if_neg h1]
        by_cases h2 : t = 2
        · subst h2
          rw [if_pos rfl]
          exact read_bytes (d + 1) w S A n c bs inn rest hx hn hs
        · rw [if_neg h2]
          by_cases h3 : t = 3
          · subst h3
            rw [if_pos rfl]
            exact read_list d (ih (by omega)) w S A n c bs inn rest hx hn (by omega) hs
          · rw [if_neg h3]
            exact read_other (d + 1) w S A n c t bs inn rest hx hn hs h1 h2 h3
end Go.Proofs.Ytaebmhbggbpnoaa
