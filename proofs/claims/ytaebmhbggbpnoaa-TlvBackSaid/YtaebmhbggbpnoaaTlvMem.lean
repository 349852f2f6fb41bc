/- Values of layer 1 in memory. Plain definitions and theorems; conditions: each theorem's premises. -/
import Derived.Test.YtaebmhbggbpnoaaBase
import Derived.Test.YtaebmhbggbpnoaaTlvSpec
namespace Go.Proofs.Ytaebmhbggbpnoaa
open Go.RowKit

/-- The four cells of a value. -/
structure Quad where
  a : Value
  b : Value
  c : Value
  d : Value
def Quad.cells (q : Quad) : List Value := [q.a, q.b, q.c, q.d]
def Quad.agg (q : Quad) : Value := .agg #[q.a, q.b, q.c, q.d]
def flat (qs : List Quad) : List Value := qs.flatMap Quad.cells
theorem flat_length (qs : List Quad) : (flat qs).length = qs.length * 4 := by
  induction qs with
  | nil => rfl
  | cons q qs ih => simp [flat, Quad.cells] at ih ⊢; omega
theorem flat_append (a b : List Quad) : flat (a ++ b) = flat a ++ flat b := by simp [flat]
theorem flat_at (qs : List Quad) (i : Nat) (q : Quad) (h : qs[i]? = some q) :
    (flat qs)[i * 4]? = some q.a ∧ (flat qs)[i * 4 + 1]? = some q.b ∧ (flat qs)[i * 4 + 2]? = some q.c ∧ (flat qs)[i * 4 + 3]? = some q.d := by
  induction qs generalizing i with
  | nil => simp at h
  | cons p qs ih =>
    cases i with
    | zero =>
      simp at h
      subst h
      simp [flat, Quad.cells]
    | succ i =>
      have := ih i (by simpa using h)
      have e : flat (p :: qs) = p.a :: p.b :: p.c :: p.d :: flat qs := rfl
      rw [e, show (i + 1) * 4 = i * 4 + 1 + 1 + 1 + 1 from by omega]
      simpa using this
def u64ok (n : Nat) : Prop := n < 18446744073709551616
/-- A value in memory: its cells read as V, all blocks in S. -/
inductive VR (w : World) (S : Nat → Prop) : Quad → TV → Prop
  | mk {tag : Int} {n : Nat} {b : List UInt8} {l : List TV} {A2 A3 : Option Addr} {n2 c2 n3 c3 : Nat} {qs : List Quad} (hu : u64ok n) (hb : Bs w S A2 n2 c2 b) (h2 : n2 ≤ 1000000000)
      (hq : qs.length = l.length) (hl : l.length = n3) (hc : n3 ≤ c3) (h3 : n3 ≤ 1000000000) (hr : Reads w S 4 A3 n3 (flat qs)) (hv : ∀ (i : Nat) (q : Quad) (v : TV), qs[i]? = some q → l[i]? = some v → VR w S q v) :
      VR w S ⟨.int .i64 tag, .int .u64 (n : Int), .slice A2 n2 c2, .slice A3 n3 c3⟩ (.mk tag n b l)
/-- A list of values in memory. -/
structure LR (w : World) (S : Nat → Prop) (A : Option Addr) (n c : Nat) (l : List TV) : Prop where
  len : l.length = n
  cap : n ≤ c
  few : n ≤ 1000000000
  rd : ∃ qs : List Quad, qs.length = l.length ∧ Reads w S 4 A n (flat qs) ∧ ∀ (i : Nat) (q : Quad) (v : TV), qs[i]? = some q → l[i]? = some v → VR w S q v
section
variable {w w' : World} {S S' : Nat → Prop} {q : Quad} {v : TV}
theorem VR.keep (h : VR w S q v) (hk : ∀ p : Addr, S p.block → p.block < w.heap.size → w'.cell? p = w.cell? p) (hS : ∀ k, S k → k < w.heap.size → S' k) : VR w' S' q v := by
  induction h with
  | mk hu hb h2 hq hl hc h3 hr _ ih => exact VR.mk hu (hb.keep hk hS) h2 hq hl hc h3 (hr.keep (by omega) hk hS) ih
theorem VR.any (h : VR w S q v) : VR w AnyB q v := h.keep (fun _ _ _ => rfl) (fun _ _ _ => trivial)
theorem VR.old (h : VR w S q v) : VR w (Lo w.heap.size) q v := h.keep (fun _ _ _ => rfl) (fun _ _ h => h)
theorem VR.after (h : VR w S q v) (hb : Below w.heap.size w w') : VR w' S q v := h.keep (fun _ _ hp => hb.cell hp) (fun _ h _ => h)
theorem VR.lower {B : Nat} (h : VR w (Lo B) q v) (hb : Below B w w') : VR w' (Lo B) q v := h.keep (fun _ hp _ => hb.cell hp) (fun _ h _ => h)
theorem VR.oldS (h : VR w S q v) : VR w (fun k => S k ∧ k < w.heap.size) q v := h.keep (fun _ _ _ => rfl) (fun _ h h' => ⟨h, h'⟩)
theorem VR.under {B : Nat} (h : VR w S q v) (hS : ∀ k, S k → k < B) (hb : Below B w w') : VR w' S q v := h.keep (fun _ hp _ => hb.cell (hS _ hp)) (fun _ h _ => h)
theorem VR.drew (h : VR w S q v) : VR w.drew S q v := h.keep (fun _ _ _ => rfl) (fun _ h _ => h)
/-- A value, opened. -/
theorem VR.opens (h : VR w S q v) : ∃ (tag : Int) (n : Nat) (b : List UInt8) (l : List TV) (A2 A3 : Option Addr) (n2 c2 n3 c3 : Nat), q = ⟨.int .i64 tag, .int .u64 (n : Int), .slice A2 n2 c2, .slice A3 n3 c3⟩ ∧ v = .mk tag n b l ∧
    u64ok n ∧ Bs w S A2 n2 c2 b ∧ n2 ≤ 1000000000 ∧ LR w S A3 n3 c3 l := by
  cases h with
  | mk hu hb h2 hq hl hc h3 hr hv => exact ⟨_, _, _, _, _, _, _, _, _, _, rfl, rfl, hu, hb, h2, hl, hc, h3, _, hq, hr, hv⟩
theorem VR.shut {tag : Int} {n : Nat} {b : List UInt8} {l : List TV} {A2 A3 : Option Addr} {n2 c2 n3 c3 : Nat} (hu : u64ok n) (hb : Bs w S A2 n2 c2 b) (h2 : n2 ≤ 1000000000) (hl : LR w S A3 n3 c3 l) :
    VR w S ⟨.int .i64 tag, .int .u64 (n : Int), .slice A2 n2 c2, .slice A3 n3 c3⟩ (.mk tag n b l) := by
  obtain ⟨hln, hc, h3, qs, hq, hr, hv⟩ := hl
  exact VR.mk hu hb h2 hq hln hc h3 hr hv
theorem LR.keep {A : Option Addr} {n c : Nat} {l : List TV} (h : LR w S A n c l) (hk : ∀ p : Addr, S p.block → p.block < w.heap.size → w'.cell? p = w.cell? p) (hS : ∀ k, S k → k < w.heap.size → S' k) : LR w' S' A n c l := by
  obtain ⟨hl, hc, hf, qs, hq, hr, hv⟩ := h
  exact ⟨hl, hc, hf, qs, hq, hr.keep (by omega) hk hS, fun i q v h1 h2 => (hv i q v h1 h2).keep hk hS⟩
theorem LR.any {A : Option Addr} {n c : Nat} {l : List TV} (h : LR w S A n c l) : LR w AnyB A n c l := h.keep (fun _ _ _ => rfl) (fun _ _ _ => trivial)
theorem LR.old {A : Option Addr} {n c : Nat} {l : List TV} (h : LR w S A n c l) : LR w (Lo w.heap.size) A n c l := h.keep (fun _ _ _ => rfl) (fun _ _ h => h)
theorem LR.after {A : Option Addr} {n c : Nat} {l : List TV} (h : LR w S A n c l) (hb : Below w.heap.size w w') : LR w' S A n c l := h.keep (fun _ _ hp => hb.cell hp) (fun _ h _ => h)
theorem LR.oldS {A : Option Addr} {n c : Nat} {l : List TV} (h : LR w S A n c l) : LR w (fun k => S k ∧ k < w.heap.size) A n c l := h.keep (fun _ _ _ => rfl) (fun _ h h' => ⟨h, h'⟩)
theorem LR.under {A : Option Addr} {n c B : Nat} {l : List TV} (h : LR w S A n c l) (hS : ∀ k, S k → k < B) (hb : Below B w w') : LR w' S A n c l := h.keep (fun _ hp _ => hb.cell (hS _ hp)) (fun _ h _ => h)
theorem LR.drew {A : Option Addr} {n c : Nat} {l : List TV} (h : LR w S A n c l) : LR w.drew S A n c l := h.keep (fun _ _ _ => rfl) (fun _ h _ => h)
theorem LR.lower {B : Nat} {A : Option Addr} {n c : Nat} {l : List TV} (h : LR w (Lo B) A n c l) (hb : Below B w w') : LR w' (Lo B) A n c l := h.keep (fun _ hp _ => hb.cell hp) (fun _ h _ => h)
theorem LR.nil (w : World) (S : Nat → Prop) (c : Nat) : LR w S none 0 c [] := ⟨rfl, Nat.zero_le _, by omega, [], rfl, Reads.none_, fun i q v h _ => by simp at h⟩
theorem Bs.nil (w : World) (S : Nat → Prop) (c : Nat) : Bs w S none 0 c [] := ⟨rfl, Nat.zero_le _, Reads.none_⟩
/-- An element of a list: its four cells, and what they read as. -/
theorem LR.at_ {A : Option Addr} {n c : Nat} {l : List TV} (h : LR w S A n c l) {k : Nat} (hk : k < n) : ∃ ad x q v, A = some ad ∧ ad.add (k * 4) = x ∧ Hid (l[k]? = some v) ∧ VR w S q v ∧
    w.cell? x = some q.a ∧ w.cell? ⟨x.block, x.off + 1, none⟩ = some q.b ∧ w.cell? ⟨x.block, x.off + 2, none⟩ = some q.c ∧ w.cell? ⟨x.block, x.off + 3, none⟩ = some q.d ∧ S x.block ∧ x.block < w.heap.size := by
  obtain ⟨hl, hc, hf, qs, hq, hr, hv⟩ := h
  obtain ⟨ad, e, hS, hcell⟩ := hr.2 (by omega)
  have hkl : k < l.length := by omega
  have hkq : k < qs.length := by omega
  have h1 := flat_at qs k qs[k] (List.getElem?_eq_getElem hkq)
  have c0 := hcell _ _ h1.1
  have e1 : ∀ j, ad.add (k * 4 + (j + 1)) = ⟨(ad.add (k * 4)).block, (ad.add (k * 4)).off + (j + 1), none⟩ := fun j => by rw [← add_of_add, Addr.add_succ']
  refine ⟨ad, _, qs[k], l[k], e, rfl, List.getElem?_eq_getElem hkl, hv k _ _ (List.getElem?_eq_getElem hkq) (List.getElem?_eq_getElem hkl), c0, ?_, ?_, ?_, by rw [block_of_add]; exact hS, World.block_lt_of_cell? w _ c0⟩
  · rw [← e1 0]; exact hcell _ _ h1.2.1
  · rw [← e1 1]; exact hcell _ _ h1.2.2.1
  · rw [← e1 2]; exact hcell _ _ h1.2.2.2
end

/-- A box of four cells that the call has laid, behind a call that kept it. -/
theorem box4 {w w1 : World} {a b c d : Value} {t : TypeId} (hb : Below (w.heap.size + 1) (w.alloc (.cells #[a, b, c, d] t)) w1) :
    w1.cell? ⟨w.heap.size, 0, none⟩ = some a ∧ w1.cell? ⟨w.heap.size, 1, none⟩ = some b ∧ w1.cell? ⟨w.heap.size, 2, none⟩ = some c ∧ w1.cell? ⟨w.heap.size, 3, none⟩ = some d ∧
    w1.frozen? ⟨w.heap.size, 0, none⟩ = false ∧ w1.frozen? ⟨w.heap.size, 1, none⟩ = false ∧ w1.frozen? ⟨w.heap.size, 2, none⟩ = false ∧ w1.frozen? ⟨w.heap.size, 3, none⟩ = false ∧ w.heap.size < w1.heap.size :=
  ((Blk.new w t #[a, b, c, d]).below hb (by omega)).four
theorem set4_blk {w : World} {g : Nat} {t : TypeId} {a b c d : Value} (h : Blk w g t #[a, b, c, d]) (a' b' c' d' : Value) : Blk ((((w.setCell ⟨g, 0, none⟩ a').setCell ⟨g, 1, none⟩ b').setCell ⟨g, 2, none⟩ c').setCell ⟨g, 3, none⟩ d') g t #[a', b', c', d'] := by
  have := (((h.set_ 0 a').set_ 1 b').set_ 2 c').set_ 3 d'
  simpa using this
theorem set4_other (w : World) (g : Nat) (a b c d : Value) (p : Addr) (h : p.block ≠ g) : ((((w.setCell ⟨g, 0, none⟩ a).setCell ⟨g, 1, none⟩ b).setCell ⟨g, 2, none⟩ c).setCell ⟨g, 3, none⟩ d).cell? p = w.cell? p := by
  rw [World.cell?_setCell_other _ _ _ _ (fun e => h (by rw [← e])), World.cell?_setCell_other _ _ _ _ (fun e => h (by rw [← e])), World.cell?_setCell_other _ _ _ _ (fun e => h (by rw [← e])), World.cell?_setCell_other _ _ _ _ (fun e => h (by rw [← e]))]
theorem set4_below {B : Nat} {w0 w : World} (h : Below B w0 w) (g : Nat) (hg : B ≤ g) (a b c d : Value) : Below B w0 ((((w.setCell ⟨g, 0, none⟩ a).setCell ⟨g, 1, none⟩ b).setCell ⟨g, 2, none⟩ c).setCell ⟨g, 3, none⟩ d) :=
  (((h.setCell (p := ⟨g, 0, none⟩) hg a).setCell (p := ⟨g, 1, none⟩) hg b).setCell (p := ⟨g, 2, none⟩) hg c).setCell (p := ⟨g, 3, none⟩) hg d
theorem load27 {W : World} {g t : Nat} {a b c d : Value} (hB : Blk W g t #[a, b, c, d]) : (loadVar 27 ⟨g, 0, none⟩).run Try.prog W = .ok (.agg #[a, b, c, d]) W := by
  obtain ⟨z0, z1, z2, z3, -⟩ := hB.four
  simp [loadVar, go_sem, z0, z1, z2, z3]
theorem load33 {W : World} {g t : Nat} {a b c d : Value} (hB : Blk W g t #[a, b, c, d]) : (loadVar 33 ⟨g, 0, none⟩).run Try.prog W = .ok (.agg #[a, b, c, d]) W := by
  obtain ⟨z0, z1, z2, z3, -⟩ := hB.four
  simp [loadVar, go_sem, z0, z1, z2, z3]
section
variable {fn : Func} {i T j k : Nat} {W : World} {a : Addr} {v : Value} {tmps : Array Value} {P : Program}
theorem results_cell1 (h : fn.results = #[.cell i T]) (ht : tmps.getD i undef = .pointer (some a)) (hl : (loadVar T a).run P W = .ok v W) : (results fn tmps).run P W = .ok v W := by
  simp only [Array.getD_eq_getD_getElem?] at ht
  simp [results, h, ht, asAddr, hl]
theorem results_cell2 (h : fn.results = #[.cell i T, .tmp j]) (ht : tmps.getD i undef = .pointer (some a)) (hl : (loadVar T a).run P W = .ok v W) : (results fn tmps).run P W = .ok (.tuple #[v, tmps.getD j undef]) W := by
  simp only [Array.getD_eq_getD_getElem?] at ht
  simp [results, h, ht, asAddr, hl]
theorem results_cell3 (h : fn.results = #[.cell i T, .tmp j, .tmp k]) (ht : tmps.getD i undef = .pointer (some a)) (hl : (loadVar T a).run P W = .ok v W) : (results fn tmps).run P W = .ok (.tuple #[v, tmps.getD j undef, tmps.getD k undef]) W := by
  simp only [Array.getD_eq_getD_getElem?] at ht
  simp [results, h, ht, asAddr, hl]
end
theorem cell_after {w w' : World} (hb : Below w.drew.heap.size w.drew w') {p : Addr} {v : Value} (h : w.cell? p = some v) : w'.cell? p = some v :=
  (hb.cell (World.block_lt_of_cell? w p h)).trans h
/-- A list of values that the call itself lays: the row is its own (element type e), the values lie in T and not in that row. -/
structure LO (w : World) (T : Nat → Prop) (base : Nat) (e : TypeId) (v : Value) (n : Nat) (l : List TV) : Prop where
  len : l.length = n
  few : n ≤ 1000000000
  own : ∃ qs : List Quad, qs.length = l.length ∧ w.ownsRow base e 4 v n (flat qs) ∧ ∀ (i : Nat) (q : Quad) (x : TV), qs[i]? = some q → l[i]? = some x → VR w (fun k => T k ∧ some k ≠ v.ownBlock) q x
section
variable {w w' : World} {T : Nat → Prop} {base n : Nat} {e : TypeId} {v : Value} {l : List TV}
theorem LO.nil (w : World) (T : Nat → Prop) (base : Nat) (e : TypeId) : LO w T base e (.slice none 0 0) 0 [] := ⟨rfl, by omega, [], rfl, World.ownsRow_nil _ _ _ _, fun i q v h _ => by simp at h⟩
/-- What the call has laid is read. -/
theorem LO.reads {A : Option Addr} {c : Nat} (h : LO w T base e (.slice A n c) n l) : LR w (fun k => T k ∨ base ≤ k) A n c l := by
  obtain ⟨hl, hf, qs, hq, hown, hv⟩ := h
  have hc : n ≤ c := by
    obtain ⟨_, _, he, hc⟩ := own_shape hown
    cases he
    exact hc
  exact ⟨hl, hc, hf, qs, hq, (Reads.of_own hown).mono (fun _ h => .inr h), fun i q x h1 h2 => (hv i q x h1 h2).keep (fun _ _ _ => rfl) (fun _ h _ => .inl h.1)⟩
theorem LO.shape (h : LO w T base e v n l) : ∃ A c, v = .slice A n c ∧ n ≤ c := by
  obtain ⟨_, _, _, _, hown, _⟩ := h
  exact own_shape hown
/-- It is kept while nothing of the world turns. -/
theorem LO.after (h : LO w T base e v n l) (hb : Below w.heap.size w w') : LO w' T base e v n l := by
  obtain ⟨hl, hf, qs, hq, hown, hv⟩ := h
  exact ⟨hl, hf, qs, hq, own_below hown hb (Nat.le_refl _), fun i q x h1 h2 => (hv i q x h1 h2).after hb⟩
/-- It is kept while a cell is written that is none of its. -/
theorem LO.setCell (h : LO w T base e v n l) {p : Addr} (h1 : v.ownBlock ≠ some p.block) (h2 : ∀ k, T k → k ≠ p.block) (u : Value) : LO (w.setCell p u) T base e v n l := by
  obtain ⟨hl, hf, qs, hq, hown, hv⟩ := h
  refine ⟨hl, hf, qs, hq, hown.kept (row := some p.block) ⟨rfl, rfl, rfl, by simp, fun k _ hk => Below.heap_setCell _ _ _ _ (fun e => hk (by rw [e]))⟩ (.inr h1), fun i q x h3 h4 => (hv i q x h3 h4).keep (fun a ha _ => World.cell?_setCell_other _ _ _ _ (fun e => h2 _ ha.1 (by rw [← e]))) (fun _ h _ => h)⟩
/-- One value more. -/
theorem LO.snoc {v' : Value} {q : Quad} {x : TV} {qs : List Quad} (hq : qs.length = l.length) (hl : l.length = n) (hf : n + 1 ≤ 1000000000) (hown : w'.ownsRow base e 4 v' (n + 1) (flat qs ++ flat [q])) (hg : w.grownBy w' v.ownBlock)
    (hat : v'.ownBlock = v.ownBlock ∨ v'.ownBlock = some w.heap.size) (hv : ∀ (i : Nat) (q : Quad) (x : TV), qs[i]? = some q → l[i]? = some x → VR w (fun k => T k ∧ some k ≠ v.ownBlock) q x)
    (hx : VR w (fun k => T k ∧ some k ≠ v.ownBlock) q x) : LO w' T base e v' (n + 1) (l ++ [x]) := by
  have hkeep : ∀ {q : Quad} {x : TV}, VR w (fun k => T k ∧ some k ≠ v.ownBlock) q x → VR w' (fun k => T k ∧ some k ≠ v'.ownBlock) q x := fun h =>
    h.keep (fun p hp hlt => World.cell?_of_block (hg.block p.block hlt hp.2)) (fun k hk hlt => ⟨hk.1, by
      rcases hat with e | e
      · rw [e]; exact hk.2
      · rw [e]; intro h; injection h with h; omega⟩)
  refine ⟨by simp [hl], hf, qs ++ [q], by simp [hq], by rw [flat_append]; exact hown, fun i p y h1 h2 => ?_⟩
  rcases Nat.lt_trichotomy i qs.length with hi | hi | hi
  · rw [List.getElem?_append_left hi] at h1
    rw [List.getElem?_append_left (by omega)] at h2
    exact hkeep (hv i p y h1 h2)
  · subst hi
    rw [List.getElem?_append_right (Nat.le_refl _)] at h1
    rw [List.getElem?_append_right (by omega)] at h2
    simp at h1
    rw [hq, Nat.sub_self] at h2
    simp at h2
    subst h1
    subst h2
    exact hkeep hx
  · rw [List.getElem?_eq_none (by simp; omega)] at h1
    cases h1
end
/-- Ahead of 'l = append(l, x)': the list, the value and its copy in the variadic's own block. -/
theorem LO.ready {w w2 : World} {T S : Nat → Prop} {base n : Nat} {e e' : TypeId} {v : Value} {l : List TV} {q : Quad} {x : TV} (h : LO w T base e v n l) (hb : Below w.heap.size w w2) (hx : VR w2 S q x) (hS : ∀ k, S k → k < w2.heap.size → T k ∧ some k ≠ v.ownBlock) :
    ∃ qs : List Quad, qs.length = l.length ∧ (w2.alloc (.cells #[q.a, q.b, q.c, q.d] e')).ownsRow base e 4 v n (flat qs) ∧
      (∀ (i : Nat) (p : Quad) (y : TV), qs[i]? = some p → l[i]? = some y → VR (w2.alloc (.cells #[q.a, q.b, q.c, q.d] e')) (fun k => T k ∧ some k ≠ v.ownBlock) p y) ∧
      VR (w2.alloc (.cells #[q.a, q.b, q.c, q.d] e')) (fun k => T k ∧ some k ≠ v.ownBlock) q x ∧ Reads (w2.alloc (.cells #[q.a, q.b, q.c, q.d] e')) AnyB 4 (some ⟨w2.heap.size, 0, none⟩) 1 (flat [q]) := by
  have hb2 : Below w.heap.size w (w2.alloc (.cells #[q.a, q.b, q.c, q.d] e')) := hb.alloc hb.size _
  obtain ⟨hl, hf, qs, hq, hown, hv⟩ := h
  refine ⟨qs, hq, own_below hown hb2 (Nat.le_refl _), fun i p y h1 h2 => ?_, ?_, ?_⟩
  · exact ((hv i p y h1 h2).after (hb.alloc hb.size _))
  · exact hx.keep (fun p _ hlt => World.cell?_alloc_lt _ _ _ hlt) hS
  · refine ⟨rfl, fun _ => ⟨_, rfl, trivial, fun j u hu => ?_⟩⟩
    rw [add_plain, World.cell?_alloc_new]
    simpa [flat, Quad.cells] using hu
end Go.Proofs.Ytaebmhbggbpnoaa
