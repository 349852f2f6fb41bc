/- What turns in memory, lists of chunks that the call lays itself, lists of chunks that are read. Conditions: each theorem's premises. -/
import Derived.Test.YtognkonncfjneaaDoorHash2
import Derived.Test.YtognkonncfjneaaDoorWrap
import Derived.Test.YtognkonncfjneaaDoorChSpec
import Derived.Deep.Matrix
namespace Go.Proofs.YtognkonncfjneaaDoor
open Go.RowKit
/-- Of what lay there the blocks of X alone may have turned. -/
structure Only (X : Nat → Prop) (w w' : World) : Prop where
  os : w'.os = w.os
  tape : w'.tape = w.tape
  output : w'.output = w.output
  size : w.heap.size ≤ w'.heap.size
  block : ∀ k, k < w.heap.size → ¬ X k → w'.heap[k]? = w.heap[k]?
section
variable {X Y : Nat → Prop} {w w' w2 : World} {B : Nat}
theorem Only.refl (X : Nat → Prop) (w : World) : Only X w w := ⟨rfl, rfl, rfl, Nat.le_refl _, fun _ _ _ => rfl⟩
theorem Only.trans (h : Only X w w') (k : Only X w' w2) : Only X w w2 := ⟨k.os.trans h.os, k.tape.trans h.tape, k.output.trans h.output, Nat.le_trans h.size k.size, fun i hi hn => (k.block i (Nat.lt_of_lt_of_le hi h.size) hn).trans (h.block i hi hn)⟩
theorem Only.mono (h : Only X w w') (hX : ∀ k, k < w.heap.size → X k → Y k) : Only Y w w' := ⟨h.os, h.tape, h.output, h.size, fun i hi hn => h.block i hi (fun hx => hn (hX i hi hx))⟩
theorem Only.of_below (hb : Below B w w') (hB : ∀ k, k < w.heap.size → ¬ X k → k < B) : Only X w w' := ⟨hb.os, hb.tape, hb.output, hb.size, fun i hi hn => hb.block i (hB i hi hn)⟩
theorem Only.of_after (hb : Below w.heap.size w w') : Only X w w' := .of_below hb fun _ h _ => h
theorem Only.of_grown {row : Option Nat} (h : w.grownBy w' row) (hX : ∀ k, row = some k → X k) : Only X w w' := ⟨h.os, h.tape, h.output, h.size, fun i hi hn => h.block i hi (fun e => hn (hX i e.symm))⟩
theorem Only.drew (h : Only X w w') : Only X w w'.drew := ⟨h.os, h.tape, h.output, h.size, h.block⟩
theorem Only.drewN (h : Only X w w') (n : Nat) : Only X w (w'.drewN n) := ⟨h.os, h.tape, h.output, h.size, h.block⟩
theorem Only.alloc (h : Only X w w') (o : Obj) : Only X w (w'.alloc o) := h.trans (.of_after ((Below.refl _ _).alloc (Nat.le_refl _) _))
theorem Only.setCell (h : Only X w w') {p : Addr} (hp : X p.block ∨ w.heap.size ≤ p.block) (u : Value) : Only X w (w'.setCell p u) :=
  ⟨h.os, h.tape, h.output, by simpa [World.setCell] using h.size, fun i hi hn => (Below.heap_setCell w' p u i (by
    rintro rfl
    rcases hp with hp | hp
    · exact hn hp
    · omega)).trans (h.block i hi hn)⟩
theorem Only.below (h : Only X w w') (hB : B ≤ w.heap.size) (hX : ∀ k, X k → B ≤ k) : Below B w w' := ⟨h.os, h.tape, h.output, h.size, fun i hi => h.block i (by omega) (fun hx => by have := hX i hx; omega)⟩
theorem Only.cell (h : Only X w w') {p : Addr} (hp : p.block < w.heap.size) (hn : ¬ X p.block) : w'.cell? p = w.cell? p := World.cell?_of_block (h.block _ hp hn)
theorem Only.frozen (h : Only X w w') {p : Addr} (hp : p.block < w.heap.size) (hn : ¬ X p.block) : w'.frozen? p = w.frozen? p := World.frozen?_of_block (h.block _ hp hn)
theorem Boxed.but {b t : Nat} {v : Value} (h : Boxed w b t v) (ho : Only X w w') (hn : ¬ X b) : Boxed w' b t v := (ho.block b h.lt hn).trans h
theorem Blk.but {g t : Nat} {cs : Array Value} (h : Blk w g t cs) (ho : Only X w w') (hn : ¬ X g) : Blk w' g t cs := (ho.block g h.lt hn).trans h
theorem Bs.but {S : Nat → Prop} {A : Option Addr} {n c : Nat} {bs : List UInt8} (h : Bs w S A n c bs) (ho : Only X w w') (hS : ∀ k, S k → k < w.heap.size → ¬ X k) : Bs w' S A n c bs :=
  h.keep (fun _ hp hlt => ho.cell hlt (hS _ hp hlt)) (fun _ h _ => h)
theorem Grl.but {g seed : Nat} (h : Grl w g seed) (ho : Only X w w') (hn : ¬ X g) : Grl w' g seed := by
  have hl := h.lt
  rcases h with h | ⟨f, h⟩
  · exact .inl (h.keep (fun i => ho.cell (p := ⟨g, i, none⟩) hl hn) (fun i => ho.frozen (p := ⟨g, i, none⟩) hl hn))
  · exact .inr ⟨f, h.keep (fun i => ho.cell (p := ⟨g, i, none⟩) hl hn) (fun i => ho.frozen (p := ⟨g, i, none⟩) hl hn)⟩
end
/-! ### A list of chunks that the call lays itself -/
theorem Tryd.info23 : (Tryd.prog.info? 23).map (fun i => (i.zero, i.size, i.bytes)) = some (some (.slice none 0 0), 1, 24) := by kernel_rfl
structure RL (w : World) (T : Nat → Prop) (base : Nat) (v : Value) (l : List (List UInt8)) : Prop where
  few : l.length ≤ 1000000000
  own : ∃ vs : List Value, vs.length = l.length ∧ w.ownsRow base 23 1 v l.length vs ∧ ∀ (i : Nat) (u : Value) (x : List UInt8), vs[i]? = some u → l[i]? = some x → ∃ A n c, u = .slice A n c ∧ Bs w (fun k => T k ∧ some k ≠ v.ownBlock) A n c x
/-- A list of chunks that is read. -/
structure RR (w : World) (S : Nat → Prop) (A : Option Addr) (n c : Nat) (l : List (List UInt8)) : Prop where
  len : l.length = n
  cap : n ≤ c
  at_ : ∀ k, k < n → ∃ ad A' n' c' x, A = some ad ∧ S ad.block ∧ Hid (l[k]? = some x) ∧ w.cell? (ad.add k) = some (.slice A' n' c') ∧ Bs w S A' n' c' x
section
variable {w w' : World} {T S S' : Nat → Prop} {base n c B : Nat} {A : Option Addr} {v : Value} {l : List (List UInt8)} {X : Nat → Prop}
theorem RR.keep (h : RR w S A n c l) (hk : ∀ p : Addr, S p.block → p.block < w.heap.size → w'.cell? p = w.cell? p) (hS : ∀ k, S k → k < w.heap.size → S' k) : RR w' S' A n c l :=
  ⟨h.len, h.cap, fun k hlt => by
    obtain ⟨ad, A', n', c', x, e, hs, hl, hc, hb⟩ := h.at_ k hlt
    have hz := World.block_lt_of_cell? w _ hc
    rw [block_of_add] at hz
    exact ⟨ad, A', n', c', x, e, hS _ hs hz, hl, (hk _ (by rw [block_of_add]; exact hs) (by rw [block_of_add]; exact hz)).trans hc, hb.keep hk hS⟩⟩
theorem RR.old (h : RR w S A n c l) : RR w (Lo w.heap.size) A n c l := h.keep (fun _ _ _ => rfl) (fun _ _ h => h)
theorem RR.oldS (h : RR w S A n c l) : RR w (fun k => S k ∧ k < w.heap.size) A n c l := h.keep (fun _ _ _ => rfl) (fun _ h h' => ⟨h, h'⟩)
theorem RR.below (h : RR w (Lo B) A n c l) (hb : Below B w w') : RR w' (Lo B) A n c l := h.keep (fun _ hp _ => hb.cell hp) (fun _ h _ => h)
theorem RR.after (h : RR w S A n c l) (hb : Below w.heap.size w w') : RR w' S A n c l := h.keep (fun _ _ hp => hb.cell hp) (fun _ h _ => h)
theorem RR.but (h : RR w S A n c l) (ho : Only X w w') (hS : ∀ k, S k → k < w.heap.size → ¬ X k) : RR w' S A n c l := h.keep (fun _ hp hlt => ho.cell hlt (hS _ hp hlt)) (fun _ h _ => h)
theorem RL.nil (w : World) (T : Nat → Prop) (base : Nat) : RL w T base (.slice none 0 0) [] := ⟨by simp, [], rfl, World.ownsRow_nil _ _ _ _, fun i u x h _ => by simp at h⟩
theorem RL.shape (h : RL w T base v l) : ∃ A c, v = .slice A l.length c ∧ l.length ≤ c := by
  obtain ⟨_, _, _, hown, _⟩ := h
  exact own_shape hown
/-- What the call has laid is read. -/
theorem RL.reads (h : RL w T base (.slice A n c) l) : RR w (fun k => T k ∨ base ≤ k) A n c l := by
  obtain ⟨_, vs, hq, hown, hv⟩ := h
  obtain ⟨A', c', he, hc⟩ := own_shape hown
  injection he with e1 e2 e3
  subst e1 e2 e3
  have hr := Reads.of_own hown
  refine ⟨rfl, hc, fun k hk => ?_⟩
  obtain ⟨ad, ea, hb, hcell⟩ := hr.2 (by omega)
  have hu : vs[k]? = some vs[k] := List.getElem?_eq_getElem (by omega)
  have hx : l[k]? = some l[k] := List.getElem?_eq_getElem hk
  obtain ⟨A', n', c', e', hbs⟩ := hv k _ _ hu hx
  exact ⟨ad, A', n', c', _, ea, .inr hb, Lib.hid hx, by rw [hcell k _ hu, e'], hbs.keep (fun _ _ _ => rfl) (fun _ h _ => .inl h.1)⟩
theorem RL.after (h : RL w T base v l) (hb : Below w.heap.size w w') : RL w' T base v l := by
  obtain ⟨hf, vs, hq, hown, hv⟩ := h
  refine ⟨hf, vs, hq, own_below hown hb (Nat.le_refl _), fun i u x h1 h2 => ?_⟩
  obtain ⟨A', n', c', e', hbs⟩ := hv i u x h1 h2
  exact ⟨A', n', c', e', hbs.after hb⟩
theorem RL.but (h : RL w T base v l) (ho : Only X w w') (h1 : ∀ k, base ≤ k → k < w.heap.size → ¬ X k) (h2 : ∀ k, T k → k < w.heap.size → ¬ X k) : RL w' T base v l := by
  obtain ⟨hf, vs, hq, hown, hv⟩ := h
  have hown' : w'.ownsRow base 23 1 v l.length vs := by
    refine ⟨hown.1, hown.2.imp id ?_⟩
    rintro ⟨g, cap, cur, rfl, hg, hh, r⟩
    exact ⟨g, cap, cur, rfl, hg, (ho.block g (Array.getElem?_eq_some_iff.1 hh).1 (h1 g hg (Array.getElem?_eq_some_iff.1 hh).1)).trans hh, r⟩
  refine ⟨hf, vs, hq, hown', fun i u x h3 h4 => ?_⟩
  obtain ⟨A', n', c', e', hbs⟩ := hv i u x h3 h4
  exact ⟨A', n', c', e', hbs.but ho (fun k hk hlt => h2 k hk.1 hlt)⟩
/-- One chunk more: behind the append. -/
theorem RL.snoc {w2 : World} {v' : Value} {u : Value} {x : List UInt8} {vs : List Value} {A' : Option Addr} {n' c' : Nat} (hq : vs.length = l.length) (hf : l.length + 1 ≤ 1000000000) (hown : w2.ownsRow base 23 1 v' (l.length + 1) (vs ++ [u])) (hg : w.grownBy w2 v.ownBlock)
    (hat : v'.ownBlock = v.ownBlock ∨ v'.ownBlock = some w.heap.size) (hv : ∀ (i : Nat) (u : Value) (x : List UInt8), vs[i]? = some u → l[i]? = some x → ∃ A n c, u = .slice A n c ∧ Bs w (fun k => T k ∧ some k ≠ v.ownBlock) A n c x)
    (hu : u = .slice A' n' c') (hx : Bs w (fun k => T k ∧ some k ≠ v.ownBlock) A' n' c' x) : RL w2 T base v' (l ++ [x]) := by
  have hkeep : ∀ {A n c} {x : List UInt8}, Bs w (fun k => T k ∧ some k ≠ v.ownBlock) A n c x → Bs w2 (fun k => T k ∧ some k ≠ v'.ownBlock) A n c x := fun h =>
    h.keep (fun p hp hlt => World.cell?_of_block (hg.block p.block hlt hp.2)) (fun k hk hlt => ⟨hk.1, by
      rcases hat with e | e
      · rw [e]; exact hk.2
      · rw [e]; intro h; injection h with h; omega⟩)
  refine ⟨by simp; omega, vs ++ [u], by simp [hq], by rw [List.length_append]; exact hown, fun i p y h1 h2 => ?_⟩
  rcases Nat.lt_trichotomy i vs.length with hi | hi | hi
  · rw [List.getElem?_append_left hi] at h1
    rw [List.getElem?_append_left (by omega)] at h2
    obtain ⟨A, n, c, e, hb⟩ := hv i p y h1 h2
    exact ⟨A, n, c, e, hkeep hb⟩
  · subst hi
    rw [List.getElem?_append_right (Nat.le_refl _)] at h1
    rw [List.getElem?_append_right (by omega)] at h2
    simp at h1
    rw [hq, Nat.sub_self] at h2
    simp at h2
    subst h1 h2
    exact ⟨A', n', c', hu, hkeep hx⟩
  · rw [List.getElem?_eq_none (by simp; omega)] at h1
    cases h1
/-- Ahead of the append, as the walk meets it: a chunk's slice in a block of its own. -/
theorem RL.ready {w2 : World} {e' : TypeId} {x : List UInt8} {A' : Option Addr} {n' c' : Nat} (h : RL w T base v l) (hb : Below w.heap.size w w2) (hx : Bs w2 S A' n' c' x) (hS : ∀ k, S k → k < w2.heap.size → T k ∧ some k ≠ v.ownBlock) :
    ∃ vs : List Value, vs.length = l.length ∧ (w2.alloc (.cells #[.slice A' n' c'] e')).ownsRow base 23 1 v l.length vs ∧
      (∀ (i : Nat) (u : Value) (x : List UInt8), vs[i]? = some u → l[i]? = some x → ∃ A n c, u = .slice A n c ∧ Bs (w2.alloc (.cells #[.slice A' n' c'] e')) (fun k => T k ∧ some k ≠ v.ownBlock) A n c x) ∧
      Bs (w2.alloc (.cells #[.slice A' n' c'] e')) (fun k => T k ∧ some k ≠ v.ownBlock) A' n' c' x ∧ Reads (w2.alloc (.cells #[.slice A' n' c'] e')) AnyB 1 (some ⟨w2.heap.size, 0, none⟩) 1 [.slice A' n' c'] := by
  have hb2 : Below w.heap.size w (w2.alloc (.cells #[.slice A' n' c'] e')) := hb.alloc hb.size _
  obtain ⟨hf, vs, hq, hown, hv⟩ := h
  refine ⟨vs, hq, own_below hown hb2 (Nat.le_refl _), fun i p y h1 h2 => ?_, ?_, ?_⟩
  · obtain ⟨A, n, c, e, hbs⟩ := hv i p y h1 h2
    exact ⟨A, n, c, e, hbs.after hb2⟩
  · exact hx.keep (fun p _ hlt => World.cell?_alloc_lt _ _ _ hlt) hS
  · refine ⟨rfl, fun _ => ⟨_, rfl, trivial, fun j u hu => ?_⟩⟩
    rw [add_plain, World.cell?_alloc_new]
    simpa using hu
end
/-- The append of one chunk. -/
theorem wpList_append_row {ops : Array Oper} {rest : List Oper} {o : Oper} {a : Act} {Q : Exit → Act → World → Prop} {w : World} (hgd : o.guard = none) (s x : Operand)
    (ho : o.op = .call { callee := .builtin .append, args := #[s, x], argTypes := #[42, 42] })
    {base : Nat} {v : Value} {n : Nat} {xs : List Value} (hs : a.eval s = v) (hown : w.ownsRow base 23 1 v n xs)
    {S : Nat → Prop} {A A' : Option Addr} {m c n' c' : Nat} (hx : a.eval x = .slice A m c) (hr : Reads w S 1 A m [.slice A' n' c'])
    (hbytes : n + m ≤ 2000000000) (hbase : base ≤ w.heap.size)
    (h : ∀ v' w', w'.ownsRow base 23 1 v' (n + m) (xs ++ [.slice A' n' c']) → w.grownBy w' v.ownBlock → (v'.ownBlock = v.ownBlock ∨ v'.ownBlock = some w.heap.size) → wpList Tryd.prog ops Q rest (a.put o.dst v') w') : wpList Tryd.prog ops Q (o :: rest) a w := by
  obtain ⟨i0, hi0, hz0, hz1, hz2⟩ := info_parts Tryd.info23
  exact wpList_append_any w hgd s x 42 ho base 23 i0 _ 1 24 Tryd.underlying42 hi0 hz0 hz1 hz2 rfl (by omega) v n xs hs hown S A m c _ hx hr (by intro u hu; simp at hu; subst hu; rfl) (by simp only [maxLen]; omega) (by omega) hbase h
end Go.Proofs.YtognkonncfjneaaDoor
