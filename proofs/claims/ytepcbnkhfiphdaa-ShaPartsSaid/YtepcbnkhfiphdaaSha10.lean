/- What turns in memory; streams in memory; the walks of Stream, Len, bytes.Clone (sha). Conditions: each theorem's premises. -/
import Derived.Test.YtepcbnkhfiphdaaSha9
namespace Go.Proofs.Ytepcbnkhfiphdaa
open Go.RowKit
/-- Of what lay there the blocks of X alone may have turned. -/
structure Only (X : Nat → Prop) (w w' : World) : Prop where
  os : w'.os = w.os
  tape : w'.tape = w.tape
  output : w'.output = w.output
  size : w.heap.size ≤ w'.heap.size
  block : ∀ k, k < w.heap.size → ¬ X k → w'.heap[k]? = w.heap[k]?
section
variable {X Y : Nat → Prop} {w w' w2 : World} {B : Nat}
theorem Only.refl (X : Nat → Prop) (w : World) : Only X w w := ⟨rfl, rfl, rfl, Nat.le_refl _, fun _ _ _ => rfl⟩
theorem Only.trans (h : Only X w w') (k : Only X w' w2) : Only X w w2 := ⟨k.os.trans h.os, k.tape.trans h.tape, k.output.trans h.output, Nat.le_trans h.size k.size, fun i hi hn => (k.block i (Nat.lt_of_lt_of_le hi h.size) hn).trans (h.block i hi hn)⟩
theorem Only.mono (h : Only X w w') (hX : ∀ k, k < w.heap.size → X k → Y k) : Only Y w w' := ⟨h.os, h.tape, h.output, h.size, fun i hi hn => h.block i hi (fun hx => hn (hX i hi hx))⟩
theorem Only.of_below (hb : Below B w w') (hB : ∀ k, k < w.heap.size → ¬ X k → k < B) : Only X w w' := ⟨hb.os, hb.tape, hb.output, hb.size, fun i hi hn => hb.block i (hB i hi hn)⟩
theorem Only.of_after (hb : Below w.heap.size w w') : Only X w w' := .of_below hb fun _ h _ => h
theorem Only.of_grown {row : Option Nat} (h : w.grownBy w' row) (hX : ∀ k, row = some k → X k) : Only X w w' := ⟨h.os, h.tape, h.output, h.size, fun i hi hn => h.block i hi (fun e => hn (hX i e.symm))⟩
theorem Only.drew (h : Only X w w') : Only X w w'.drew := ⟨h.os, h.tape, h.output, h.size, h.block⟩
theorem Only.drewN (h : Only X w w') (n : Nat) : Only X w (w'.drewN n) := ⟨h.os, h.tape, h.output, h.size, h.block⟩
theorem Only.alloc (h : Only X w w') (o : Obj) : Only X w (w'.alloc o) := h.trans (.of_after ((Below.refl _ _).alloc (Nat.le_refl _) _))
theorem Only.setCell (h : Only X w w') {p : Addr} (hp : X p.block ∨ w.heap.size ≤ p.block) (u : Value) : Only X w (w'.setCell p u) :=
  ⟨h.os, h.tape, h.output, by simpa [World.setCell] using h.size, fun i hi hn => (Below.heap_setCell w' p u i (by
    rintro rfl
    rcases hp with hp | hp
    · exact hn hp
    · omega)).trans (h.block i hi hn)⟩
/-- Only new blocks beside: what turns later and was not there ahead does not count. -/
theorem Only.then {Z : Nat → Prop} (h : Only X w w') (k : Only Z w' w2) (hZ : ∀ i, i < w.heap.size → Z i → X i) : Only X w w2 :=
  ⟨k.os.trans h.os, k.tape.trans h.tape, k.output.trans h.output, Nat.le_trans h.size k.size, fun i hi hn => (k.block i (Nat.lt_of_lt_of_le hi h.size) (fun hz => hn (hZ i hi hz))).trans (h.block i hi hn)⟩
theorem Only.below (h : Only X w w') (hB : B ≤ w.heap.size) (hX : ∀ k, X k → B ≤ k) : Below B w w' := ⟨h.os, h.tape, h.output, h.size, fun i hi => h.block i (by omega) (fun hx => by have := hX i hx; omega)⟩
theorem Only.cell (h : Only X w w') {p : Addr} (hp : p.block < w.heap.size) (hn : ¬ X p.block) : w'.cell? p = w.cell? p := World.cell?_of_block (h.block _ hp hn)
theorem Only.frozen (h : Only X w w') {p : Addr} (hp : p.block < w.heap.size) (hn : ¬ X p.block) : w'.frozen? p = w.frozen? p := World.frozen?_of_block (h.block _ hp hn)
theorem Blk.but {g t : Nat} {cs : Array Value} (h : Blk w g t cs) (ho : Only X w w') (hn : ¬ X g) : Blk w' g t cs := (ho.block g h.lt hn).trans h
theorem Bs.but {S : Nat → Prop} {A : Option Addr} {n c : Nat} {bs : List UInt8} (h : Bs w S A n c bs) (ho : Only X w w') (hS : ∀ k, S k → k < w.heap.size → ¬ X k) : Bs w' S A n c bs :=
  h.keep (fun _ hp hlt => ho.cell hlt (hS _ hp hlt)) (fun _ h _ => h)
theorem En.but {g o : Nat} {m nb : Int} {f : Nat → Nat} (h : En w g o m f nb) (ho : Only X w w') (hn : ¬ X g) : En w' g o m f nb :=
  h.keep (fun i => ho.cell (p := ⟨g, i, none⟩) h.lt hn) (fun i => ho.frozen (p := ⟨g, i, none⟩) h.lt hn)
theorem Eng.but {g : Nat} {nb : Int} (h : Eng w g nb) (ho : Only X w w') (hn : ¬ X g) : Eng w' g nb := by
  rcases h with h | ⟨f, h⟩
  · exact .inl (h.but ho hn)
  · exact .inr ⟨f, h.but ho hn⟩
theorem own_but {base n size : Nat} {e : TypeId} {v : Value} {xs : List Value} (h : w.ownsRow base e size v n xs) (ho : Only X w w') (hX : ∀ k, v.ownBlock = some k → ¬ X k) : w'.ownsRow base e size v n xs := by
  refine ⟨h.1, h.2.imp id ?_⟩
  rintro ⟨g, cap, cur, rfl, hg, hh, r⟩
  exact ⟨g, cap, cur, rfl, hg, (ho.block g (Array.getElem?_eq_some_iff.1 hh).1 (hX g rfl)).trans hh, r⟩
end
theorem own_bs' {w : World} {base n : Nat} {v : Value} {xs : List UInt8} (h : w.ownsRow base 5 1 v n (u8s xs)) : ∃ A c, v = .slice A n c ∧ Bs w (fun k => v.ownBlock = some k) A n c xs := by
  obtain ⟨A, c, rfl, hb⟩ := own_bs h
  refine ⟨A, c, rfl, hb.len, hb.cap, hb.rd.1, fun hn => ?_⟩
  obtain ⟨ad, rfl, _, hc⟩ := hb.rd.2 hn
  exact ⟨ad, rfl, rfl, hc⟩
/-! ### bytes.Clone -/
def CloneEnd (w : World) (n : Nat) (bs : List UInt8) (e : Ending) (w' : World) : Prop := ∃ A' c', e = .returned (.slice A' n c') ∧ w'.ownsRow w.heap.size 5 1 (.slice A' n c') n (u8s bs) ∧ Below w.heap.size w w'
theorem clone_any (w : World) (S : Nat → Prop) (A : Option Addr) (n c : Nat) (bs : List UInt8) (hx : Bs w S A n c bs) (hn : n ≤ 1000000000) : Calls Try.prog 30 #[.slice A n c] w (CloneEnd w n bs) := by
  have heq := eql_nil28
  rcases A with _ | ad
  · obtain ⟨rfl, rfl⟩ := hx.nil0
    go_enter Try.func30, Try.ntmps30
    go_wp2_with fail
    go_ret
    exact ⟨none, 0, rfl, World.ownsRow_nil _ _ _ _, Below.refl _ _⟩
  · have hX := hx.any.after ((Below.refl w.heap.size w).alloc (Nat.le_refl _) (.cells #[] 5))
    have HX := Lib.hid hX
    clear hx hX
    go_enter Try.func30, Try.ntmps30
    go_wp2_with (at_builtin; go_must ((refine wpList_append_u8 rfl (.tmp 5) (.tmp 6) rfl (base := w.heap.size) (v := .slice (some ⟨w.heap.size, 0, none⟩) 0 0) (n := 0) (xs := []) rfl (World.ownsRow_made w #[] 0 (Nat.le_refl _) (by simp [maxLen]) rfl) rfl HX.out (by omega) (by simp) ?_; intro v1 w1 hown hg hat; obtain ⟨A7, c7, rfl, _⟩ := own_shape hown)))
    simp only [Nat.zero_add, List.nil_append] at hown ⊢
    go_ret
    exact ⟨A7, c7, rfl, hown, (((Below.refl w.heap.size w).alloc (Nat.le_refl _) (.cells #[] 5)).trans ((Below.refl w.heap.size _).grown hg (by simp) (fun k e => by cases e; exact Nat.le_refl _)))⟩
/-! ### A stream -/
/-- A stream's cells. -/
def SC (g : Nat) (t : Sha.St) (lv : Value) (n : Int) : Array Value :=
  #[.pointer (some ⟨g, 0, none⟩), .int .u32 (t.a : Int), .int .u32 (t.b : Int), .int .u32 (t.c : Int), .int .u32 (t.d : Int), .int .u32 (t.e : Int), .int .u32 (t.f : Int), .int .u32 (t.g : Int), .int .u32 (t.h : Int), lv, .int .i64 n]
/-- A stream: all that was written, the rest of a block in a row of its own. -/
structure Sm (w : World) (s g : Nat) (lv : Value) (all : List UInt8) : Prop where
  bk : Blk w s 77 (SC g (Sha.comp (all.length / 64) Sha.H0 all) lv all.length)
  ow : w.ownsRow (s + 1) 5 1 lv (all.length % 64) (u8s (all.drop (64 * (all.length / 64))))
  lt : g < s
section
variable {w w' : World} {s g : Nat} {lv : Value} {all : List UInt8} {X : Nat → Prop}
theorem Sm.but (h : Sm w s g lv all) (ho : Only X w w') (h1 : ¬ X s) (h3 : ∀ k, lv.ownBlock = some k → ¬ X k) : Sm w' s g lv all :=
  ⟨h.bk.but ho h1, own_but h.ow ho h3, h.lt⟩
theorem Sm.after (h : Sm w s g lv all) (hb : Below w.heap.size w w') : Sm w' s g lv all :=
  h.but (X := fun k => w.heap.size ≤ k) (.of_below hb fun k hk _ => hk) (by have := h.bk.lt; omega) (fun k hk => by have := (h.ow.lt k hk).2; omega)
end
theorem SC.mid {W : World} {s g t' : Nat} {t : Sha.St} {lv : Value} {n : Int} (h : Blk W s t' (SC g t lv n)) : W.rangeAt s 1 (U32 t.list) := by
  intro j v hv
  have hj : j < 8 := (List.getElem?_eq_some_iff.1 hv).1
  rw [h.cell, ← hv]
  rcases j with _ | _ | _ | _ | _ | _ | _ | _ | j
  all_goals first | rfl | omega
theorem built77 (g : Nat) (t : Sha.St) : Try.prog.built 77 [(0, .pointer (some ⟨g, 0, none⟩)), (1, .agg (SV t))] = some (SC g t (.slice none 0 0) 0) := by kernel_rfl
set_option maxRecDepth 100000 in
theorem stream_any (w : World) (g : Nat) (nb : Int) (h : Eng w g nb) :
    Calls Try.prog 12 #[.pointer (some ⟨g, 0, none⟩)] w fun e w' => ∃ s, e = .returned (.pointer (some ⟨s, 0, none⟩)) ∧ w.heap.size ≤ s ∧ Sm w' s g (.slice none 0 0) [] ∧ En w' g 1 0 fillF nb ∧ w.grownBy w' (some g) := by
  have HC := Lib.hid (begin_any w g nb h)
  have hg := h.lt
  clear h
  go_enter Try.func12, Try.ntmps12
  go_wp2_with fail
  refine HC.out.mono ?_
  rintro e w1 ⟨rfl, hE, hG⟩
  have HE := Lib.hid hE
  have HG := Lib.hid hG
  clear hE hG
  go_wp2_with ((with_reducible show wpList Try.prog _ _ ({ dst := _, op := Op.build 77 _, type := _, pos := _, after := _, guard := none } :: _) _ _); refine wl_build rfl 77 _ rfl (cs := SC g Sha.H0 (.slice none 0 0) 0) (by simp [Act.eval]; exact built77 _ _) ?_)
  go_ret
  have hz := HG.out.size
  exact ⟨w1.heap.size, rfl, hz, ⟨Blk.new _ _ _, World.ownsRow_nil _ _ _ _, by omega⟩, HE.out.after ((Below.refl _ _).alloc (Nat.le_refl _) _), only_trans HG.out (only_of_below ((Below.refl _ _).alloc (Nat.le_refl _) _) _)⟩
theorem stream_nil (w : World) : Calls Try.prog 12 #[.pointer none] w fun e w' => e = .returned (.pointer none) ∧ w = w' := by
  go_enter Try.func12, Try.ntmps12
  go_wp2_with fail
  go_ret
  exact ⟨rfl, rfl⟩
theorem len_any (w : World) (s g : Nat) (lv : Value) (all : List UInt8) (h : Sm w s g lv all) : Calls Try.prog 14 #[.pointer (some ⟨s, 0, none⟩)] w fun e w' => e = .returned (.int .i64 (all.length : Int)) ∧ w = w' := by
  have c0 := h.bk.cell 0
  have c10 := h.bk.cell 10
  have c0' : w.cell? ⟨s, 0, none⟩ = some (.pointer (some ⟨g, 0, none⟩)) := c0
  have c10' : w.cell? ⟨s, 10, none⟩ = some (.int .i64 (all.length : Int)) := c10
  clear c0 c10 h
  go_enter Try.func14, Try.ntmps14
  go_wp2_with fail
  go_ret
  exact ⟨rfl, rfl⟩
theorem len_nil (w : World) : Calls Try.prog 14 #[.pointer none] w fun e w' => e = .returned (.int .i64 0) ∧ w = w' := by
  go_enter Try.func14, Try.ntmps14
  go_wp2_with fail
  go_ret
  exact ⟨rfl, rfl⟩
end Go.Proofs.Ytepcbnkhfiphdaa
