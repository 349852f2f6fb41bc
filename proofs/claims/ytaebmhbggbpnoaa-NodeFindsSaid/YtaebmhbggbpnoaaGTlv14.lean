/- The writer of forms in memory: the row that it lays, its frame, and the steps that keep it. Conditions: each theorem's premises. -/
import Derived.Test.YtaebmhbggbpnoaaGTlv12
import Derived.Laws.OwnMore
namespace Go.Proofs.Ytaebmhbggbpnoaa
open Go.RowKit
/-- The writer at block g holds a row of its own (type 5, base behind g) that reads pre; nothing else of what w0 held has turned, but for the row row0. -/
structure Wr (w0 : World) (row0 : Option Nat) (g base : Nat) (pre : List UInt8) (w : World) (A : Option Addr) (n c : Nat) : Prop where
  os : w.os = w0.os
  tape : w.tape = w0.tape
  output : w.output = w0.output
  size : w0.heap.size ≤ w.heap.size
  gb : g < base
  bw : base ≤ w0.heap.size
  blk : Blk w g 177 #[.slice A n c]
  own : w.ownsRow base 5 1 (.slice A n c) n (u8s pre)
  next : (Value.slice A n c).ownBlock = row0 ∨ ∃ j, (Value.slice A n c).ownBlock = some j ∧ w0.heap.size ≤ j
  block : ∀ k, k < w0.heap.size → k ≠ g → some k ≠ row0 → w.heap[k]? = w0.heap[k]?
section
variable {w0 w w1 : World} {row0 : Option Nat} {g base n c : Nat} {pre : List UInt8} {A : Option Addr}
theorem Wr.start (hb : Blk w g 177 #[.slice A n c]) (ho : w.ownsRow base 5 1 (.slice A n c) n (u8s pre)) (h1 : g < base) (h2 : base ≤ w.heap.size) : Wr w (Value.slice A n c).ownBlock g base pre w A n c :=
  ⟨rfl, rfl, rfl, Nat.le_refl _, h1, h2, hb, ho, .inl rfl, fun _ _ _ _ => rfl⟩
theorem Wr.drewN (h : Wr w0 row0 g base pre w A n c) (k : Nat) : Wr w0 row0 g base pre (w.drewN k) A n c := ⟨h.os, h.tape, h.output, h.size, h.gb, h.bw, h.blk, h.own, h.next, h.block⟩
theorem Wr.drew (h : Wr w0 row0 g base pre w A n c) : Wr w0 row0 g base pre w.drew A n c := ⟨h.os, h.tape, h.output, h.size, h.gb, h.bw, h.blk, h.own, h.next, h.block⟩
theorem Wr.row_lt (h : Wr w0 row0 g base pre w A n c) : ∀ k, (Value.slice A n c).ownBlock = some k → base ≤ k ∧ k < w.heap.size := h.own.lt
theorem Wr.below (h : Wr w0 row0 g base pre w A n c) (hb : Below w.heap.size w w1) : Wr w0 row0 g base pre w1 A n c :=
  ⟨hb.os.trans h.os, hb.tape.trans h.tape, hb.output.trans h.output, Nat.le_trans h.size hb.size, h.gb, h.bw, h.blk.after hb, own_below h.own hb (Nat.le_refl _), h.next, fun k h1 h2 h3 => (hb.block k (Nat.lt_of_lt_of_le h1 h.size)).trans (h.block k h1 h2 h3)⟩
theorem Wr.alloc (h : Wr w0 row0 g base pre w A n c) (o : Obj) : Wr w0 row0 g base pre (w.alloc o) A n c := h.below ((Below.refl _ _).alloc (Nat.le_refl _) _)
theorem Wr.trans {w2 : World} {A' : Option Addr} {n' c' : Nat} {pre' : List UInt8} (h : Wr w0 row0 g base pre w A n c) (k : Wr w (Value.slice A n c).ownBlock g base pre' w2 A' n' c') : Wr w0 row0 g base pre' w2 A' n' c' := by
  refine ⟨k.os.trans h.os, k.tape.trans h.tape, k.output.trans h.output, Nat.le_trans h.size k.size, h.gb, h.bw, k.blk, k.own, ?_, fun j h1 h2 h3 => (k.block j (Nat.lt_of_lt_of_le h1 h.size) h2 ?_).trans (h.block j h1 h2 h3)⟩
  · have hn := h.next
    have hs := h.size
    rcases k.next with e | ⟨j, e, hj⟩
    · rw [e]; exact hn
    · exact .inr ⟨j, e, by omega⟩
  · rcases h.next with e | ⟨i, e, hi⟩
    · rw [e]; exact h3
    · rw [e]; intro h; injection h with h; omega
/-- Behind 'w.b = append(w.b, ..)'. -/
theorem Wr.app {A' : Option Addr} {m c' : Nat} {ys : List UInt8} (h : Wr w0 row0 g base pre w A n c) (ho : w1.ownsRow base 5 1 (.slice A' (n + m) c') (n + m) (u8s (pre ++ ys))) (hg : w.grownBy w1 (Value.slice A n c).ownBlock)
    (hat : (Value.slice A' (n + m) c').ownBlock = (Value.slice A n c).ownBlock ∨ (Value.slice A' (n + m) c').ownBlock = some w.heap.size) : Wr w0 row0 g base (pre ++ ys) (w1.setCell ⟨g, 0, none⟩ (.slice A' (n + m) c')) A' (n + m) c' := by
  have hgne : some g ≠ (Value.slice A n c).ownBlock := fun e => by have := (h.row_lt g e.symm).1; have := h.gb; omega
  have hgne' : (Value.slice A' (n + m) c').ownBlock ≠ some g := fun e => by have := (ho.lt g e).1; have := h.gb; omega
  refine ⟨hg.os.trans h.os, hg.tape.trans h.tape, hg.output.trans h.output, Nat.le_trans h.size (by simpa using hg.size), h.gb, h.bw, ?_, ho.kept (row := some g) ⟨rfl, rfl, rfl, by simp, fun k _ hk => Below.heap_setCell _ _ _ _ (fun e => hk (by rw [e]))⟩ (.inr hgne'), ?_, fun k h1 h2 h3 => ?_⟩
  · exact (h.blk.grown hg hgne).set_ 0 _
  · rcases hat with e | e
    · rw [e]; exact h.next
    · exact .inr ⟨_, e, h.size⟩
  · have h4 : some k ≠ (Value.slice A n c).ownBlock := by
      rcases h.next with e | ⟨i, e, hi⟩
      · rw [e]; exact h3
      · rw [e]; intro h; injection h with h; omega
    rw [Below.heap_setCell _ _ _ _ h2, hg.block k (Nat.lt_of_lt_of_le h1 h.size) h4, h.block k h1 h2 h3]
/-- What lies ahead of the writer's block is kept. -/
theorem Wr.lo (h : Wr w0 row0 g base pre w A n c) (hr : ∀ k, row0 = some k → base ≤ k) : Below g w0 w :=
  ⟨h.os, h.tape, h.output, h.size, fun k hk => h.block k (by have := h.gb; have := h.bw; omega) (by omega) (fun e => by have := hr k e.symm; have := h.gb; omega)⟩
/-- A block of the frame's own is kept. -/
theorem Wr.keeps (h : Wr w0 row0 g base pre w A n c) {B : Nat} {t : TypeId} {cs : Array Value} (hB : Blk w0 B t cs) (h1 : B ≠ g) (h2 : some B ≠ row0) : Blk w B t cs := (h.block B hB.lt h1 h2).trans hB
/-- A byte of the row is written. -/
theorem Wr.stored {r : Nat} (h : Wr w0 row0 g base pre w (some ⟨r, 0, none⟩) n c) (j : Nat) (b : UInt8) : Wr w0 row0 g base (pre.set j b) (w.setCell ⟨r, j, none⟩ (.int .u8 (b.toNat : Int))) (some ⟨r, 0, none⟩) n c := by
  obtain ⟨ho, hg⟩ := h.own.stored j (.int .u8 (b.toNat : Int))
  have hrb := (h.row_lt r rfl).1
  have hgr : g ≠ r := by have := h.gb; omega
  refine ⟨hg.os.trans h.os, hg.tape.trans h.tape, hg.output.trans h.output, Nat.le_trans h.size (by simp), h.gb, h.bw, h.blk.far hgr _, ?_, h.next, fun k h1 h2 h3 => ?_⟩
  · have e : (u8s pre).set j (.int .u8 (b.toNat : Int)) = u8s (pre.set j b) := by simp [u8s, u8v, List.map_set]
    rw [← e]; exact ho
  · have h4 : k ≠ r := by
      rcases h.next with e | ⟨i, e, hi⟩
      · intro e'; exact h3 (by rw [← e, e']; rfl)
      · intro e'; injection e with e; simp at e; omega
    rw [Below.heap_setCell _ _ _ _ h4, h.block k h1 h2 h3]
end
end Go.Proofs.Ytaebmhbggbpnoaa
