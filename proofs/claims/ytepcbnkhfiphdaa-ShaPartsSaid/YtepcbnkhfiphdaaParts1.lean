/- ShaParts: what its road keeps. Conditions: each theorem's premises. -/
import Derived.Test.YtepcbnkhfiphdaaApart1
import Derived.Test.YtepcbnkhfiphdaaRows2
namespace Go.Proofs.Ytepcbnkhfiphdaa
open Go.RowKit
/-- A stream, and all that was written in a row of one's own. -/
structure Pt (w wr : World) (g s bo L : Nat) (lvs lva : Value) (all : List UInt8) (nb : Int) : Prop where
  en : En wr g 1 0 fillF nb
  ss : Sm wr s g lvs all
  oo : wr.ownsRow bo 5 1 lva L (u8s all)
  bel : Below w.heap.size w wr
  lo : w.heap.size ≤ g
  so : s < bo
  s1 : ∀ k, lvs.ownBlock = some k → lva.ownBlock ≠ some k
  bz : bo ≤ wr.heap.size
section
variable {w wr w' : World} {g s bo L : Nat} {lvs lva : Value} {all bs : List UInt8} {nb : Int}
theorem Pt.len (h : Pt w wr g s bo L lvs lva all nb) : all.length = L := by have := h.oo.1; simp [u8s] at this; exact this
theorem Pt.after (h : Pt w wr g s bo L lvs lva all nb) (hb : Below wr.heap.size wr w') : Pt w w' g s bo L lvs lva all nb :=
  ⟨h.en.after hb, h.ss.after hb, own_but h.oo (Only.of_after (X := fun _ => False) hb) (fun _ _ e => e), h.bel.trans (hb.mono h.bel.size), h.lo, h.so, h.s1, Nat.le_trans h.bz hb.size⟩
theorem Pt.engine (h : Pt w wr g s bo L lvs lva all nb) {nb' : Int} (hE : En w' g 1 0 fillF nb') (hg : wr.grownBy w' (some g)) : Pt w w' g s bo L lvs lva all nb' := by
  have o1 : Only (fun j => j = g) wr w' := Only.of_grown hg (fun j e => by injection e with e; exact e.symm)
  have l1 := h.ss.lt
  have l2 := h.so
  refine ⟨hE, h.ss.but o1 (by omega) (fun k e he => ?_), own_but h.oo o1 (fun k e he => ?_), h.bel.trans (only_below hg h.lo h.bel.size), h.lo, h.so, h.s1, Nat.le_trans h.bz hg.size⟩
  · have := own_base h.ss.ow k e; omega
  · have := own_base h.oo k e; omega
/-- What was written is laid behind. -/
structure Pa (w wr : World) (g s bo L : Nat) (lvs lva : Value) (all new : List UInt8) (nb : Int) : Prop where
  en : En wr g 1 0 fillF nb
  ss : Sm wr s g lvs all
  oo : wr.ownsRow bo 5 1 lva L (u8s new)
  bel : Below w.heap.size w wr
  lo : w.heap.size ≤ g
  so : s < bo
  s1 : ∀ k, lvs.ownBlock = some k → lva.ownBlock ≠ some k
  bz : bo ≤ wr.heap.size
theorem Pt.app (h : Pt w wr g s bo L lvs lva all nb) {v : Value} {L' : Nat} {new : List UInt8} (ho : w'.ownsRow bo 5 1 v L' (u8s new)) (hg : wr.grownBy w' lva.ownBlock) (hv : v.ownBlock = lva.ownBlock ∨ v.ownBlock = some wr.heap.size) : Pa w w' g s bo L' lvs v all new nb := by
  have o1 : Only (fun j => lva.ownBlock = some j) wr w' := Only.of_grown hg (fun j e => e)
  have l1 := h.ss.lt
  have l2 := h.so
  have l3 := h.lo
  refine ⟨h.en.but o1 (fun e => ?_), h.ss.but o1 (fun e => ?_) (fun k hk e => h.s1 k hk e), ho, h.bel.trans (o1.below h.bel.size (fun k e => ?_)), h.lo, h.so, fun k hk e => ?_, Nat.le_trans h.bz hg.size⟩
  · have := own_base h.oo _ e; omega
  · have := own_base h.oo _ e; omega
  · have := own_base h.oo _ e; omega
  · rcases hv with hv | hv
    · exact h.s1 k hk (hv ▸ e)
    · rw [hv] at e
      injection e with e
      have := (h.ss.ow.lt k hk).2
      omega
theorem Pa.drew (h : Pa w wr g s bo L lvs lva all bs nb) : Pa w wr.drew g s bo L lvs lva all bs nb := ⟨h.en.drew, h.ss.after ((Below.refl _ _).drew), h.oo, h.bel.trans (((Below.refl _ _).drew).mono h.bel.size), h.lo, h.so, h.s1, h.bz⟩
theorem Pa.write {new : List UInt8} (h : Pa w wr g s bo L lvs lva all new nb) {e : Ending} (hw : WriteEnd wr s g nb lvs all bs e w') (hn : new = all ++ bs) :
    e = .returned (.int .i64 (bs.length : Int)) ∧ ∃ lvs', Pt w w' g s bo L lvs' lva new (nb + (((all.length + bs.length) / 64 - all.length / 64 : Nat) : Int)) := by
  obtain ⟨he, lv', hS, hE, ho, hf⟩ := hw
  have l1 := h.ss.lt
  have l2 := h.so
  have l3 := h.lo
  refine ⟨he, lv', hE, hn ▸ hS, own_but h.oo ho (fun k hk e => ?_), h.bel.trans (ho.below h.bel.size (fun k e => ?_)), h.lo, h.so, fun k hk e => ?_, Nat.le_trans h.bz ho.size⟩
  · have := own_base h.oo k hk
    rcases e with e | e | e
    · omega
    · omega
    · exact h.s1 k e hk
  · rcases e with e | e | e
    · omega
    · omega
    · have := own_base h.ss.ow k e; omega
  · have := hf k hk
    have := (h.oo.lt k e).2
    omega
theorem Pt.read (h : Pt w wr g s bo L lvs lva all nb) : ∃ A c, lva = .slice A L c ∧ Bs wr (fun j => bo ≤ j) A L c all := own_bs h.oo
end
theorem rsum_n (w : World) (S : Nat → Prop) (A : Option Addr) (n c : Nat) (bs : List UInt8) (hx : Bs w S A n c bs) (hn : n ≤ 1000000) :
    Calls Try.prog 10 #[.slice A n c] w fun e w' => e = .returned (.agg (NC (Sha.sum bs))) ∧ Below w.heap.size w w' := by
  obtain rfl := hx.len
  exact rsum_any w S A c bs hx hn
section
variable {ops : Array Oper} {rest : List Oper} {o : Oper} {a : Act} {Q : Exit → Act → World → Prop} {w : World}
theorem wl_notneN {nm : List UInt8} (hw : Region.wanted o (yielded ops a.tmps) = true) (x y : Operand) (t2 : TypeId) (ho : o.op = .binOp .neq 30 x y t2) (hx : a.eval x = .agg (NC nm)) (hy : a.eval y = .agg (NC nm)) (hn : nm.length = 32)
    (hk : wpList Try.prog ops Q rest (a.put o.dst (.bool false)) w) : wpList Try.prog ops Q (o :: rest) a w :=
  wl_neN hw x y t2 ho hx hy hn hn (by rw [decide_eq_true rfl]; exact hk)
end
end Go.Proofs.Ytepcbnkhfiphdaa
