/- The walk of FrameBack, its first loop. Conditions: each theorem's premises. -/
import Derived.Test.YtaebmhbggbpnoaaGFrB2
namespace Go.Proofs.Ytaebmhbggbpnoaa
open Go.RowKit
theorem Try.info3 : (Try.prog.info? 3).map (fun i => (i.zero, i.size, i.bytes)) = some (some (.int .i64 0), 1, 8) := by kernel_rfl
/-- Three rows of the call's own, beside the table. -/
structure TR (w : World) (B0 g : Nat) (d : Int) (wr : World) (va ve vw : Value) (bl : List UInt8) (el : List Nat) (qs : List RV) : Prop where
  on : On w wr g d
  byt : wr.ownsRow B0 5 1 va bl.length (u8s bl)
  end_ : wr.ownsRow B0 3 1 ve el.length (ivs el)
  wnt : QO wr (Lo w.heap.size) B0 vw qs.length qs
  base : g < B0 ∧ B0 ≤ wr.heap.size
section
variable {w wr w' : World} {B0 g : Nat} {d d' : Int} {va ve vw va' ve' vw' : Value} {bl : List UInt8} {el : List Nat} {qs : List RV}
/-- A call that turns the table and nothing else of what stands. -/
theorem TR.turn (h : TR w B0 g d wr va ve vw bl el qs) (ht : Tbl w' g d') (hG : wr.grownBy w' (some g)) : TR w B0 g d' w' va ve vw bl el qs := by
  have hg0 := h.on.new
  have k1 : ∀ {e : TypeId} {size n : Nat} {v : Value} {xs : List Value}, wr.ownsRow B0 e size v n xs → w'.ownsRow B0 e size v n xs := fun ho => ho.kept hG (by
    rcases Classical.em (Value.ownBlock _ = none) with h1 | h1
    · exact .inl h1
    · exact .inr fun e => by have := own_base ho _ e; have := h.base.1; omega)
  exact ⟨h.on.step ht hG, k1 h.byt, k1 h.end_, ⟨h.wnt.len, k1 h.wnt.own, fun q hq => (h.wnt.vals q hq).keep (fun p hp _ => World.cell?_of_block (hG.block p.block (by have hp' : p.block < w.heap.size := hp; have := h.on.bel.size; omega) (fun e => by injection e with e; have hp' : p.block < w.heap.size := hp; omega))) (fun _ h _ => h)⟩, h.base.1, Nat.le_trans h.base.2 hG.size⟩
theorem TR.below (h : TR w B0 g d wr va ve vw bl el qs) (hb : Below wr.heap.size wr w') : TR w B0 g d w' va ve vw bl el qs :=
  ⟨h.on.below hb, own_below h.byt hb (Nat.le_refl _), own_below h.end_ hb (Nat.le_refl _), ⟨h.wnt.len, own_below h.wnt.own hb (Nat.le_refl _), fun q hq => (h.wnt.vals q hq).after hb⟩, h.base.1, Nat.le_trans h.base.2 hb.size⟩
/-- One of the rows grows. -/
theorem TR.onB (h : TR w B0 g d wr va ve vw bl el qs) (hb : Below B0 wr w') : On w w' g d ∧ (∀ q ∈ qs, Bs w' (Lo w.heap.size) q.A q.r.bs.length q.c q.r.bs) ∧ g < B0 ∧ B0 ≤ w'.heap.size := by
  have hw := h.on.bel.size
  have hn := h.on.new
  have h1 := h.base.1
  exact ⟨⟨h.on.bel.trans (hb.mono (by omega)), tblB h.on.tab hb h1, hn⟩, fun q hq => (h.wnt.vals q hq).below (hb.mono (by omega)), h1, Nat.le_trans h.base.2 hb.size⟩
theorem TR.growB {x : List UInt8} (h : TR w B0 g d wr va ve vw bl el qs) (hown : w'.ownsRow B0 5 1 va' (bl ++ x).length (u8s (bl ++ x))) (hg : wr.grownBy w' va.ownBlock) : TR w B0 g d w' va' ve vw (bl ++ x) el qs := by
  obtain ⟨h1, h2, h3⟩ := h.onB ((Below.refl B0 wr).grown hg h.base.2 (fun k e => own_base h.byt k e))
  exact ⟨h1, hown, h.end_.kept hg (own_apart h.end_ h.byt (by decide)), ⟨h.wnt.len, h.wnt.own.kept hg (own_apart h.wnt.own h.byt (by decide)), h2⟩, h3⟩
theorem TR.growE {x : Nat} (h : TR w B0 g d wr va ve vw bl el qs) (hown : w'.ownsRow B0 3 1 ve' (el.length + 1) (ivs el ++ [.int .i64 (x : Int)])) (hg : wr.grownBy w' ve.ownBlock) : TR w B0 g d w' va ve' vw bl (el ++ [x]) qs := by
  obtain ⟨h1, h2, h3⟩ := h.onB ((Below.refl B0 wr).grown hg h.base.2 (fun k e => own_base h.end_ k e))
  exact ⟨h1, h.byt.kept hg (own_apart h.byt h.end_ (by decide)), by simpa [ivs] using hown, ⟨h.wnt.len, h.wnt.own.kept hg (own_apart h.wnt.own h.end_ (by decide)), h2⟩, h3⟩
theorem TR.growW {q : RV} (h : TR w B0 g d wr va ve vw bl el qs) (hx : Bs w' (Lo w.heap.size) q.A q.r.bs.length q.c q.r.bs) (hown : w'.ownsRow B0 112 34 vw' (qs.length + 1) (flatV qs ++ q.cells)) (hg : wr.grownBy w' vw.ownBlock) : TR w B0 g d w' va ve vw' bl el (qs ++ [q]) := by
  obtain ⟨h1, h2, h3⟩ := h.onB ((Below.refl B0 wr).grown hg h.base.2 (fun k e => own_base h.wnt.own k e))
  refine ⟨h1, h.byt.kept hg (own_apart h.byt h.wnt.own (by decide)), h.end_.kept hg (own_apart h.end_ h.wnt.own (by decide)), ⟨rfl, by simpa [flatV] using hown, fun p hp => ?_⟩, h3⟩
  rcases List.mem_append.1 hp with hp | hp
  · exact h2 p hp
  · simp at hp; subst hp; exact hx
end
/-- What the first loop has built, behind i rounds. -/
def LSt (w : World) (B0 g : Nat) (wr : World) (va ve vw : Value) (i La m : Nat) : Prop :=
  ∃ d ws qs, TR w B0 g d wr va ve vw (flatR ws) (endsL ws) qs ∧ qs.map (·.r) = ws ∧ (∀ r ∈ ws, okR r) ∧ 0 ≤ d ∧ d ≤ 10000 * (i : Int) ∧ ws.length = m ∧ m ≤ i ∧ (flatR ws).length = La ∧ La ≤ 5056 * m
end Go.Proofs.Ytaebmhbggbpnoaa
