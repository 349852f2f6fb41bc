/- The lists that FrameBack builds: in memory. Conditions: each theorem's premises. -/
import Derived.Test.YtaebmhbggbpnoaaGFrB1
import Derived.Test.YtaebmhbggbpnoaaGFrS4
namespace Go.Proofs.Ytaebmhbggbpnoaa
open Go.RowKit
theorem run_loadVar_at (w : World) (p : Addr) (ty : TypeId) (cs : List Value) (d : TypeDesc) (hc : ∀ j v, cs[j]? = some v → w.cell? (p.add j) = some v)
    (hu : Try.prog.underlying ty = some d) (hd : d.isRow = true) (hi : (Try.prog.info? ty).map (·.size) = some cs.length) :
    (loadVar ty p).run Try.prog w = .ok (.agg cs.toArray) w := by
  have hl : (loadCells p cs.length).run Try.prog w = .ok cs.toArray w := run_loadCells_list (P := Try.prog) w p cs hc
  cases hq : Try.prog.info? ty with
  | none => simp [hq] at hi
  | some i =>
    have hs : i.size = cs.length := by simpa [hq] using hi
    have hagg : (isAgg ty).run Try.prog w = .ok true w := by
      unfold isAgg
      rw [Sem.run_bind, run_underlying hu w]
      cases d <;> simp_all
    simp [loadVar, Sem.run_bind, hagg, sizeOf, typeInfo, hq, hs, hl]
section
variable {ops : Array Oper} {rest : List Oper} {o : Oper} {a : Act} {Q : Exit → Act → World → Prop} {w : World}
/-- A record is loaded from wherever its cells are known. -/
theorem wl_at (hw : Region.wanted o (yielded ops a.tmps) = true) (x : Operand) (ty : TypeId) (ho : o.op = .load ty x) (hty : ty = 109 ∨ ty = 112) {p : Addr} (hx : a.eval x = .pointer (some p)) {k : Int} {nm : List UInt8} {b : Value} (h : ∀ j v, (RC k nm b)[j]? = some v → w.cell? (p.add j) = some v) (hn : nm.length = 32)
    (hk : wpList Try.prog ops Q rest (a.put o.dst (.agg (RC k nm b))) w) : wpList Try.prog ops Q (o :: rest) a w := by
  have hl : (loadVar ty p).run Try.prog w = .ok (.agg (RC k nm b)) w := by
    rcases hty with rfl | rfl
    · have := run_loadVar_at w p 109 (RC k nm b).toList _ (fun j v hv => h j v (by simpa using hv)) Try.underlying109 rfl (by rw [size109]; simp [RC.size hn])
      simpa using this
    · have := run_loadVar_at w p 112 (RC k nm b).toList _ (fun j v hv => h j v (by simpa using hv)) Try.underlying112 rfl (by rw [size112]; simp [RC.size hn])
      simpa using this
  refine BigFrame.wpList_want hw fun _ hK => ?_
  unfold Oper.wp execOp
  simp only [ho, hx, Instr.loadAt, Instr.sureAddr, Sem.run_bind, Sem.run_pure, Result.andThen_ok, hl]
  exact hK _ _ hk
end
/-- An element of a list of records that is being built. -/
structure RV where
  r : Rd
  A : Option Addr
  c : Nat
def RV.cells (q : RV) : List Value := (RC q.r.k q.r.nm (.slice q.A q.r.bs.length q.c)).toList
def flatV (qs : List RV) : List Value := qs.flatMap RV.cells
theorem RV.cells_len (q : RV) : q.cells.length = 34 := by
  have := RC.size (k := q.r.k) (b := .slice q.A q.r.bs.length q.c) q.r.hn
  simpa [RV.cells] using this
theorem flatV_at : ∀ {qs : List RV} {i : Nat} {q : RV}, qs[i]? = some q → ∀ {j : Nat} {v : Value}, (RC q.r.k q.r.nm (.slice q.A q.r.bs.length q.c))[j]? = some v → (flatV qs)[i * 34 + j]? = some v
  | [], i, q, h, _, _, _ => by simp at h
  | p :: qs, 0, q, h, j, v, hv => by
    simp at h
    subst h
    have hj : j < (RV.cells p).length := by
      have := (Array.getElem?_eq_some_iff.1 hv).1
      simpa [RV.cells] using this
    simp only [flatV, List.flatMap_cons, Nat.zero_mul, Nat.zero_add]
    rw [List.getElem?_append_left hj]
    simpa [RV.cells] using hv
  | p :: qs, i + 1, q, h, j, v, hv => by
    have ih := flatV_at (qs := qs) (i := i) (q := q) (by simpa using h) hv
    simp only [flatV, List.flatMap_cons]
    rw [List.getElem?_append_right (by rw [p.cells_len]; omega), p.cells_len, show (i + 1) * 34 + j - 34 = i * 34 + j by omega]
    exact ih
/-- A list of records that the call itself lays; the bodies lie in T. -/
structure QO (w : World) (T : Nat → Prop) (base : Nat) (v : Value) (n : Nat) (qs : List RV) : Prop where
  len : qs.length = n
  own : w.ownsRow base 112 34 v n (flatV qs)
  vals : ∀ q ∈ qs, Bs w T q.A q.r.bs.length q.c q.r.bs
theorem QO.nil (w : World) (T : Nat → Prop) (base : Nat) : QO w T base (.slice none 0 0) 0 [] := ⟨rfl, World.ownsRow_nil _ _ _ _, fun _ h => by simp at h⟩
/-- The ends of frames one behind the other. -/
def endsL (ws : List Rd) : List Nat := (List.range ws.length).map fun i => (flatR (ws.take (i + 1))).length
theorem endsL_snoc (ws : List Rd) (r : Rd) : endsL (ws ++ [r]) = endsL ws ++ [(flatR (ws ++ [r])).length] := by
  unfold endsL
  rw [List.length_append, List.length_cons, List.length_nil, List.range_succ, List.map_append]
  congr 1
  · apply List.map_congr_left
    intro i hi
    rw [List.mem_range] at hi
    rw [List.take_append_of_le_length (by omega)]
  · simp only [List.map_cons, List.map_nil]
    rw [List.take_of_length_le (by simp)]
theorem endsL_at {ws : List Rd} {i : Nat} (h : i < ws.length) : (endsL ws)[i]? = some (flatR (ws.take (i + 1))).length := by
  unfold endsL
  rw [List.getElem?_map, List.getElem?_range h]
  rfl
def ivs (l : List Nat) : List Value := l.map fun (x : Nat) => Value.int .i64 (x : Int)
/-- What the first loop has built. -/
structure BSt (w : World) (B0 g : Nat) (d : Int) (wr : World) (va ve vw : Value) (ws : List Rd) (qs : List RV) : Prop where
  on : On w wr g d
  byt : wr.ownsRow B0 5 1 va (flatR ws).length (u8s (flatR ws))
  end_ : wr.ownsRow B0 3 1 ve ws.length (ivs (endsL ws))
  wnt : QO wr (Lo w.heap.size) B0 vw ws.length qs
  qws : qs.map (·.r) = ws
  ok : ∀ r ∈ ws, okR r
  base : g < B0 ∧ B0 ≤ wr.heap.size
theorem own_elem {w : World} {base : Nat} {e : TypeId} {size n b : Nat} {v : Value} {xs : List Value} (h : w.ownsRow base e size v n xs) (hb : v.ownBlock = some b) : ∃ cs, w.heap[b]? = some (.cells cs e (0, 0)) := by
  rcases h.2 with ⟨rfl, -⟩ | ⟨g, cap, cur, rfl, h1, h2, -⟩
  · cases hb
  · injection hb with hb
    subst hb
    exact ⟨_, h2⟩
/-- Rows of elements of two types lie apart. -/
theorem own_apart {w : World} {base base' : Nat} {e e' : TypeId} {size size' n n' : Nat} {v v' : Value} {xs xs' : List Value} (h : w.ownsRow base e size v n xs) (h' : w.ownsRow base' e' size' v' n' xs') (he : e ≠ e') : v.ownBlock = none ∨ v.ownBlock ≠ v'.ownBlock := by
  cases hb : v.ownBlock with
  | none => exact .inl rfl
  | some b =>
    refine .inr fun h2 => ?_
    obtain ⟨cs, h3⟩ := own_elem h hb
    obtain ⟨cs', h4⟩ := own_elem h' h2.symm
    rw [h3] at h4
    injection h4 with h4
    injection h4 with h5 h6
    exact he h6
end Go.Proofs.Ytaebmhbggbpnoaa
