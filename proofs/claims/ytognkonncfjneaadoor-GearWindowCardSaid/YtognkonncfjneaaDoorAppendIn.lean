/- The append of bytes to an own list, inside a fence. Conditions: the theorem's premises. -/
import Derived.Test.YtognkonncfjneaaDoorRange1
import Derived.Test.YtognkonncfjneaaDoorBase
import Derived.OwnWalkIn
namespace Go.Proofs.YtognkonncfjneaaDoor
open Go.RowKit
theorem wpListIn_append_u8 {F : Fence} {nn : Nat} {ops : Array Oper} {rest : List Oper} {o : Oper} {a : Act} {Q : Exit → Act → World → Prop} {w : World} (hgd : o.guard = none) (s x : Operand)
    (ho : o.op = .call { callee := .builtin .append, args := #[s, x], argTypes := #[23, 23] })
    {base : Nat} {v : Value} {n : Nat} {xs : List UInt8} (hs : a.eval s = v) (hown : w.ownsRow base 5 1 v n (u8s xs))
    {S : Nat → Prop} {A : Option Addr} {m c : Nat} {ys : List UInt8} (hx : a.eval x = .slice A m c) (hr : Bs w S A m c ys)
    (hbytes : n + m ≤ 140737488355328) (hbase : base ≤ w.heap.size)
    (h : ∀ v' w', w'.ownsRow base 5 1 v' (n + m) (u8s (xs ++ ys)) → w.grownBy w' v.ownBlock → (v'.ownBlock = v.ownBlock ∨ v'.ownBlock = some w.heap.size) → wpListIn F nn Tryd.prog ops Q rest (a.put o.dst v') w') : wpListIn F nn Tryd.prog ops Q (o :: rest) a w := by
  refine wpListIn_plain hgd fun K hK' => ?_
  obtain ⟨i0, hi0, hz0, hz1, hz2⟩ := info_parts Tryd.info5
  obtain ⟨v', w', hrun, r1, r2, r3⟩ := run_append_any (P := Tryd.prog) w base 23 o.type 5 i0 _ 1 1 Tryd.underlying23 hi0 hz0 hz1 hz2 rfl (by omega) v n (u8s xs) hown S A m c (u8s ys) hr.rd u8s_one (by simp only [maxLen]; omega) (by omega) hbase
  unfold Oper.wpIn
  refine ⟨?_, ?_⟩
  · simp [Oper.about, ho, resolve, Target.leads, Sem.run_pure]
  · rw [Oper.semAt_plain F _ _ (by rw [ho]; intro c hc'; cases hc')]
    simp [execOp, ho, resolve, invoke, builtin, hs, hx, hrun, Result.andThen]
    exact hK' _ _ (h v' w' (by rw [u8s_append]; exact r1) r2 r3)
end Go.Proofs.YtognkonncfjneaaDoor
