/- What the laws on hashes share: two hashes compared, a hash loaded in a region that draws its order. Conditions: each theorem's premises. -/
import Derived.Test.YtepcbnkhfiphdaaSha20
import Derived.Laws.StructEq
import Derived.Stop.BytesEq
import Derived.OrdersHeld
import Derived.Deep.RegionHeld
import Derived.Deep.WholeRow
namespace Go.Proofs.Ytepcbnkhfiphdaa
open Go.RowKit
theorem run_loadVar_at (w : World) (p : Addr) (ty : TypeId) (cs : List Value) (d : TypeDesc) (hc : ∀ j v, cs[j]? = some v → w.cell? (p.add j) = some v)
    (hu : Try.prog.underlying ty = some d) (hd : d.isRow = true) (hi : (Try.prog.info? ty).map (·.size) = some cs.length) :
    (loadVar ty p).run Try.prog w = .ok (.agg cs.toArray) w := by
  have hl : (loadCells p cs.length).run Try.prog w = .ok cs.toArray w := run_loadCells_list (P := Try.prog) w p cs hc
  cases hq : Try.prog.info? ty with
  | none => simp [hq] at hi
  | some i =>
    have hs : i.size = cs.length := by simpa [hq] using hi
    have hagg : (isAgg ty).run Try.prog w = .ok true w := by
      unfold isAgg
      rw [Sem.run_bind, run_underlying hu w]
      cases d <;> simp_all
    simp [loadVar, Sem.run_bind, hagg, sizeOf, typeInfo, hq, hs, hl]
theorem equal_nc (w : World) (a b : List UInt8) (ha : a.length = 32) (hb : b.length = 32) : (Op.equalIn 10000 30 (.agg (NC a)) (.agg (NC b))).run Try.prog w = .ok (decide (a = b)) w := by
  obtain ⟨i0, hi0, hz0, hz1, hz2⟩ := info_parts Try.info5
  have h := run_equalIn_bytes (P := Try.prog) w 9998 30 5 32 Try.underlying30 Try.underlying5 (fun w => by simp [sizeOf, typeInfo, hi0, hz1]) a b ha hb
  rw [show (a == b) = decide (a = b) by rw [Bool.eq_iff_iff]; simp] at h
  exact h
theorem guard_nc (w : World) (op : BinOp) (x y : Operand) (a b : List UInt8) : (eqGuard op 30 x y (.agg (NC a)) (.agg (NC b))).run Try.prog w = .ok () w := run_eqGuard_agg w op 30 x y _ _ (by kernel_rfl)
theorem eql_nc (w : World) (a b : List UInt8) (ha : a.length = 32) (hb : b.length = 32) : (binOp .eql 30 (.agg (NC a)) (.agg (NC b))).run Try.prog w = .ok (.bool (decide (a = b))) w := by
  rw [run_eql_struct, equal_nc w a b ha hb]; rfl
theorem neq_nc (w : World) (a b : List UInt8) (ha : a.length = 32) (hb : b.length = 32) : (binOp .neq 30 (.agg (NC a)) (.agg (NC b))).run Try.prog w = .ok (.bool (!decide (a = b))) w := by
  rw [run_neq_struct, equal_nc w a b ha hb]; rfl
section
variable {ops : Array Oper} {rest : List Oper} {o : Oper} {a : Act} {Q : Exit → Act → World → Prop} {w : World} {S : World → Prop} {nm nm' : List UInt8}
theorem wl_eqN (hw : Region.wanted o (yielded ops a.tmps) = true) (x y : Operand) (t2 : TypeId) (ho : o.op = .binOp .eql 30 x y t2) (hx : a.eval x = .agg (NC nm)) (hy : a.eval y = .agg (NC nm')) (hn : nm.length = 32) (hn' : nm'.length = 32)
    (hk : wpList Try.prog ops Q rest (a.put o.dst (.bool (decide (nm = nm')))) w) : wpList Try.prog ops Q (o :: rest) a w := by
  refine BigFrame.wpList_want hw fun _ hK => ?_
  unfold Oper.wp execOp
  simp only [ho, hx, hy, Sem.run_bind, guard_nc, eql_nc _ _ _ hn hn', Result.andThen_ok, Sem.run_pure]
  exact hK _ _ hk
theorem wl_neN (hw : Region.wanted o (yielded ops a.tmps) = true) (x y : Operand) (t2 : TypeId) (ho : o.op = .binOp .neq 30 x y t2) (hx : a.eval x = .agg (NC nm)) (hy : a.eval y = .agg (NC nm')) (hn : nm.length = 32) (hn' : nm'.length = 32)
    (hk : wpList Try.prog ops Q rest (a.put o.dst (.bool (!decide (nm = nm')))) w) : wpList Try.prog ops Q (o :: rest) a w := by
  refine BigFrame.wpList_want hw fun _ hK => ?_
  unfold Oper.wp execOp
  simp only [ho, hx, hy, Sem.run_bind, guard_nc, neq_nc _ _ _ hn hn', Result.andThen_ok, Sem.run_pure]
  exact hK _ _ hk
theorem yields_eq (hw : Region.wanted o (yielded ops a.tmps) = true) (x y : Operand) (t2 : TypeId) (ho : o.op = .binOp .eql 30 x y t2) (hx : a.eval x = .agg (NC nm)) (hy : a.eval y = .agg (NC nm')) (hn : nm.length = 32) (hn' : nm'.length = 32) : YieldsIf Try.prog ops S o (.bool (decide (nm = nm'))) a :=
  .inl ⟨hw, fun w' _ => by
    unfold execOp
    simp only [ho, hx, hy, Sem.run_bind, guard_nc, eql_nc _ _ _ hn hn', Result.andThen_ok, Sem.run_pure]⟩
theorem yields_ne (hw : Region.wanted o (yielded ops a.tmps) = true) (x y : Operand) (t2 : TypeId) (ho : o.op = .binOp .neq 30 x y t2) (hx : a.eval x = .agg (NC nm)) (hy : a.eval y = .agg (NC nm')) (hn : nm.length = 32) (hn' : nm'.length = 32) : YieldsIf Try.prog ops S o (.bool (!decide (nm = nm'))) a :=
  .inl ⟨hw, fun w' _ => by
    unfold execOp
    simp only [ho, hx, hy, Sem.run_bind, guard_nc, neq_nc _ _ _ hn hn', Result.andThen_ok, Sem.run_pure]⟩
theorem yields_same (hw : Region.wanted o (yielded ops a.tmps) = true) (x y : Operand) (t2 : TypeId) (ho : o.op = .binOp .eql 30 x y t2) (hx : a.eval x = .agg (NC nm)) (hy : a.eval y = .agg (NC nm)) (hn : nm.length = 32) : YieldsIf Try.prog ops S o (.bool true) a := by
  have h := yields_eq (S := S) hw x y t2 ho hx hy hn hn
  rwa [decide_eq_true rfl] at h
theorem yields_notne (hw : Region.wanted o (yielded ops a.tmps) = true) (x y : Operand) (t2 : TypeId) (ho : o.op = .binOp .neq 30 x y t2) (hx : a.eval x = .agg (NC nm)) (hy : a.eval y = .agg (NC nm)) (hn : nm.length = 32) : YieldsIf Try.prog ops S o (.bool false) a := by
  have h := yields_ne (S := S) hw x y t2 ho hx hy hn hn
  rwa [decide_eq_true rfl] at h
/-- A hash's load yields it, in whatever world has it. -/
theorem yields_at {x : Operand} {p : Addr} (ho : o.op = .load 30 x) (hw : Region.wanted o (yielded ops a.tmps) = true) (hx : a.eval x = .pointer (some p)) (hn : nm.length = 32) (hB : ∀ w', S w' → ∀ j v, (u8s nm)[j]? = some v → w'.cell? (p.add j) = some v) : YieldsIf Try.prog ops S o (.agg (NC nm)) a :=
  .inl ⟨hw, fun w' hs => by
    have hl : (loadVar 30 p).run Try.prog w' = .ok (.agg (NC nm)) w' := by
      exact run_loadVar_at w' p 30 (u8s nm) _ (fun j v hv => hB w' hs j v hv) Try.underlying30 rfl (by rw [size30]; simp [u8s, hn])
    unfold execOp
    simp only [ho, hx, Instr.loadAt, Instr.sureAddr, Sem.run_bind, Sem.run_pure, Result.andThen_ok, hl]⟩
end
theorem nc_at {w : World} {g t : Nat} {nm : List UInt8} (h : Blk w g t (NC nm)) : ∀ j v, (u8s nm)[j]? = some v → w.cell? ((⟨g, 0, none⟩ : Addr).add j) = some v := fun j v hv => by
  rw [add_plain, h.cell, NC]
  simpa using hv
theorem hv_at {w : World} {base k : Nat} {A : Option Addr} {c n : Nat} {l : List (List UInt8)} {x : List UInt8} (h : w.ownsRow base 30 32 (.slice A n c) n (HV l)) (hl : ∀ x ∈ l, x.length = 32) (hk : l[k]? = some x) :
    ∃ b, A = some ⟨b, 0, none⟩ ∧ base ≤ b ∧ ∀ j v, (u8s x)[j]? = some v → w.cell? ((⟨b, k * 32, none⟩ : Addr).add j) = some v := by
  have hkl : k < l.length := (List.getElem?_eq_some_iff.1 hk).1
  have hxl := hl x (List.mem_of_getElem? hk)
  have hn : 0 < n := by
    rcases Nat.eq_zero_or_pos n with e | e
    · have := h.1
      rw [HV_len l hl, e] at this
      omega
    · exact e
  obtain ⟨b, cap, hv, hbb, -⟩ := h.form hn
  injection hv with hA
  subst hA
  refine ⟨b, rfl, hbb, fun j v hv => ?_⟩
  obtain ⟨ad, e1, -, hcell⟩ := (Reads.of_own h).2 hn
  injection e1 with e1
  subst e1
  have hj : j < 32 := by
    have := (List.getElem?_eq_some_iff.1 hv).1
    rw [u8s_length] at this
    omega
  have := hcell (k * 32 + j) v (by rw [HV_at l hl k x hk j hj]; exact hv)
  rw [add_plain] at this
  rw [show (⟨b, k * 32, none⟩ : Addr).add j = ⟨b, k * 32 + j, none⟩ by unfold Addr.add; split <;> simp_all]
  exact this
end Go.Proofs.Ytepcbnkhfiphdaa
