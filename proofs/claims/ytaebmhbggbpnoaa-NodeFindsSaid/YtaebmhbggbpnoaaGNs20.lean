/- Steps for the reference's Sort: cuts of a slice of entries, appends, a slice of none made. Conditions: each theorem's premises. -/
import Derived.Test.YtaebmhbggbpnoaaGNs14
import Derived.Test.YtaebmhbggbpnoaaGNs16
import Derived.Test.YtaebmhbggbpnoaaGNd14
namespace Go.Proofs.Ytaebmhbggbpnoaa
open Go.RowKit
theorem flatE_take {l : List EV} (h : ∀ e ∈ l, (EC e).size = 34) {k : Nat} (hk : k ≤ l.length) : flatE (l.take k) = (flatE l).take (k * 34) := by
  have e1 : flatE l = flatE (l.take k) ++ flatE (l.drop k) := by
    simp only [flatE]
    rw [← List.flatMap_append, List.take_append_drop]
  have hl : (flatE (l.take k)).length = k * 34 := by
    rw [flat_len (enc := EC) (size := 34) (fun x hx => h x (List.mem_of_mem_take hx)), List.length_take, Nat.min_eq_left hk]
  conv => rhs; rw [e1, ← hl, List.take_left]
theorem flatE_drop {l : List EV} (h : ∀ e ∈ l, (EC e).size = 34) {k : Nat} (hk : k ≤ l.length) : flatE (l.drop k) = (flatE l).drop (k * 34) := by
  have e1 : flatE l = flatE (l.take k) ++ flatE (l.drop k) := by
    simp only [flatE]
    rw [← List.flatMap_append, List.take_append_drop]
  have hl : (flatE (l.take k)).length = k * 34 := by
    rw [flat_len (enc := EC) (size := 34) (fun x hx => h x (List.mem_of_mem_take hx)), List.length_take, Nat.min_eq_left hk]
  conv => rhs; rw [e1, ← hl, List.drop_left]
theorem Ls.uptoE {w : World} {S : Nat → Prop} {A : Option Addr} {n c : Nat} {l : List EV} (h : Es w S A n c l) {k : Nat} (hk : k ≤ n) :
    ∃ A' c', (∀ W, (Instr.sliceAt 82 (.slice A n c) none (some (.int .i64 (k : Int))) none).run Try.prog W = .ok (.slice A' k c') W) ∧ Es w S A' k c' (l.take k) := by
  obtain ⟨i0, hi0, _, hz1, _⟩ := info_parts info182
  have hc := h.cap
  have hl := h.len
  refine ⟨_, _, run_cut_upto Try.underlying82 hi0 hz1 A n c (k : Int) k rfl (by omega), ?_⟩
  have h1 := (h.rd.drop (k := 0) (cap := c) (Nat.zero_le _) hc).take (k := k) (by omega)
  refine ⟨by rw [List.length_take]; omega, by omega, fun e he => h.all e (List.mem_of_mem_take he), ?_⟩
  have e1 : ((l.take k).flatMap fun x => (EC x).toList) = (l.flatMap fun x => (EC x).toList).take (k * 34) := flatE_take h.all (by omega)
  rw [e1]
  rw [Nat.zero_mul, List.drop_zero] at h1
  rw [Nat.zero_mul]
  exact h1
theorem Ls.fromE {w : World} {S : Nat → Prop} {A : Option Addr} {n c : Nat} {l : List EV} (h : Es w S A n c l) {k q : Nat} (hk : k + q = n) :
    ∃ A' c', (∀ W, (Instr.sliceAt 82 (.slice A n c) (some (.int .i64 (k : Int))) none none).run Try.prog W = .ok (.slice A' q c') W) ∧ Es w S A' q c' (l.drop k) := by
  obtain ⟨i0, hi0, _, hz1, _⟩ := info_parts info182
  have hc := h.cap
  have hl := h.len
  refine ⟨_, _, run_cut_from Try.underlying82 hi0 hz1 A n c (k : Int) k q rfl hk, ?_⟩
  have h1 := h.rd.drop (k := k) (cap := c) (by omega) hc
  rw [show n - k = q by omega] at h1
  refine ⟨by rw [List.length_drop]; omega, by omega, fun e he => h.all e (List.mem_of_mem_drop he), ?_⟩
  have e1 : ((l.drop k).flatMap fun x => (EC x).toList) = (l.flatMap fun x => (EC x).toList).drop (k * 34) := flatE_drop h.all (by omega)
  rw [e1]
  exact h1
theorem flatE_one' {l : List EV} : ∀ u ∈ flatE l, u.oneCell' = true := fun u hu => by
  obtain ⟨e, he, hu⟩ := List.mem_flatMap.1 hu
  exact (Array.all_eq_true_iff_forall_mem.1 (EC_one e)) u (by simpa using hu)
section
variable {ops : Array Oper} {o : Oper} {a : Act} {K : Act → World → Prop} {Q : Exit → Act → World → Prop} {E : Prop}
theorem step_appE (hgd : o.guard = none) (s x : Operand) (ho : o.op = .call { callee := .builtin .append, args := #[s, x], argTypes := #[82, 82] }) {w2 : World} {base k m c : Nat} {v : Value} {l l2 : List EV} {S : Nat → Prop} {A : Option Addr}
    (hs : a.eval s = v) (hx : a.eval x = .slice A m c) (hown : w2.ownsRow base 182 34 v k (flatE l)) (hr : Es w2 S A m c l2) (hk : k + m ≤ 1000000) (hbase : base ≤ w2.heap.size)
    (h : ∀ A' c' w', w'.ownsRow base 182 34 (.slice A' (k + m) c') (k + m) (flatE (l ++ l2)) → w2.grownBy w' v.ownBlock → Below base w2 w' → K (a.put o.dst (.slice A' (k + m) c')) w') : if Region.wanted o (yielded ops a.tmps) = true then Oper.wp Try.prog o a w2 K Q else E := by
  obtain ⟨i0, hi0, hz0, hz1, hz2⟩ := info_parts info182
  refine step_append_any _ hgd s x 82 ho base 182 i0 _ 34 56 Try.underlying82 hi0 hz0 hz1 hz2 (by rw [Value.cells]; exact EC_size (e := noEnt) noName_len) (by omega) v k _ hs hown S A m c (flatE l2) hx hr.rd flatE_one' (by simp only [maxLen]; omega) (by omega) hbase ?_
  intro v4 w4 hown4 hg4 hat4
  obtain ⟨A7, c7, rfl, hc7⟩ := own_shape hown4
  exact h A7 c7 w4 (by rw [show flatE (l ++ l2) = flatE l ++ flatE l2 from List.flatMap_append]; exact hown4) hg4 (Below.grown (Below.refl _ _) hg4 hbase (own_base hown))
theorem step_made0 (hgd : o.guard = none) (ho : o.op = .buildSlice 82 0 #[]) {w2 : World} {base : Nat} (hbase : base ≤ w2.heap.size)
    (h : ∀ g w', g = w2.heap.size → g < w'.heap.size → w'.ownsRow base 182 34 (.slice (some ⟨g, 0, none⟩) 0 0) 0 (flatE []) → Below w2.heap.size w2 w' → K (a.put o.dst (.slice (some ⟨g, 0, none⟩) 0 0)) w') : if Region.wanted o (yielded ops a.tmps) = true then Oper.wp Try.prog o a w2 K Q else E := by
  have hw : Region.wanted o (yielded ops a.tmps) = true := by simp [Region.wanted, hgd]
  rw [if_pos hw]
  have h2 := h w2.heap.size (w2.alloc (.cells #[] 182)) rfl (by simp) (World.ownsRow_made w2 #[] 0 hbase (by simp [maxLen]) rfl) ((Below.refl _ _).alloc (Nat.le_refl _) _)
  unfold Oper.wp execOp
  simp only [ho]
  simp [Instr.buildSlice, go_sem]
  exact h2
theorem step_made1 (hgd : o.guard = none) (x : Operand) (ho : o.op = .buildSlice 82 1 #[(0, x)]) {w2 : World} {e : EV} {R : Array Value} (hR : R = EC e) (he : e.ok) (hx : a.eval x = .agg R)
    (h : ∀ g w', g = w2.heap.size → g < w'.heap.size → Blk w' g 182 (EC e) → Below w2.heap.size w2 w' → K (a.put o.dst (.slice (some ⟨g, 0, none⟩) 1 1)) w') : if Region.wanted o (yielded ops a.tmps) = true then Oper.wp Try.prog o a w2 K Q else E := by
  have hw : Region.wanted o (yielded ops a.tmps) = true := by simp [Region.wanted, hgd]
  rw [if_pos hw]
  obtain ⟨ie, zz, hie, hzz, hsi, hfill⟩ := fill_ent 182 (by simp) e he
  refine wp_buildSlice 82 182 1 _ ho (EC e) ie zz Try.underlying82 hie hzz (by rw [hsi]; omega) (by rw [hsi]; omega) ((congrArg (Instr.fill _ _) (by simp only [List.map_toArray, List.map_cons, List.map_nil, hx, hR])).trans hfill) ?_
  exact h _ _ rfl (by simp) (blk_new' rfl) ((Below.refl _ _).alloc (Nat.le_refl _) _)
end
end Go.Proofs.Ytaebmhbggbpnoaa
