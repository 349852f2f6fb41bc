/- The last region of record (frame): it draws its order. Conditions: each theorem's premises. -/
import Derived.Test.YtaebmhbggbpnoaaGFr3
import Derived.OrdersHeld
namespace Go.Proofs.Ytaebmhbggbpnoaa
open Go.RowKit
def ops8 : Array Oper := #[{ dst := some 65, op := Op.load 109 (Operand.tmp 2), type := 109, pos := "frame.go:72", after := #[], guard := none },
  { dst := some 66, op := Op.load 109 (Operand.tmp 2), type := 109, pos := "frame.go:72", after := #[], guard := none },
  { dst := some 67, op := Op.call { callee := Callee.value (Operand.func 80), args := #[Operand.tmp 66], argTypes := #[109] }, type := 4, pos := "frame.go:72", after := #[{ on := 1, ground := Ground.data }], guard := none },
  { dst := none, op := Op.store 109 (Operand.tmp 2) (Operand.tmp 65), type := 0, pos := "frame.go:72", after := #[{ on := 0, ground := Ground.data }, { on := 2, ground := Ground.chain }, { on := 0, ground := Ground.phase }, { on := 1, ground := Ground.phase }, { on := 2, ground := Ground.phase }], guard := none },
  { dst := some 3, op := Op.assign (Operand.tmp 67), type := 4, pos := "frame.go:72", after := #[{ on := 2, ground := Ground.data }, { on := 3, ground := Ground.chain }, { on := 0, ground := Ground.phase }, { on := 1, ground := Ground.phase }, { on := 2, ground := Ground.phase }, { on := 3, ground := Ground.phase }], guard := none }]
theorem wpOp_some {P : Program} {ops : Array Oper} {Q : Exit → Act → World → Prop} {i : Nat} {K : Act → World → Prop} {a : Act} {w : World} {o : Oper} (hi : ops[i]? = some o) (hw : Region.wanted o (yielded ops a.tmps) = true) (h : o.wp P a w K Q) : wpOp P ops Q i K a w := by
  unfold wpOp
  simp only [hi]
  rw [if_pos hw]
  exact .inl h
set_option maxRecDepth 100000 in
theorem region8 (a : Act) (w : World) (g : Nat) (k : Int) (nm : List UInt8) (A : Option Addr) (n c : Nat) (Q : Exit → Act → World → Prop) (hsz : a.tmps.size = 68) (h2 : a.eval (.tmp 2) = .pointer (some ⟨g, 0, none⟩)) (hb : Blk w g 109 (RC k nm (.slice A n c))) (hn : nm.length = 32)
    (hQ : ∀ c a t v w, Q (.panic c) (a.put (some t) v) w → Q (.panic c) a w)
    (hk : ∀ a' w', a'.tmps.getD 2 undef = .pointer (some ⟨g, 0, none⟩) → a'.tmps.getD 3 undef = .bool (rcRight k n) → a'.defers = a.defers → Blk w' g 109 (RC k nm (.slice A n c)) → (∀ B, B ≤ g → B ≤ w.heap.size → Below B w w') → Q .normal a' w') : (Code.region 8 ops8 true).wp Try.prog Q a w := by
  have hload : ∀ w', Blk w' g 109 (RC k nm (.slice A n c)) → (Instr.loadAt 109 (.pointer (some ⟨g, 0, none⟩))).run Try.prog w' = .ok (.agg (RC k nm (.slice A n c))) w' := fun w' h => by
    simp only [Instr.loadAt, Instr.sureAddr, Sem.run_bind, Sem.run_pure, Result.andThen_ok]
    exact run_loadVar_row w' g 109 109 _ (0, 0) _ h Try.underlying109 rfl (by rw [size109, RC.size hn])
  refine wp_region_held (S := fun w' => Blk w' g 109 (RC k nm (.slice A n c)) ∧ Below w.heap.size w w') (by kernel_rfl) ?_
  show wpAnyH Try.prog .any ops8 Q _ 5 (Array.replicate 5 false) a _
  refine wpAnyH_take (i := 0) (v := .agg (RC k nm (.slice A n c))) rfl (by kernel_rfl) (by kernel_rfl) (by kernel_rfl) (fun c a w h => hQ _ _ _ _ _ h) (.inl ⟨rfl, fun w' hw => ?_⟩) ⟨hb, (Below.refl _ w).drew⟩ ?_
  · show (do pure (Next.value (← Instr.loadAt 109 (a.eval (.tmp 2))))).run Try.prog w' = _
    rw [h2, Sem.run_bind, hload w' hw.1]
    rfl
  have h2' : ∀ v, (a.put (some 65) v).eval (.tmp 2) = .pointer (some ⟨g, 0, none⟩) := fun v => by
    rw [← h2]
    simp [Act.eval, Act.put]
  refine wpAnyH_take (i := 1) (v := .agg (RC k nm (.slice A n c))) rfl (by kernel_rfl) (by kernel_rfl) (by kernel_rfl) (fun c a w h => hQ _ _ _ _ _ h) (.inl ⟨rfl, fun w' hw => ?_⟩) ⟨hb, (Below.refl _ w).drew⟩ ?_
  · show (do pure (Next.value (← Instr.loadAt 109 ((a.put (some 65) (.agg (RC k nm (.slice A n c)))).eval (.tmp 2))))).run Try.prog w' = _
    rw [h2', Sem.run_bind, hload w' hw.1]
    rfl
  obtain ⟨b, hb0⟩ : ∃ b, b = (a.put (some 65) (.agg (RC k nm (.slice A n c)))).put (some 66) (.agg (RC k nm (.slice A n c))) := ⟨_, rfl⟩
  have b2 : b.eval (.tmp 2) = .pointer (some ⟨g, 0, none⟩) := by rw [hb0, ← h2]; simp [Act.eval, Act.put]
  have b65 : b.eval (.tmp 65) = .agg (RC k nm (.slice A n c)) := by rw [hb0]; simp [Act.eval, Act.put, hsz]
  have b66 : b.eval (.tmp 66) = .agg (RC k nm (.slice A n c)) := by rw [hb0]; simp [Act.eval, Act.put, hsz]
  have bsz : b.tmps.size = 68 := by rw [hb0]; simp [Act.put, hsz]
  have bd : b.defers = a.defers := by rw [hb0]; rfl
  show wpAnyH Try.prog .any ops8 Q _ 3 _ ((a.put (some 65) (.agg (RC k nm (.slice A n c)))).put (some 66) (.agg (RC k nm (.slice A n c)))) w.drew
  rw [← hb0]
  clear hb0 h2' h2
  refine wpAnyH_all (rs := [2]) (by kernel_rfl) (by simp) (fun i hi => ?_)
  obtain rfl : i = 2 := by simpa using hi
  refine wpOp_some (o := { dst := some 67, op := Op.call { callee := Callee.value (Operand.func 80), args := #[Operand.tmp 66], argTypes := #[109] }, type := 4, pos := "frame.go:72", after := #[{ on := 1, ground := Ground.data }], guard := none }) rfl rfl ?_
  obtain ⟨K, hK⟩ : ∃ K : Act → World → Prop, K = fun a' w' => (Blk w' g 109 (RC k nm (Value.slice A n c)) ∧ Below w.heap.size w w') ∧ wpAnyH Try.prog Region.Mode.any ops8 Q (fun w' => Blk w' g 109 (RC k nm (Value.slice A n c)) ∧ Below w.heap.size w w') 2 ((((Array.replicate 5 false).setIfInBounds 0 true).setIfInBounds 1 true).setIfInBounds 2 true) a' w' := ⟨_, rfl⟩
  rw [← hK]
  have HK := Lib.hid hK
  clear hK
  have HQ := Lib.hid hQ
  have HKK := Lib.hid hk
  clear hQ hk
  go_simp
  have h66 : b.tmps[66]'(by omega) = .agg (RC k nm (.slice A n c)) := by
    have := b66
    simp only [Act.eval] at this
    rw [← this]
    simp [Array.getD, bsz]
  rw [h66]
  refine (fright_any w.drew k nm A n c hn).mono ?_
  rintro e w1 ⟨rfl, hb1⟩
  have hbw : Below w.heap.size w w1 := (Below.refl _ w).drew.trans hb1
  show K _ w1
  rw [HK.out]
  refine ⟨⟨hb.after hbw, hbw⟩, ?_⟩
  obtain ⟨d, hd⟩ : ∃ d : Act, d = { tmps := b.tmps.setIfInBounds 67 (.bool (rcRight k n)), defers := a.defers } := ⟨_, rfl⟩
  have d2 : d.tmps.getD 2 undef = .pointer (some ⟨g, 0, none⟩) := by rw [hd, ← b2]; simp [Act.eval, Array.getD, bsz]
  have d65 : d.eval (.tmp 65) = .agg (RC k nm (.slice A n c)) := by rw [hd, ← b65]; simp [Act.eval, Array.getD, bsz]
  have d67 : d.eval (.tmp 67) = .bool (rcRight k n) := by rw [hd]; simp [Act.eval, bsz]
  have dsz : d.tmps.size = 68 := by rw [hd]; simp [bsz]
  have dd : d.defers = a.defers := by rw [hd]
  rw [← hd]
  clear hd h66 b2 b65 b66 bsz bd HK
  refine wpAnyH_all (rs := [3]) (by kernel_rfl) (by simp) (fun i hi => ?_)
  obtain rfl : i = 3 := by simpa using hi
  refine wpOp_some (o := { dst := none, op := Op.store 109 (Operand.tmp 2) (Operand.tmp 65), type := 0, pos := "frame.go:72", after := #[{ on := 0, ground := Ground.data }, { on := 2, ground := Ground.chain }, { on := 0, ground := Ground.phase }, { on := 1, ground := Ground.phase }, { on := 2, ground := Ground.phase }], guard := none }) rfl rfl ?_
  have hb1' := hb.after hbw
  refine wp_store_row 109 (.tmp 2) (.tmp 65) rfl g (RC k nm (.slice A n c)) d2 d65 109 _ hb1' (by rw [size109, RC.size hn]) rfl (RC.one rfl) ?_
  have hb2 : Blk (w1.setRow g (RC k nm (.slice A n c))) g 109 (RC k nm (.slice A n c)) := setRow_heap w1 g _ _ 109 (0, 0) hb1'
  have hsame : w1.setRow g (RC k nm (.slice A n c)) = w1 := setRow_self w1 g _ 109 (0, 0) hb1'
  rw [hsame]
  refine ⟨⟨hb1', hbw⟩, ?_⟩
  refine wpAnyH_all (rs := [4]) (by kernel_rfl) (by simp) (fun i hi => ?_)
  obtain rfl : i = 4 := by simpa using hi
  refine wpOp_some (o := { dst := some 3, op := Op.assign (Operand.tmp 67), type := 4, pos := "frame.go:72", after := #[{ on := 2, ground := Ground.data }, { on := 3, ground := Ground.chain }, { on := 0, ground := Ground.phase }, { on := 1, ground := Ground.phase }, { on := 2, ground := Ground.phase }, { on := 3, ground := Ground.phase }], guard := none }) rfl rfl ?_
  have d67' : (d.put none undef).eval (.tmp 67) = .bool (rcRight k n) := d67
  have hx : (execOp (d.put none undef).eval { dst := some 3, op := Op.assign (Operand.tmp 67), type := 4, pos := "frame.go:72", after := #[{ on := 2, ground := Ground.data }, { on := 3, ground := Ground.chain }, { on := 0, ground := Ground.phase }, { on := 1, ground := Ground.phase }, { on := 2, ground := Ground.phase }, { on := 3, ground := Ground.phase }], guard := none }).run Try.prog w1 = .ok (.value (.bool (rcRight k n))) w1 := by
    rw [← d67']
    rfl
  unfold Oper.wp
  rw [hx]
  show (_ ∧ _) ∧ wpAnyH _ _ _ _ _ 0 _ ((d.put none undef).put (some 3) (.bool (rcRight k n))) w1
  refine ⟨⟨hb1', hbw⟩, wpAnyH_done (by kernel_rfl) (HKK.out _ w1 ?_ ?_ ?_ hb1' (fun B hB hw => hbw.mono hw)) _⟩
  · rw [← d2]; simp [Act.put, Array.getD, dsz]
  · simp [Act.put, Array.getD, dsz]
  · rw [← dd]; rfl
end Go.Proofs.Ytaebmhbggbpnoaa
