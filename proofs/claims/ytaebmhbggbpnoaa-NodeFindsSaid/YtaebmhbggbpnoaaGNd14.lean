/- The walks of file, back (hayloftlaw14), Own, Back (hayloftlaw12): copies. Conditions: each theorem's premises. -/
import Derived.Test.YtaebmhbggbpnoaaGNd11
namespace Go.Proofs.Ytaebmhbggbpnoaa
open Go.RowKit
theorem load81 {W : World} {g t : Nat} {a b : Value} (hB : Blk W g t #[a, b]) : (loadVar 81 ⟨g, 0, none⟩).run Try.prog W = .ok (.agg #[a, b]) W := by
  have z0 := hB.cell 0
  have z1 := hB.cell 1
  simp at z0 z1
  simp [loadVar, go_sem, z0, z1]
theorem load84 {W : World} {g t : Nat} {a b : Value} (hB : Blk W g t #[a, b]) : (loadVar 84 ⟨g, 0, none⟩).run Try.prog W = .ok (.agg #[a, b]) W := by
  have z0 := hB.cell 0
  have z1 := hB.cell 1
  simp at z0 z1
  simp [loadVar, go_sem, z0, z1]
theorem nd_file (w : World) (k : Int) (A : Option Addr) (n c : Nat) :
    Calls Try.prog 53 #[.agg #[.int .i64 k, .slice A n c]] w fun e w' => e = .returned (.agg #[.int .i64 k, .slice A n c]) ∧ Below w.heap.size w w' := by
  have HB : Hid (∀ W, W = (w.alloc (.cells #[.int .i64 k, .slice A n c] 81)).alloc (.cells #[.int .i64 k, .slice A n c] 89) → Below w.heap.size w W ∧ Blk W (w.heap.size + 1) 89 #[.int .i64 k, .slice A n c]) := Lib.hid fun W hW => by
    subst hW
    exact ⟨((Below.refl _ _).alloc (Nat.le_refl _) _).alloc (by simp) _, blk_new' (by simp)⟩
  go_enter Try.func53, Try.ntmps53
  go_wp2_with fail
  obtain ⟨hb, hk⟩ := HB.out _ rfl
  exact bodyPost_ret (results_cell1 rfl rfl (load89 hk)) rfl ⟨rfl, hb⟩
theorem nd_back (w : World) (k : Int) (A : Option Addr) (n c : Nat) :
    Calls Try.prog 56 #[.agg #[.int .i64 k, .slice A n c]] w fun e w' => e = .returned (.agg #[.int .i64 k, .slice A n c]) ∧ Below w.heap.size w w' := by
  have HB : Hid (∀ W, W = (w.alloc (.cells #[.int .i64 k, .slice A n c] 89)).alloc (.cells #[.int .i64 k, .slice A n c] 81) → Below w.heap.size w W ∧ Blk W (w.heap.size + 1) 81 #[.int .i64 k, .slice A n c]) := Lib.hid fun W hW => by
    subst hW
    exact ⟨((Below.refl _ _).alloc (Nat.le_refl _) _).alloc (by simp) _, blk_new' (by simp)⟩
  go_enter Try.func56, Try.ntmps56
  go_wp2_with fail
  obtain ⟨hb, hk⟩ := HB.out _ rfl
  exact bodyPost_ret (results_cell1 rfl rfl (load81 hk)) rfl ⟨rfl, hb⟩
theorem nd_oown (w : World) (k : Int) (A : Option Addr) (n c : Nat) :
    Calls Try.prog 62 #[.agg #[.int .i64 k, .slice A n c]] w fun e w' => e = .returned (.agg #[.int .i64 k, .slice A n c]) ∧ Below w.heap.size w w' := by
  have HB : Hid (∀ W, W = (w.alloc (.cells #[.int .i64 k, .slice A n c] 84)).alloc (.cells #[.int .i64 k, .slice A n c] 86) → Below w.heap.size w W ∧ Blk W (w.heap.size + 1) 86 #[.int .i64 k, .slice A n c]) := Lib.hid fun W hW => by
    subst hW
    exact ⟨((Below.refl _ _).alloc (Nat.le_refl _) _).alloc (by simp) _, blk_new' (by simp)⟩
  go_enter Try.func62, Try.ntmps62
  go_wp2_with fail
  obtain ⟨hb, hk⟩ := HB.out _ rfl
  exact bodyPost_ret (results_cell1 rfl rfl (load86 hk)) rfl ⟨rfl, hb⟩
theorem nd_oback (w : World) (k : Int) (A : Option Addr) (n c : Nat) :
    Calls Try.prog 64 #[.agg #[.int .i64 k, .slice A n c]] w fun e w' => e = .returned (.agg #[.int .i64 k, .slice A n c]) ∧ Below w.heap.size w w' := by
  have HB : Hid (∀ W, W = (w.alloc (.cells #[.int .i64 k, .slice A n c] 86)).alloc (.cells #[.int .i64 k, .slice A n c] 84) → Below w.heap.size w W ∧ Blk W (w.heap.size + 1) 84 #[.int .i64 k, .slice A n c]) := Lib.hid fun W hW => by
    subst hW
    exact ⟨((Below.refl _ _).alloc (Nat.le_refl _) _).alloc (by simp) _, blk_new' (by simp)⟩
  go_enter Try.func64, Try.ntmps64
  go_wp2_with fail
  obtain ⟨hb, hk⟩ := HB.out _ rfl
  exact bodyPost_ret (results_cell1 rfl rfl (load84 hk)) rfl ⟨rfl, hb⟩
/-! ### Are names the same, files, objects? -/
theorem equal_nc (w : World) (a b : List UInt8) (ha : a.length = 32) (hb : b.length = 32) : (Op.equalIn 10000 107 (.agg (NC a)) (.agg (NC b))).run Try.prog w = .ok (decide (a = b)) w := by
  obtain ⟨i0, hi0, hz0, hz1, hz2⟩ := info_parts Try.info5
  have h := run_equalIn_bytes (P := Try.prog) w 9998 107 5 32 Try.underlying107 Try.underlying5 (fun w => by simp [sizeOf, typeInfo, hi0, hz1]) a b ha hb
  rw [show (a == b) = decide (a = b) by rw [Bool.eq_iff_iff]; simp] at h
  exact h
theorem guard_nc (w : World) (op : BinOp) (x y : Operand) (a b : List UInt8) : (eqGuard op 107 x y (.agg (NC a)) (.agg (NC b))).run Try.prog w = .ok () w := run_eqGuard_agg w op 107 x y _ _ (by kernel_rfl)
theorem neq_nc (w : World) (a b : List UInt8) (ha : a.length = 32) (hb : b.length = 32) : (binOp .neq 107 (.agg (NC a)) (.agg (NC b))).run Try.prog w = .ok (.bool (!decide (a = b))) w := by
  rw [run_neq_struct, equal_nc w a b ha hb]; rfl
theorem eql_nc (w : World) (a b : List UInt8) (ha : a.length = 32) (hb : b.length = 32) : (binOp .eql 107 (.agg (NC a)) (.agg (NC b))).run Try.prog w = .ok (.bool (decide (a = b))) w := by
  rw [run_eql_struct, equal_nc w a b ha hb]; rfl
theorem yields_ne {ops : Array Oper} {S : World → Prop} {o : Oper} {a : Act} {R R' : Array Value} {x y : Operand} {t t2 : TypeId} {v : Bool} (ho : o.op = .binOp .neq t x y t2) (hw : Region.wanted o (yielded ops a.tmps) = true) (hx : a.eval x = .agg R) (hy : a.eval y = .agg R')
    (hg : ∀ w, (eqGuard .neq t x y (.agg R) (.agg R')).run Try.prog w = .ok () w) (hb : ∀ w, (binOp .neq t (.agg R) (.agg R')).run Try.prog w = .ok (.bool v) w) : YieldsIf Try.prog ops S o (.bool v) a :=
  .inl ⟨hw, fun w' _ => by
    unfold execOp
    simp only [ho, hx, hy, Sem.run_bind, hg, hb, Result.andThen_ok, Sem.run_pure]⟩
set_option maxRecDepth 100000 in
theorem nd_hashes (w : World) (S T : Nat → Prop) (A B : Option Addr) (n c m d : Nat) (hs gs : List (List UInt8)) (hx : Hs w S A n c hs) (hy : Hs w T B m d gs) (hn : n ≤ 1000000000) :
    Calls Try.prog 106 #[.slice A n c, .slice B m d] w fun e w' => e = .returned (.bool (decide (hs = gs))) ∧ Below w.heap.size w w' := by
  have HX := Lib.hid hx
  have HY := Lib.hid hy
  have HL := Lib.hid hx.len
  have HM := Lib.hid hy.len
  clear hx hy
  by_cases hnm : n = m
  · subst hnm
    go_enter Try.func106, Try.ntmps106
    go_wp2_with fail
    go_loopw [5] (fun v5 wr => Hid (Below w.heap.size w wr) ∧ ∃ i : Nat, i ≤ n ∧ v5 = .int .i64 (i : Int) ∧ Hid (∀ j, j < i → hs[j]? = gs[j]?)) (fun v5 _ => n - (intOf v5).toNat)
    case atStart => exact ⟨Lib.hid (Below.refl _ _), 0, Nat.zero_le _, rfl, Lib.hid (by omega)⟩
    case round =>
      obtain ⟨HB, i, hi, rfl, HI⟩ := hrel
      by_cases hlt : i < n
      · have hlt' : (i : Int) < (n : Int) := by omega
        obtain ⟨ad, p, x, rfl, hp, hl, hat, hsz, -⟩ := (HX.out.after (by omega) HB.out).at_ hlt
        obtain ⟨ad2, p2, y, rfl, hp2, hl2, hat2, hsz2, -⟩ := (HY.out.after (by omega) HB.out).at_ hlt
        have HAT := Lib.hid hat.out
        have HAT2 := Lib.hid hat2.out
        have HN : Hid (x.length = 32 ∧ y.length = 32) := Lib.hid (by simpa [NC, u8s] using And.intro hsz hsz2)
        obtain ⟨R, hR⟩ : ∃ R, R = NC x := ⟨_, rfl⟩
        obtain ⟨R', hR'⟩ : ∃ R, R = NC y := ⟨_, rfl⟩
        rw [← hR] at HAT
        rw [← hR'] at HAT2
        have HS : Hid (R.size = 32 ∧ R'.size = 32) := Lib.hid (by rw [hR, hR']; exact ⟨hsz, hsz2⟩)
        have HNE : Hid (∀ w, (binOp .neq 107 (.agg R) (.agg R')).run Try.prog w = .ok (.bool (!decide (x = y))) w) := Lib.hid fun w => by rw [hR, hR']; exact neq_nc w x y HN.out.1 HN.out.2
        have HG : Hid (∀ w, (eqGuard .neq 107 (.tmp 20) (.tmp 24) (.agg R) (.agg R')).run Try.prog w = .ok () w) := Lib.hid fun w => by rw [hR, hR']; exact guard_nc w _ _ _ x y
        clear hat hat2 hsz hsz2 hR hR'
        obtain ⟨D, hD⟩ : ∃ D, D = decide (x = y) := ⟨_, rfl⟩
        rw [← hD] at HNE
        have HD := Lib.hid hD
        clear hD
        go_wp2_with fail
        refine wp_region_held_drew (S := fun w' => Hid (At w' p R ∧ At w' p2 R')) (by kernel_rfl) (Lib.hid ⟨HAT.out, HAT2.out⟩) (fun hHeld => ?_)
        refine wpAnyH_take (i := 0) (oi := { dst := some 17, op := Op.move (Operand.tmp 0), type := 79, pos := "ref.go:225", after := #[], guard := none }) (v := ?v0) rfl (by kernel_rfl) (by kernel_rfl) (by kernel_rfl) (fun _ _ _ h => h) (Or.inl ⟨by rfl, ?hy0⟩) hHeld ?rest0
        case hy0 => (intro w hSw; go_simp; try with_reducible rfl)
        try simp only [Act.put, List.setIfInBounds_toArray, List.set_cons_zero, List.set_cons_succ]
        refine wpAnyH_take (i := 1) (oi := { dst := some 18, op := Op.move (Operand.tmp 5), type := 3, pos := "ref.go:225", after := #[], guard := none }) (v := ?v1) rfl (by kernel_rfl) (by kernel_rfl) (by kernel_rfl) (fun _ _ _ h => h) (Or.inl ⟨by rfl, ?hy1⟩) hHeld ?rest1
        case hy1 => (intro w hSw; go_simp; try with_reducible rfl)
        try simp only [Act.put, List.setIfInBounds_toArray, List.set_cons_zero, List.set_cons_succ]
        refine wpAnyH_take (i := 2) (oi := { dst := some 19, op := Op.indexAddr 79 (Operand.tmp 17) (Operand.tmp 18), type := 0, pos := "ref.go:225", after := #[{ on := 0, ground := Ground.data }, { on := 1, ground := Ground.data }], guard := none }) (v := ?v2) rfl (by kernel_rfl) (by kernel_rfl) (by kernel_rfl) (fun _ _ _ h => h) (Or.inl ⟨by rfl, ?hy2⟩) hHeld ?rest2
        case hy2 => (intro w hSw; go_simp; try with_reducible rfl)
        try simp only [Act.put, List.setIfInBounds_toArray, List.set_cons_zero, List.set_cons_succ]
        refine wpAnyH_take (i := 3) (oi := { dst := some 20, op := Op.load 107 (Operand.tmp 19), type := 107, pos := "ref.go:225", after := #[{ on := 2, ground := Ground.data }], guard := none }) (v := _) rfl (by kernel_rfl) (by kernel_rfl) (by kernel_rfl) (fun _ _ _ h => h) (yields_A rfl (by rfl) rfl (by rw [HS.out.1]; exact wide107) (fun w' hs => (Hid.out hs).1)) hHeld ?_
        try simp only [Act.put, List.setIfInBounds_toArray, List.set_cons_zero, List.set_cons_succ]
        refine wpAnyH_take (i := 4) (oi := { dst := some 21, op := Op.move (Operand.tmp 1), type := 79, pos := "ref.go:225", after := #[], guard := none }) (v := ?v4) rfl (by kernel_rfl) (by kernel_rfl) (by kernel_rfl) (fun _ _ _ h => h) (Or.inl ⟨by rfl, ?hy4⟩) hHeld ?rest4
        case hy4 => (intro w hSw; go_simp; try with_reducible rfl)
        try simp only [Act.put, List.setIfInBounds_toArray, List.set_cons_zero, List.set_cons_succ]
        refine wpAnyH_take (i := 5) (oi := { dst := some 22, op := Op.move (Operand.tmp 5), type := 3, pos := "ref.go:225", after := #[], guard := none }) (v := ?v5) rfl (by kernel_rfl) (by kernel_rfl) (by kernel_rfl) (fun _ _ _ h => h) (Or.inl ⟨by rfl, ?hy5⟩) hHeld ?rest5
        case hy5 => (intro w hSw; go_simp; try with_reducible rfl)
        try simp only [Act.put, List.setIfInBounds_toArray, List.set_cons_zero, List.set_cons_succ]
        refine wpAnyH_take (i := 6) (oi := { dst := some 23, op := Op.indexAddr 79 (Operand.tmp 21) (Operand.tmp 22), type := 0, pos := "ref.go:225", after := #[{ on := 4, ground := Ground.data }, { on := 5, ground := Ground.data }], guard := none }) (v := ?v6) rfl (by kernel_rfl) (by kernel_rfl) (by kernel_rfl) (fun _ _ _ h => h) (Or.inl ⟨by rfl, ?hy6⟩) hHeld ?rest6
        case hy6 => (intro w hSw; go_simp; try with_reducible rfl)
        try simp only [Act.put, List.setIfInBounds_toArray, List.set_cons_zero, List.set_cons_succ]
        refine wpAnyH_take (i := 7) (oi := { dst := some 24, op := Op.load 107 (Operand.tmp 23), type := 107, pos := "ref.go:225", after := #[{ on := 6, ground := Ground.data }], guard := none }) (v := _) rfl (by kernel_rfl) (by kernel_rfl) (by kernel_rfl) (fun _ _ _ h => h) (yields_A rfl (by rfl) rfl (by rw [HS.out.2]; exact wide107) (fun w' hs => (Hid.out hs).2)) hHeld ?_
        try simp only [Act.put, List.setIfInBounds_toArray, List.set_cons_zero, List.set_cons_succ]
        refine wpAnyH_take (i := 8) (oi := { dst := some 25, op := Op.binOp BinOp.neq 107 (Operand.tmp 20) (Operand.tmp 24) 107, type := 4, pos := "ref.go:225", after := #[{ on := 3, ground := Ground.data }, { on := 7, ground := Ground.data }], guard := none }) (v := _) rfl (by kernel_rfl) (by kernel_rfl) (by kernel_rfl) (fun _ _ _ h => h) (yields_ne rfl (by rfl) rfl rfl HG.out HNE.out) hHeld ?_
        try simp only [Act.put, List.setIfInBounds_toArray, List.set_cons_zero, List.set_cons_succ]
        refine wpAnyH_done (by kernel_rfl) ?_ _
        cases D with
        | true =>
          have HXY : Hid (x = y) := Lib.hid (of_decide_eq_true HD.out.symm)
          go_wp2_with fail
          exact ⟨⟨Lib.hid HB.out.drew, i + 1, by omega, by go_num, Lib.hid fun j hj => by
            rcases Nat.lt_or_ge j i with h | h
            · exact HI.out j h
            · obtain rfl : j = i := by omega
              rw [hl.out, hl2.out, HXY.out]⟩, by simp [intOf]; omega⟩
        | false =>
          have hne : x ≠ y := of_decide_eq_false HD.out.symm
          have HE : Hid (decide (hs = gs) = false) := Lib.hid (decide_eq_false (fun e => hne (by
            have h1 := hl.out
            have h2 := hl2.out
            rw [e, h2] at h1
            injection h1 with h1
            exact h1.symm)))
          clear hne
          go_wp2_with fail
          go_ret
          exact ⟨ret_bool HE.out.symm, HB.out.drew⟩
      · obtain rfl : i = n := by omega
        have HE : Hid (decide (hs = gs) = true) := Lib.hid (decide_eq_true (List.ext_getElem? fun j => by
          rcases Nat.lt_or_ge j i with h | h
          · exact HI.out j h
          · rw [List.getElem?_eq_none (by rw [HL.out]; exact h), List.getElem?_eq_none (by rw [HM.out]; exact h)]))
        go_wp2_with fail
        go_ret
        exact ⟨ret_bool HE.out.symm, HB.out⟩
  · have hr : decide (hs = gs) = false := by
      refine decide_eq_false (fun e => hnm ?_)
      rw [← HL.out, ← HM.out, e]
    rw [hr]
    have hnm' : ((n : Int) != (m : Int)) = true := by simp; omega
    clear hr hnm
    go_enter Try.func106, Try.ntmps106
    go_wp2_with fail
    go_ret
    exact ⟨rfl, Below.refl _ _⟩
end Go.Proofs.Ytaebmhbggbpnoaa
namespace Go.Proofs.Ytaebmhbggbpnoaa
open Go.RowKit
theorem ec_ext (a : EV) (h : a.ok) : (EC a).extract 2 (2 + 32) = NC a.h := by
  apply Array.ext'
  rw [Array.toList_extract]
  simp only [EC, NC, List.extract_eq_take_drop]
  have h32 : a.h.length = 32 := h
  rw [show 2 + 32 - 2 = 32 from rfl, List.drop_succ_cons, List.drop_succ_cons, List.drop_zero, List.take_of_length_le (by rw [u8s_length, h32]; exact Nat.le_refl _)]
theorem part_h (w : World) (a : EV) (h : a.ok) : (part 107 (EC a) 2).run Try.prog w = .ok (.agg (NC a.h)) w := by
  have hagg : (isAgg 107).run Try.prog w = .ok true w := by
    unfold isAgg
    rw [Sem.run_bind, run_underlying Try.underlying107 w]
    rfl
  obtain ⟨i0, hi0, hz0, hz1, hz2⟩ := info_parts info107
  unfold part
  simp only [Sem.run_bind, hagg, Result.andThen_ok, if_true]
  rw [show (sizeOf 107).run Try.prog w = .ok 32 w by simp [sizeOf, typeInfo, hi0, hz1]]
  simp only [Result.andThen_ok, Sem.run_pure]
  rw [ec_ext a h]
theorem part_s (w : World) (a : EV) : (part 9 (EC a) 0).run Try.prog w = .ok (.string a.name) w := by
  have e0 := EC_0 a
  simp [part, go_sem, e0]
theorem part_d (w : World) (a : EV) : (part 4 (EC a) 1).run Try.prog w = .ok (.bool a.dir) w := by
  have e0 := EC_1 a
  simp [part, go_sem, e0]
theorem eqFields3 (d : Nat) (w : World) (xs ys : Array Value) (f0 f1 f2 : Field) (n0 : f0.name ≠ "_") (n1 : f1.name ≠ "_") (n2 : f2.name ≠ "_") (a0 a1 a2 b0 b1 b2 : Value) (r0 r1 r2 : Bool)
    (p0 : (part f0.type xs f0.offset).run Try.prog w = .ok a0 w) (q0 : (part f0.type ys f0.offset).run Try.prog w = .ok b0 w) (p1 : (part f1.type xs f1.offset).run Try.prog w = .ok a1 w) (q1 : (part f1.type ys f1.offset).run Try.prog w = .ok b1 w) (p2 : (part f2.type xs f2.offset).run Try.prog w = .ok a2 w) (q2 : (part f2.type ys f2.offset).run Try.prog w = .ok b2 w)
    (e0 : (Op.equalIn d f0.type a0 b0).run Try.prog w = .ok r0 w) (e1 : (Op.equalIn d f1.type a1 b1).run Try.prog w = .ok r1 w) (e2 : (Op.equalIn d f2.type a2 b2).run Try.prog w = .ok r2 w) :
    (Op.eqFields d xs ys [f0, f1, f2]).run Try.prog w = .ok (r0 && r1 && r2) w := by
  simp only [Op.eqFields, n0, n1, n2, ne_eq, not_false_eq_true, if_true, Sem.run_bind, p0, p1, p2, q0, q1, q2, Result.andThen_ok, e0, e1, e2, Sem.run_ite, Sem.run_pure]
  cases r0 <;> cases r1 <;> cases r2 <;> simp
set_option maxRecDepth 100000 in
theorem equal_ec (w : World) (a b : EV) (ha : a.ok) (hb : b.ok) : (Op.equalIn 10000 182 (.agg (EC a)) (.agg (EC b))).run Try.prog w = .ok (decide (a = b)) w := by
  have hp : Try.prog.stoodInHeld 182 = false := by kernel_rfl
  obtain ⟨fs, f0, f1, f2, hu, hf, n0, n1, n2, t0, t1, t2, o0, o1, o2⟩ : ∃ fs f0 f1 f2, Try.prog.underlying 182 = some (.struct fs) ∧ fs.toList = [f0, f1, f2] ∧ f0.name ≠ "_" ∧ f1.name ≠ "_" ∧ f2.name ≠ "_" ∧ f0.type = 9 ∧ f1.type = 4 ∧ f2.type = 107 ∧ f0.offset = 0 ∧ f1.offset = 1 ∧ f2.offset = 2 := ⟨_, _, _, _, Try.underlying182, rfl, by decide, by decide, by decide, rfl, rfl, rfl, rfl, rfl, rfl⟩
  have hfs : Try.prog.fieldsOf 182 = fs := by unfold Program.fieldsOf; rw [hu]
  have hS : Try.prog.underlying 182 = some (.struct (Try.prog.fieldsOf 182)) := by rw [hfs]; exact hu
  rw [show (10000 : Nat) = 9999 + 1 from rfl, run_equalIn_agg w 9999 182 _ _ hS hp, hfs, hf]
  obtain ⟨i0, hi0, hz0, hz1, hz2⟩ := info_parts Try.info5
  have h3 := run_equalIn_bytes (P := Try.prog) w 9997 107 5 32 Try.underlying107 Try.underlying5 (fun w => by simp [sizeOf, typeInfo, hi0, hz1]) a.h b.h ha hb
  have e1 : (Op.equalIn 9999 9 (.string a.name) (.string b.name)).run Try.prog w = .ok (a.name.toList == b.name.toList) w := run_equalIn_string w 9998 9 a.name b.name Try.underlying9
  have e2 : (Op.equalIn 9999 4 (.bool a.dir) (.bool b.dir)).run Try.prog w = .ok (a.dir == b.dir) w := run_equalIn_bool' w 9998 4 a.dir b.dir Try.underlying4
  have e3 : (Op.equalIn 9999 107 (.agg (NC a.h)) (.agg (NC b.h))).run Try.prog w = .ok (a.h == b.h) w := h3
  have eq : decide (a = b) = ((a.name.toList == b.name.toList) && (a.dir == b.dir) && (a.h == b.h)) := by
    rw [← beq_toListBytes]
    obtain ⟨x, y, z⟩ := a
    obtain ⟨x', y', z'⟩ := b
    have hb : (x == x') = decide (x = x') := by
      have h1 : (x == x') = (x.data == x'.data) := by cases x; cases x'; rfl
      rw [h1, Bool.eq_iff_iff, beq_iff_eq, decide_eq_true_iff]
      exact ⟨fun h => by cases x; cases x'; simp only at h; rw [h], fun h => by rw [h]⟩
    rw [hb, Bool.eq_iff_iff]
    simp [and_assoc]
  rw [eq]
  exact eqFields3 9999 w _ _ f0 f1 f2 n0 n1 n2 _ _ _ _ _ _ _ _ _ (by rw [t0, o0]; exact part_s w a) (by rw [t0, o0]; exact part_s w b) (by rw [t1, o1]; exact part_d w a) (by rw [t1, o1]; exact part_d w b) (by rw [t2, o2]; exact part_h w a ha) (by rw [t2, o2]; exact part_h w b hb) (by rw [t0]; exact e1) (by rw [t1]; exact e2) (by rw [t2]; exact e3)
theorem guard_ec (w : World) (op : BinOp) (x y : Operand) (a b : EV) : (eqGuard op 182 x y (.agg (EC a)) (.agg (EC b))).run Try.prog w = .ok () w := run_eqGuard_agg w op 182 x y _ _ (by kernel_rfl)
theorem neq_ec (w : World) (a b : EV) (ha : a.ok) (hb : b.ok) : (binOp .neq 182 (.agg (EC a)) (.agg (EC b))).run Try.prog w = .ok (.bool (!decide (a = b))) w := by
  rw [run_neq_struct, equal_ec w a b ha hb]; rfl
set_option maxRecDepth 100000 in
theorem nd_same (w : World) (S T : Nat → Prop) (A B : Option Addr) (n c m d : Nat) (hs gs : List EV) (hx : Es w S A n c hs) (hy : Es w T B m d gs) (hn : n ≤ 1000000000) :
    Calls Try.prog 60 #[.slice A n c, .slice B m d] w fun e w' => e = .returned (.bool (decide (hs = gs))) ∧ Below w.heap.size w w' := by
  have HX := Lib.hid hx
  have HY := Lib.hid hy
  have HL := Lib.hid hx.len
  have HM := Lib.hid hy.len
  clear hx hy
  by_cases hnm : n = m
  · subst hnm
    go_enter Try.func60, Try.ntmps60
    go_wp2_with fail
    go_loopw [5] (fun v5 wr => Hid (Below w.heap.size w wr) ∧ ∃ i : Nat, i ≤ n ∧ v5 = .int .i64 (i : Int) ∧ Hid (∀ j, j < i → hs[j]? = gs[j]?)) (fun v5 _ => n - (intOf v5).toNat)
    case atStart => exact ⟨Lib.hid (Below.refl _ _), 0, Nat.zero_le _, rfl, Lib.hid (by omega)⟩
    case round =>
      obtain ⟨HB, i, hi, rfl, HI⟩ := hrel
      by_cases hlt : i < n
      · have hlt' : (i : Int) < (n : Int) := by omega
        obtain ⟨ad, p, x, rfl, hp, hl, hat, hsz, -⟩ := (HX.out.after (by omega) HB.out).at_ hlt
        obtain ⟨ad2, p2, y, rfl, hp2, hl2, hat2, hsz2, -⟩ := (HY.out.after (by omega) HB.out).at_ hlt
        have HAT := Lib.hid hat.out
        have HAT2 := Lib.hid hat2.out
        have HN : Hid (x.ok ∧ y.ok) := Lib.hid ⟨by have := hsz; simp [EC, u8s] at this; exact this, by have := hsz2; simp [EC, u8s] at this; exact this⟩
        obtain ⟨R, hR⟩ : ∃ R, R = EC x := ⟨_, rfl⟩
        obtain ⟨R', hR'⟩ : ∃ R, R = EC y := ⟨_, rfl⟩
        rw [← hR] at HAT
        rw [← hR'] at HAT2
        have HS : Hid (R.size = 34 ∧ R'.size = 34) := Lib.hid (by rw [hR, hR']; exact ⟨hsz, hsz2⟩)
        have HNE : Hid (∀ w, (binOp .neq 182 (.agg R) (.agg R')).run Try.prog w = .ok (.bool (!decide (x = y))) w) := Lib.hid fun w => by rw [hR, hR']; exact neq_ec w x y HN.out.1 HN.out.2
        have HG : Hid (∀ w, (eqGuard .neq 182 (.tmp 20) (.tmp 24) (.agg R) (.agg R')).run Try.prog w = .ok () w) := Lib.hid fun w => by rw [hR, hR']; exact guard_ec w _ _ _ x y
        clear hat hat2 hsz hsz2 hR hR'
        obtain ⟨D, hD⟩ : ∃ D, D = decide (x = y) := ⟨_, rfl⟩
        rw [← hD] at HNE
        have HD := Lib.hid hD
        clear hD
        go_wp2_with fail
        refine wp_region_held_drew (S := fun w' => Hid (At w' p R ∧ At w' p2 R')) (by kernel_rfl) (Lib.hid ⟨HAT.out, HAT2.out⟩) (fun hHeld => ?_)
        refine wpAnyH_take (i := 0) (oi := { dst := some 17, op := Op.move (Operand.tmp 0), type := 82, pos := "ref.go:195", after := #[], guard := none }) (v := ?v0) rfl (by kernel_rfl) (by kernel_rfl) (by kernel_rfl) (fun _ _ _ h => h) (Or.inl ⟨by rfl, ?hy0⟩) hHeld ?rest0
        case hy0 => (intro w hSw; go_simp; try with_reducible rfl)
        try simp only [Act.put, List.setIfInBounds_toArray, List.set_cons_zero, List.set_cons_succ]
        refine wpAnyH_take (i := 1) (oi := { dst := some 18, op := Op.move (Operand.tmp 5), type := 3, pos := "ref.go:195", after := #[], guard := none }) (v := ?v1) rfl (by kernel_rfl) (by kernel_rfl) (by kernel_rfl) (fun _ _ _ h => h) (Or.inl ⟨by rfl, ?hy1⟩) hHeld ?rest1
        case hy1 => (intro w hSw; go_simp; try with_reducible rfl)
        try simp only [Act.put, List.setIfInBounds_toArray, List.set_cons_zero, List.set_cons_succ]
        refine wpAnyH_take (i := 2) (oi := { dst := some 19, op := Op.indexAddr 82 (Operand.tmp 17) (Operand.tmp 18), type := 0, pos := "ref.go:195", after := #[{ on := 0, ground := Ground.data }, { on := 1, ground := Ground.data }], guard := none }) (v := ?v2) rfl (by kernel_rfl) (by kernel_rfl) (by kernel_rfl) (fun _ _ _ h => h) (Or.inl ⟨by rfl, ?hy2⟩) hHeld ?rest2
        case hy2 => (intro w hSw; go_simp; try with_reducible rfl)
        try simp only [Act.put, List.setIfInBounds_toArray, List.set_cons_zero, List.set_cons_succ]
        refine wpAnyH_take (i := 3) (oi := { dst := some 20, op := Op.load 182 (Operand.tmp 19), type := 182, pos := "ref.go:195", after := #[{ on := 2, ground := Ground.data }], guard := none }) (v := _) rfl (by kernel_rfl) (by kernel_rfl) (by kernel_rfl) (fun _ _ _ h => h) (yields_A rfl (by rfl) rfl (by rw [HS.out.1]; exact wide182) (fun w' hs => (Hid.out hs).1)) hHeld ?_
        try simp only [Act.put, List.setIfInBounds_toArray, List.set_cons_zero, List.set_cons_succ]
        refine wpAnyH_take (i := 4) (oi := { dst := some 21, op := Op.move (Operand.tmp 1), type := 82, pos := "ref.go:195", after := #[], guard := none }) (v := ?v4) rfl (by kernel_rfl) (by kernel_rfl) (by kernel_rfl) (fun _ _ _ h => h) (Or.inl ⟨by rfl, ?hy4⟩) hHeld ?rest4
        case hy4 => (intro w hSw; go_simp; try with_reducible rfl)
        try simp only [Act.put, List.setIfInBounds_toArray, List.set_cons_zero, List.set_cons_succ]
        refine wpAnyH_take (i := 5) (oi := { dst := some 22, op := Op.move (Operand.tmp 5), type := 3, pos := "ref.go:195", after := #[], guard := none }) (v := ?v5) rfl (by kernel_rfl) (by kernel_rfl) (by kernel_rfl) (fun _ _ _ h => h) (Or.inl ⟨by rfl, ?hy5⟩) hHeld ?rest5
        case hy5 => (intro w hSw; go_simp; try with_reducible rfl)
        try simp only [Act.put, List.setIfInBounds_toArray, List.set_cons_zero, List.set_cons_succ]
        refine wpAnyH_take (i := 6) (oi := { dst := some 23, op := Op.indexAddr 82 (Operand.tmp 21) (Operand.tmp 22), type := 0, pos := "ref.go:195", after := #[{ on := 4, ground := Ground.data }, { on := 5, ground := Ground.data }], guard := none }) (v := ?v6) rfl (by kernel_rfl) (by kernel_rfl) (by kernel_rfl) (fun _ _ _ h => h) (Or.inl ⟨by rfl, ?hy6⟩) hHeld ?rest6
        case hy6 => (intro w hSw; go_simp; try with_reducible rfl)
        try simp only [Act.put, List.setIfInBounds_toArray, List.set_cons_zero, List.set_cons_succ]
        refine wpAnyH_take (i := 7) (oi := { dst := some 24, op := Op.load 182 (Operand.tmp 23), type := 182, pos := "ref.go:195", after := #[{ on := 6, ground := Ground.data }], guard := none }) (v := _) rfl (by kernel_rfl) (by kernel_rfl) (by kernel_rfl) (fun _ _ _ h => h) (yields_A rfl (by rfl) rfl (by rw [HS.out.2]; exact wide182) (fun w' hs => (Hid.out hs).2)) hHeld ?_
        try simp only [Act.put, List.setIfInBounds_toArray, List.set_cons_zero, List.set_cons_succ]
        refine wpAnyH_take (i := 8) (oi := { dst := some 25, op := Op.binOp BinOp.neq 182 (Operand.tmp 20) (Operand.tmp 24) 182, type := 4, pos := "ref.go:195", after := #[{ on := 3, ground := Ground.data }, { on := 7, ground := Ground.data }], guard := none }) (v := _) rfl (by kernel_rfl) (by kernel_rfl) (by kernel_rfl) (fun _ _ _ h => h) (yields_ne rfl (by rfl) rfl rfl HG.out HNE.out) hHeld ?_
        try simp only [Act.put, List.setIfInBounds_toArray, List.set_cons_zero, List.set_cons_succ]
        refine wpAnyH_done (by kernel_rfl) ?_ _
        cases D with
        | true =>
          have HXY : Hid (x = y) := Lib.hid (of_decide_eq_true HD.out.symm)
          go_wp2_with fail
          exact ⟨⟨Lib.hid HB.out.drew, i + 1, by omega, by go_num, Lib.hid fun j hj => by
            rcases Nat.lt_or_ge j i with h | h
            · exact HI.out j h
            · obtain rfl : j = i := by omega
              rw [hl.out, hl2.out, HXY.out]⟩, by simp [intOf]; omega⟩
        | false =>
          have hne : x ≠ y := of_decide_eq_false HD.out.symm
          have HE : Hid (decide (hs = gs) = false) := Lib.hid (decide_eq_false (fun e => hne (by
            have h1 := hl.out
            have h2 := hl2.out
            rw [e, h2] at h1
            injection h1 with h1
            exact h1.symm)))
          clear hne
          go_wp2_with fail
          go_ret
          exact ⟨ret_bool HE.out.symm, HB.out.drew⟩
      · obtain rfl : i = n := by omega
        have HE : Hid (decide (hs = gs) = true) := Lib.hid (decide_eq_true (List.ext_getElem? fun j => by
          rcases Nat.lt_or_ge j i with h | h
          · exact HI.out j h
          · rw [List.getElem?_eq_none (by rw [HL.out]; exact h), List.getElem?_eq_none (by rw [HM.out]; exact h)]))
        go_wp2_with fail
        go_ret
        exact ⟨ret_bool HE.out.symm, HB.out⟩
  · have hr : decide (hs = gs) = false := by
      refine decide_eq_false (fun e => hnm ?_)
      rw [← HL.out, ← HM.out, e]
    rw [hr]
    have hnm' : ((n : Int) != (m : Int)) = true := by simp; omega
    clear hr hnm
    go_enter Try.func60, Try.ntmps60
    go_wp2_with fail
    go_ret
    exact ⟨rfl, Below.refl _ _⟩
end Go.Proofs.Ytaebmhbggbpnoaa
namespace Go.Proofs.Ytaebmhbggbpnoaa
open Go.RowKit
set_option maxRecDepth 100000 in
theorem nd_samefile (w : World) (S T : Nat → Prop) (s s' : Int) (A B : Option Addr) (n c m d : Nat) (hs gs : List (List UInt8)) (hx : Hs w S A n c hs) (hy : Hs w T B m d gs) (hn : n ≤ 1000000000) :
    Calls Try.prog 55 #[.agg #[.int .i64 s, .slice A n c], .agg #[.int .i64 s', .slice B m d]] w fun e w' => e = .returned (.bool (decide ((⟨s, hs⟩ : FV) = ⟨s', gs⟩))) ∧ Below w.heap.size w w' := by
  have HBB := Lib.hid (((Below.refl w.heap.size w).alloc (Nat.le_refl _) (.cells #[.int .i64 s, .slice A n c] 81)).alloc (by simp) (.cells #[.int .i64 s', .slice B m d] 81))
  have HX := Lib.hid (hx.after (by omega) HBB.out)
  have HY := Lib.hid (hy.after (by omega) HBB.out)
  clear hx hy
  by_cases h : s = s'
  · subst h
    have HE : Hid (decide ((⟨s, hs⟩ : FV) = ⟨s, gs⟩) = decide (hs = gs)) := Lib.hid (by simp)
    go_enter Try.func55, Try.ntmps55
    go_wp2_with fail
    refine (nd_hashes _ S T A B n c m d hs gs HX.out HY.out hn).mono ?_
    rintro e w1 ⟨rfl, hb⟩
    have HB := Lib.hid (HBB.out.trans (hb.mono HBB.out.size))
    clear hb
    obtain ⟨D, hD⟩ : ∃ D, D = decide (hs = gs) := ⟨_, rfl⟩
    rw [← hD]
    rw [← hD] at HE
    clear hD
    go_wp2_with fail
    go_ret
    exact ⟨ret_bool HE.out.symm, HB.out⟩
  · have HE : Hid (decide ((⟨s, hs⟩ : FV) = ⟨s', gs⟩) = false) := Lib.hid (decide_eq_false (fun e => h (congrArg FV.size e)))
    have h' : (s == s') = false := by simpa using h
    go_enter Try.func55, Try.ntmps55
    go_wp2_with fail
    go_ret
    exact ⟨ret_bool HE.out.symm, HBB.out⟩
set_option maxRecDepth 100000 in
theorem nd_sameobj (w : World) (S T : Nat → Prop) (k k' : Int) (A B : Option Addr) (n c m d : Nat) (xs ys : List UInt8) (hx : Bs w S A n c xs) (hy : Bs w T B m d ys) (hn : n ≤ 1000000000) (hm : m ≤ 1000000000) :
    Calls Try.prog 63 #[.agg #[.int .i64 k, .slice A n c], .agg #[.int .i64 k', .slice B m d]] w fun e w' => e = .returned (.bool (decide (k = k' ∧ xs = ys))) ∧ Below w.heap.size w w' := by
  have HBB := Lib.hid (((Below.refl w.heap.size w).alloc (Nat.le_refl _) (.cells #[.int .i64 k, .slice A n c] 84)).alloc (by simp) (.cells #[.int .i64 k', .slice B m d] 84))
  have HX := Lib.hid (hx.after HBB.out)
  have HY := Lib.hid (hy.after HBB.out)
  clear hx hy
  by_cases h : k = k'
  · subst h
    have HE : Hid (decide (k = k ∧ xs = ys) = decide (xs = ys)) := Lib.hid (by simp)
    go_enter Try.func63, Try.ntmps63
    go_wp2_with fail
    refine (bytes_any _ S T A B n m c d xs ys HX.out HY.out hn hm).mono ?_
    rintro e w1 ⟨rfl, j, rfl⟩
    obtain ⟨D, hD⟩ : ∃ D, D = decide (xs = ys) := ⟨_, rfl⟩
    rw [← hD]
    rw [← hD] at HE
    clear hD
    go_wp2_with fail
    go_ret
    exact ⟨ret_bool HE.out.symm, below_drewN HBB.out _⟩
  · have HE : Hid (decide (k = k' ∧ xs = ys) = false) := Lib.hid (decide_eq_false (fun e => h e.1))
    have h' : (k == k') = false := by simpa using h
    go_enter Try.func63, Try.ntmps63
    go_wp2_with fail
    go_ret
    exact ⟨ret_bool HE.out.symm, HBB.out⟩
end Go.Proofs.Ytaebmhbggbpnoaa
namespace Go.Proofs.Ytaebmhbggbpnoaa
open Go.RowKit
section
variable {ops : Array Oper} {o : Oper} {a : Act} {w : World} {K : Act → World → Prop} {Q : Exit → Act → World → Prop} {E : Prop} {S : World → Prop}
theorem yields_build {ty : TypeId} {parts : Array (Nat × Operand)} {cs : Array Value} (ho : o.op = .build ty parts) (hw : Region.wanted o (yielded ops a.tmps) = true) (hb : Try.prog.built ty (parts.map fun (i, x) => (i, a.eval x)).toList = some cs) : YieldsIf Try.prog ops S o (.agg cs) a :=
  .inl ⟨hw, fun w' _ => by
    unfold execOp
    simp only [ho, Sem.run_bind, run_build w' ty _ cs hb, Result.andThen_ok, Sem.run_pure]⟩
theorem step_appA {α : Type} {enc : α → Array Value} {size bytes : Nat} {sty e : TypeId} {z : Value} (hst : Try.prog.underlying sty = some (.slice e)) (hinfo : (Try.prog.info? e).map (fun i => (i.zero, i.size, i.bytes)) = some (some z, size, bytes)) (hz : z.cells.size = size) (hpos : 0 < size) (hby : bytes ≤ 1000)
    (hgd : o.guard = none) (s x : Operand) (ho : o.op = .call { callee := .builtin .append, args := #[s, x], argTypes := #[sty, sty] }) {w2 : World} {base k g t : Nat} {v : Value} {l : List α} {y : α}
    (hs : a.eval s = v) (hx : a.eval x = .slice (some ⟨g, 0, none⟩) 1 1) (hown : w2.ownsRow base e size v k (l.flatMap fun x => (enc x).toList)) (hb : Blk w2 g t (enc y)) (hy : (enc y).size = size) (h1 : (enc y).all (·.oneCell') = true) (hk : k + 1 ≤ 1000000000) (hbase : base ≤ w2.heap.size)
    (h : ∀ A' c' w', w'.ownsRow base e size (.slice A' (k + 1) c') (k + 1) ((l ++ [y]).flatMap fun x => (enc x).toList) → Below base w2 w' → K (a.put o.dst (.slice A' (k + 1) c')) w') : if Region.wanted o (yielded ops a.tmps) = true then Oper.wp Try.prog o a w2 K Q else E := by
  obtain ⟨i0, hi0, hz0, hz1, hz2⟩ := info_parts hinfo
  refine step_append_any _ hgd s x sty ho base e i0 z size bytes hst hi0 hz0 hz1 hz2 hz hpos v k _ hs hown AnyB (some ⟨g, 0, none⟩) 1 1 (enc y).toList hx ⟨by simp [hy], fun _ => ⟨_, rfl, trivial, fun j u hu => ?_⟩⟩ (fun u hu => (Array.all_eq_true_iff_forall_mem.1 h1) u (by simpa using hu)) (by simp only [maxLen]; omega) (by
      have : (k + 1) * bytes ≤ 1000000000 * 1000 := Nat.mul_le_mul hk hby
      omega) hbase ?_
  · rw [add_plain, hb.cell]
    simpa using hu
  · intro v4 w4 hown4 hg4 hat4
    obtain ⟨A7, c7, rfl, hc7⟩ := own_shape hown4
    exact h A7 c7 w4 (by rw [List.flatMap_append]; simpa using hown4) (Below.grown (Below.refl _ _) hg4 hbase (own_base hown))
end
set_option maxRecDepth 100000 in
theorem nd_own (w : World) (S : Nat → Prop) (A : Option Addr) (n c : Nat) (l : List EV) (hx : Es w S A n c l) (hn : n ≤ 100000) :
    Calls Try.prog 58 #[.slice A n c] w fun e w' => ∃ A' c', e = .returned (.slice A' n c') ∧ Es w' (fun j => w.heap.size ≤ j) A' n c' l ∧ Below w.heap.size w w' := by
  have HX := Lib.hid hx
  have HL := Lib.hid hx.len
  have HALL := Lib.hid hx.all
  clear hx
  go_enter Try.func58, Try.ntmps58
  go_wp2_with fail
  go_loopw [3, 4] (fun v3 v4 wr => ∃ (k : Nat) (A4 : Option Addr) (c4 : Nat), k ≤ n ∧ v4 = .int .i64 (k : Int) ∧ v3 = .slice A4 k c4 ∧ Hid (wr.ownsRow w.heap.size 144 34 (.slice A4 k c4) k ((l.take k).flatMap fun x => (EC x).toList)) ∧ Hid (Below w.heap.size w wr)) (fun _ v4 _ => n - (intOf v4).toNat)
  case atStart => exact ⟨0, none, 0, Nat.zero_le _, rfl, rfl, Lib.hid (by simpa using World.ownsRow_nil _ _ _ _), Lib.hid (Below.refl _ _)⟩
  case round =>
    obtain ⟨k, A4, c4, hk, rfl, rfl, HOW, HBR⟩ := hrel
    by_cases hlt : k < n
    · have hlt' : (k : Int) < (n : Int) := by omega
      obtain ⟨ad, p, x, rfl, hp, hl, hat, hsz, -⟩ := HX.out.at_ hlt
      have hxo : x.ok := by have := hsz; simp [EC, u8s] at this; exact this
      have hat' := hat.out
      obtain ⟨RV, hRV⟩ : ∃ R, R = EC x := ⟨_, rfl⟩
      obtain ⟨RN, hRN⟩ : ∃ R, R = NC x.h := ⟨_, rfl⟩
      have HCC : Hid (∀ w', Below w.heap.size w w' → w'.cell? p = some (.string x.name) ∧ w'.cell? ⟨p.block, p.off + 1, none⟩ = some (.bool x.dir) ∧ At w' ⟨p.block, p.off + 2, none⟩ RN) := Lib.hid fun w' hb => by
        have h := hat'.after hb (hat'.lt (by rw [hsz]; omega))
        rw [hRN]
        exact ⟨h.str, h.flag, h.hash⟩
      have HRN : Hid (RN.size = 32) := Lib.hid (by rw [hRN]; exact NC_size hxo)
      have HRV : Hid (RV = EC x) := Lib.hid hRV
      have HBT : Hid (Try.prog.built 144 [(0, .string x.name), (1, .bool x.dir), (2, .agg RN)] = some RV) := Lib.hid (by rw [hRV, hRN]; exact built144 x hxo)
      obtain ⟨ie, zz, hie, hzz, hsi, hfill⟩ := fill_ent 144 (by simp) x hxo
      rw [← hRV] at hfill
      have HFI := Lib.hid (And.intro hie (And.intro hzz (And.intro hsi hfill)))
      have HS := Lib.hid hsz
      clear hat hat' hsz hxo hie hzz hsi hfill hRV hRN
      go_wp2_with fail
      refine wp_region_held_drew (S := fun w' => Hid (Below w.heap.size w w')) (by kernel_rfl) (Lib.hid HBR.out.drew) (fun hHeld => ?_)
      refine wpAnyH_take (i := 0) (oi := { dst := some 11, op := Op.move (Operand.tmp 3), type := 96, pos := "law.go:18", after := #[], guard := none }) (v := ?v0) rfl (by kernel_rfl) (by kernel_rfl) (by kernel_rfl) (fun _ _ _ h => h) (Or.inl ⟨by rfl, ?hy0⟩) hHeld ?rest0
      case hy0 => (intro w hSw; go_simp; try with_reducible rfl)
      try simp only [Act.put, List.setIfInBounds_toArray, List.set_cons_zero, List.set_cons_succ]
      refine wpAnyH_take (i := 1) (oi := { dst := some 12, op := Op.move (Operand.tmp 0), type := 82, pos := "law.go:18", after := #[], guard := none }) (v := ?v1) rfl (by kernel_rfl) (by kernel_rfl) (by kernel_rfl) (fun _ _ _ h => h) (Or.inl ⟨by rfl, ?hy1⟩) hHeld ?rest1
      case hy1 => (intro w hSw; go_simp; try with_reducible rfl)
      try simp only [Act.put, List.setIfInBounds_toArray, List.set_cons_zero, List.set_cons_succ]
      refine wpAnyH_take (i := 2) (oi := { dst := some 13, op := Op.move (Operand.tmp 4), type := 3, pos := "law.go:18", after := #[], guard := none }) (v := ?v2) rfl (by kernel_rfl) (by kernel_rfl) (by kernel_rfl) (fun _ _ _ h => h) (Or.inl ⟨by rfl, ?hy2⟩) hHeld ?rest2
      case hy2 => (intro w hSw; go_simp; try with_reducible rfl)
      try simp only [Act.put, List.setIfInBounds_toArray, List.set_cons_zero, List.set_cons_succ]
      refine wpAnyH_take (i := 3) (oi := { dst := some 14, op := Op.indexAddr 82 (Operand.tmp 12) (Operand.tmp 13), type := 0, pos := "law.go:18", after := #[{ on := 1, ground := Ground.data }, { on := 2, ground := Ground.data }], guard := none }) (v := ?v3) rfl (by kernel_rfl) (by kernel_rfl) (by kernel_rfl) (fun _ _ _ h => h) (Or.inl ⟨by rfl, ?hy3⟩) hHeld ?rest3
      case hy3 => (intro w hSw; go_simp; try with_reducible rfl)
      try simp only [Act.put, List.setIfInBounds_toArray, List.set_cons_zero, List.set_cons_succ]
      refine wpAnyH_take (i := 4) (oi := { dst := some 15, op := Op.fieldAddr 182 (Operand.tmp 14) 0, type := 0, pos := "law.go:18", after := #[{ on := 3, ground := Ground.data }], guard := none }) (v := ?v4) rfl (by kernel_rfl) (by kernel_rfl) (by kernel_rfl) (fun _ _ _ h => h) (Or.inl ⟨by rfl, ?hy4⟩) hHeld ?rest4
      case hy4 => (intro w hSw; go_simp; try with_reducible rfl)
      try simp only [Act.put, List.setIfInBounds_toArray, List.set_cons_zero, List.set_cons_succ]
      refine wpAnyH_take (i := 5) (oi := { dst := some 16, op := Op.load 9 (Operand.tmp 15), type := 9, pos := "law.go:18", after := #[{ on := 4, ground := Ground.data }], guard := none }) (v := ?v5) rfl (by kernel_rfl) (by kernel_rfl) (by kernel_rfl) (fun _ _ _ h => h) (Or.inl ⟨by rfl, ?hy5⟩) hHeld ?rest5
      case hy5 => (intro w hSw; have hc := (HCC.out _ (Hid.out hSw)).1; go_simp; try with_reducible rfl)
      try simp only [Act.put, List.setIfInBounds_toArray, List.set_cons_zero, List.set_cons_succ]
      refine wpAnyH_take (i := 6) (oi := { dst := some 17, op := Op.move (Operand.tmp 0), type := 82, pos := "law.go:18", after := #[], guard := none }) (v := ?v6) rfl (by kernel_rfl) (by kernel_rfl) (by kernel_rfl) (fun _ _ _ h => h) (Or.inl ⟨by rfl, ?hy6⟩) hHeld ?rest6
      case hy6 => (intro w hSw; go_simp; try with_reducible rfl)
      try simp only [Act.put, List.setIfInBounds_toArray, List.set_cons_zero, List.set_cons_succ]
      refine wpAnyH_take (i := 7) (oi := { dst := some 18, op := Op.move (Operand.tmp 4), type := 3, pos := "law.go:18", after := #[], guard := none }) (v := ?v7) rfl (by kernel_rfl) (by kernel_rfl) (by kernel_rfl) (fun _ _ _ h => h) (Or.inl ⟨by rfl, ?hy7⟩) hHeld ?rest7
      case hy7 => (intro w hSw; go_simp; try with_reducible rfl)
      try simp only [Act.put, List.setIfInBounds_toArray, List.set_cons_zero, List.set_cons_succ]
      refine wpAnyH_take (i := 8) (oi := { dst := some 19, op := Op.indexAddr 82 (Operand.tmp 17) (Operand.tmp 18), type := 0, pos := "law.go:18", after := #[{ on := 6, ground := Ground.data }, { on := 7, ground := Ground.data }], guard := none }) (v := ?v8) rfl (by kernel_rfl) (by kernel_rfl) (by kernel_rfl) (fun _ _ _ h => h) (Or.inl ⟨by rfl, ?hy8⟩) hHeld ?rest8
      case hy8 => (intro w hSw; go_simp; try with_reducible rfl)
      try simp only [Act.put, List.setIfInBounds_toArray, List.set_cons_zero, List.set_cons_succ]
      refine wpAnyH_take (i := 9) (oi := { dst := some 20, op := Op.fieldAddr 182 (Operand.tmp 19) 1, type := 0, pos := "law.go:18", after := #[{ on := 8, ground := Ground.data }], guard := none }) (v := ?v9) rfl (by kernel_rfl) (by kernel_rfl) (by kernel_rfl) (fun _ _ _ h => h) (Or.inl ⟨by rfl, ?hy9⟩) hHeld ?rest9
      case hy9 => (intro w hSw; go_simp; try with_reducible rfl)
      try simp only [Act.put, List.setIfInBounds_toArray, List.set_cons_zero, List.set_cons_succ]
      refine wpAnyH_take (i := 10) (oi := { dst := some 21, op := Op.load 4 (Operand.tmp 20), type := 4, pos := "law.go:18", after := #[{ on := 9, ground := Ground.data }], guard := none }) (v := ?v10) rfl (by kernel_rfl) (by kernel_rfl) (by kernel_rfl) (fun _ _ _ h => h) (Or.inl ⟨by rfl, ?hy10⟩) hHeld ?rest10
      case hy10 => (intro w hSw; have hc := (HCC.out _ (Hid.out hSw)).2.1; go_simp; try with_reducible rfl)
      try simp only [Act.put, List.setIfInBounds_toArray, List.set_cons_zero, List.set_cons_succ]
      refine wpAnyH_take (i := 11) (oi := { dst := some 22, op := Op.move (Operand.tmp 0), type := 82, pos := "law.go:18", after := #[], guard := none }) (v := ?v11) rfl (by kernel_rfl) (by kernel_rfl) (by kernel_rfl) (fun _ _ _ h => h) (Or.inl ⟨by rfl, ?hy11⟩) hHeld ?rest11
      case hy11 => (intro w hSw; go_simp; try with_reducible rfl)
      try simp only [Act.put, List.setIfInBounds_toArray, List.set_cons_zero, List.set_cons_succ]
      refine wpAnyH_take (i := 12) (oi := { dst := some 23, op := Op.move (Operand.tmp 4), type := 3, pos := "law.go:18", after := #[], guard := none }) (v := ?v12) rfl (by kernel_rfl) (by kernel_rfl) (by kernel_rfl) (fun _ _ _ h => h) (Or.inl ⟨by rfl, ?hy12⟩) hHeld ?rest12
      case hy12 => (intro w hSw; go_simp; try with_reducible rfl)
      try simp only [Act.put, List.setIfInBounds_toArray, List.set_cons_zero, List.set_cons_succ]
      refine wpAnyH_take (i := 13) (oi := { dst := some 24, op := Op.indexAddr 82 (Operand.tmp 22) (Operand.tmp 23), type := 0, pos := "law.go:18", after := #[{ on := 11, ground := Ground.data }, { on := 12, ground := Ground.data }], guard := none }) (v := ?v13) rfl (by kernel_rfl) (by kernel_rfl) (by kernel_rfl) (fun _ _ _ h => h) (Or.inl ⟨by rfl, ?hy13⟩) hHeld ?rest13
      case hy13 => (intro w hSw; go_simp; try with_reducible rfl)
      try simp only [Act.put, List.setIfInBounds_toArray, List.set_cons_zero, List.set_cons_succ]
      refine wpAnyH_take (i := 14) (oi := { dst := some 25, op := Op.fieldAddr 182 (Operand.tmp 24) 2, type := 0, pos := "law.go:18", after := #[{ on := 13, ground := Ground.data }], guard := none }) (v := ?v14) rfl (by kernel_rfl) (by kernel_rfl) (by kernel_rfl) (fun _ _ _ h => h) (Or.inl ⟨by rfl, ?hy14⟩) hHeld ?rest14
      case hy14 => (intro w hSw; go_simp; try with_reducible rfl)
      try simp only [Act.put, List.setIfInBounds_toArray, List.set_cons_zero, List.set_cons_succ]
      refine wpAnyH_take (i := 15) (oi := { dst := some 26, op := Op.load 107 (Operand.tmp 25), type := 107, pos := "law.go:18", after := #[{ on := 14, ground := Ground.data }], guard := none }) (v := _) rfl (by kernel_rfl) (by kernel_rfl) (by kernel_rfl) (fun _ _ _ h => h) (yields_A rfl (by rfl) rfl (by rw [HRN.out]; exact wide107) (fun w' hs => (HCC.out w' (Hid.out hs)).2.2)) hHeld ?_
      try simp only [Act.put, List.setIfInBounds_toArray, List.set_cons_zero, List.set_cons_succ]
      refine wpAnyH_take (i := 16) (oi := { dst := some 27, op := Op.build 144 #[(0, Operand.tmp 16), (1, Operand.tmp 21), (2, Operand.tmp 26)], type := 144, pos := "law.go:18", after := #[{ on := 5, ground := Ground.data }, { on := 10, ground := Ground.data }, { on := 15, ground := Ground.data }], guard := none }) (v := _) rfl (by kernel_rfl) (by kernel_rfl) (by kernel_rfl) (fun _ _ _ h => h) (yields_build rfl (by rfl) (by simp only [List.map_toArray, List.map_cons, List.map_nil]; exact HBT.out)) hHeld ?_
      try simp only [Act.put, List.setIfInBounds_toArray, List.set_cons_zero, List.set_cons_succ]
      refine wpAnyH_ready (rs := [17]) (by kernel_rfl) (by simp) ?_
      refine AllReadyH.cons (o := { dst := some 28, op := Op.buildSlice 96 1 #[(0, Operand.tmp 27)], type := 96, pos := "law.go:18", after := #[{ on := 16, ground := Ground.data }], guard := none }) rfl (fun K hK => ?_) AllReadyH.nil
      (rw [if_pos (by rfl)]; refine wp_buildSlice 96 144 1 _ rfl RV ie zz Try.underlying96 HFI.out.1 HFI.out.2.1 (by rw [HFI.out.2.2.1]; omega) (by rw [HFI.out.2.2.1]; omega) ((congrArg (Instr.fill _ _) (by simp only [List.map_toArray, List.map_cons, List.map_nil]; rfl)).trans HFI.out.2.2.2) ?_)
      refine hK.out _ _ ((Lib.hid ((Hid.out hHeld).alloc (Hid.out hHeld).size _))) (fun hHeld => ?_)
      clear hK K
      try simp only [Act.put, List.setIfInBounds_toArray, List.set_cons_zero, List.set_cons_succ]
      refine wpAnyH_ready (rs := [18]) (by kernel_rfl) (by simp) ?_
      refine AllReadyH.cons (o := { dst := some 29, op := Op.call { callee := Callee.builtin Builtin.append, args := #[Operand.tmp 11, Operand.tmp 28], argTypes := #[96, 96] }, type := 96, pos := "law.go:18", after := #[{ on := 0, ground := Ground.data }, { on := 17, ground := Ground.data }], guard := none }) rfl (fun K hK => ?_) AllReadyH.nil
      (refine step_appA (enc := EC) (l := l.take k) (y := x) (base := w.heap.size) (v := .slice A4 k c4) (k := k) (g := wr.heap.size) (t := 144) Try.underlying96 info144 (by rw [Value.cells]; exact EC_size (e := noEnt) noName_len) (by omega) (by omega) rfl (.tmp 11) (.tmp 28) rfl rfl rfl (own_below HOW.out (((Below.refl _ _).drew).alloc (Nat.le_refl _) _) (Nat.le_refl _)) (by rw [← HRV.out]; exact blk_new' rfl) HS.out (EC_one x) (by omega) (by have := HBR.out.size; simp; omega) ?_; intro A7 c7 w5 hown5 hb5)
      refine hK.out _ _ ((Lib.hid ((Hid.out hHeld).trans hb5))) (fun hHeld => ?_)
      clear hK K
      try simp only [Act.put, List.setIfInBounds_toArray, List.set_cons_zero, List.set_cons_succ]
      refine wpAnyH_take (i := 19) (oi := { dst := some 3, op := Op.assign (Operand.tmp 29), type := 96, pos := "law.go:18", after := #[{ on := 18, ground := Ground.data }, { on := 18, ground := Ground.chain }, { on := 0, ground := Ground.phase }, { on := 1, ground := Ground.phase }, { on := 2, ground := Ground.phase }, { on := 3, ground := Ground.phase }, { on := 4, ground := Ground.phase }, { on := 5, ground := Ground.phase }, { on := 6, ground := Ground.phase }, { on := 7, ground := Ground.phase }, { on := 8, ground := Ground.phase }, { on := 9, ground := Ground.phase }, { on := 10, ground := Ground.phase }, { on := 11, ground := Ground.phase }, { on := 12, ground := Ground.phase }, { on := 13, ground := Ground.phase }, { on := 14, ground := Ground.phase }, { on := 15, ground := Ground.phase }, { on := 16, ground := Ground.phase }, { on := 17, ground := Ground.phase }, { on := 18, ground := Ground.phase }], guard := none }) (v := ?v19) rfl (by kernel_rfl) (by kernel_rfl) (by kernel_rfl) (fun _ _ _ h => h) (Or.inl ⟨by rfl, ?hy19⟩) hHeld ?rest19
      case hy19 => (intro w hSw; go_simp; try with_reducible rfl)
      try simp only [Act.put, List.setIfInBounds_toArray, List.set_cons_zero, List.set_cons_succ]
      refine wpAnyH_done (by kernel_rfl) ?_ _
      go_wp2_with fail
      refine ⟨⟨k + 1, A7, c7, by omega, by go_num, rfl, Lib.hid ?_, hHeld⟩, by simp [intOf]; omega⟩
      rw [take_snoc hl.out]
      exact hown5
    · obtain rfl : k = n := by omega
      have hT : l.take k = l := List.take_of_length_le (by rw [HL.out]; exact Nat.le_refl _)
      have HLS : Hid (Es wr (fun j => w.heap.size ≤ j) A4 k c4 l) := Lib.hid (by
        have h := HOW.out
        rw [hT] at h
        exact Ls.of_own h HL.out HALL.out)
      clear hT
      go_wp2_with fail
      go_ret
      exact ⟨A4, c4, rfl, HLS.out, HBR.out⟩
set_option maxRecDepth 100000 in
theorem nd_eback (w : World) (S : Nat → Prop) (A : Option Addr) (n c : Nat) (l : List EV) (hx : Es w S A n c l) (hn : n ≤ 100000) :
    Calls Try.prog 61 #[.slice A n c] w fun e w' => ∃ A' c', e = .returned (.slice A' n c') ∧ Es w' (fun j => w.heap.size ≤ j) A' n c' l ∧ Below w.heap.size w w' := by
  have HX := Lib.hid hx
  have HL := Lib.hid hx.len
  have HALL := Lib.hid hx.all
  clear hx
  go_enter Try.func61, Try.ntmps61
  go_wp2_with fail
  go_loopw [3, 4] (fun v3 v4 wr => ∃ (k : Nat) (A4 : Option Addr) (c4 : Nat), k ≤ n ∧ v4 = .int .i64 (k : Int) ∧ v3 = .slice A4 k c4 ∧ Hid (wr.ownsRow w.heap.size 182 34 (.slice A4 k c4) k ((l.take k).flatMap fun x => (EC x).toList)) ∧ Hid (Below w.heap.size w wr)) (fun _ v4 _ => n - (intOf v4).toNat)
  case atStart => exact ⟨0, none, 0, Nat.zero_le _, rfl, rfl, Lib.hid (by simpa using World.ownsRow_nil _ _ _ _), Lib.hid (Below.refl _ _)⟩
  case round =>
    obtain ⟨k, A4, c4, hk, rfl, rfl, HOW, HBR⟩ := hrel
    by_cases hlt : k < n
    · have hlt' : (k : Int) < (n : Int) := by omega
      obtain ⟨ad, p, x, rfl, hp, hl, hat, hsz, -⟩ := HX.out.at_ hlt
      have hxo : x.ok := by have := hsz; simp [EC, u8s] at this; exact this
      have hat' := hat.out
      obtain ⟨RV, hRV⟩ : ∃ R, R = EC x := ⟨_, rfl⟩
      obtain ⟨RN, hRN⟩ : ∃ R, R = NC x.h := ⟨_, rfl⟩
      have HCC : Hid (∀ w', Below w.heap.size w w' → w'.cell? p = some (.string x.name) ∧ w'.cell? ⟨p.block, p.off + 1, none⟩ = some (.bool x.dir) ∧ At w' ⟨p.block, p.off + 2, none⟩ RN) := Lib.hid fun w' hb => by
        have h := hat'.after hb (hat'.lt (by rw [hsz]; omega))
        rw [hRN]
        exact ⟨h.str, h.flag, h.hash⟩
      have HRN : Hid (RN.size = 32) := Lib.hid (by rw [hRN]; exact NC_size hxo)
      have HRV : Hid (RV = EC x) := Lib.hid hRV
      have HBT : Hid (Try.prog.built 182 [(0, .string x.name), (1, .bool x.dir), (2, .agg RN)] = some RV) := Lib.hid (by rw [hRV, hRN]; exact built182 x hxo)
      obtain ⟨ie, zz, hie, hzz, hsi, hfill⟩ := fill_ent 182 (by simp) x hxo
      rw [← hRV] at hfill
      have HFI := Lib.hid (And.intro hie (And.intro hzz (And.intro hsi hfill)))
      have HS := Lib.hid hsz
      clear hat hat' hsz hxo hie hzz hsi hfill hRV hRN
      go_wp2_with fail
      refine wp_region_held_drew (S := fun w' => Hid (Below w.heap.size w w')) (by kernel_rfl) (Lib.hid HBR.out.drew) (fun hHeld => ?_)
      refine wpAnyH_take (i := 0) (oi := { dst := some 11, op := Op.move (Operand.tmp 3), type := 82, pos := "law.go:27", after := #[], guard := none }) (v := ?v0) rfl (by kernel_rfl) (by kernel_rfl) (by kernel_rfl) (fun _ _ _ h => h) (Or.inl ⟨by rfl, ?hy0⟩) hHeld ?rest0
      case hy0 => (intro w hSw; go_simp; try with_reducible rfl)
      try simp only [Act.put, List.setIfInBounds_toArray, List.set_cons_zero, List.set_cons_succ]
      refine wpAnyH_take (i := 1) (oi := { dst := some 12, op := Op.move (Operand.tmp 0), type := 96, pos := "law.go:27", after := #[], guard := none }) (v := ?v1) rfl (by kernel_rfl) (by kernel_rfl) (by kernel_rfl) (fun _ _ _ h => h) (Or.inl ⟨by rfl, ?hy1⟩) hHeld ?rest1
      case hy1 => (intro w hSw; go_simp; try with_reducible rfl)
      try simp only [Act.put, List.setIfInBounds_toArray, List.set_cons_zero, List.set_cons_succ]
      refine wpAnyH_take (i := 2) (oi := { dst := some 13, op := Op.move (Operand.tmp 4), type := 3, pos := "law.go:27", after := #[], guard := none }) (v := ?v2) rfl (by kernel_rfl) (by kernel_rfl) (by kernel_rfl) (fun _ _ _ h => h) (Or.inl ⟨by rfl, ?hy2⟩) hHeld ?rest2
      case hy2 => (intro w hSw; go_simp; try with_reducible rfl)
      try simp only [Act.put, List.setIfInBounds_toArray, List.set_cons_zero, List.set_cons_succ]
      refine wpAnyH_take (i := 3) (oi := { dst := some 14, op := Op.indexAddr 96 (Operand.tmp 12) (Operand.tmp 13), type := 0, pos := "law.go:27", after := #[{ on := 1, ground := Ground.data }, { on := 2, ground := Ground.data }], guard := none }) (v := ?v3) rfl (by kernel_rfl) (by kernel_rfl) (by kernel_rfl) (fun _ _ _ h => h) (Or.inl ⟨by rfl, ?hy3⟩) hHeld ?rest3
      case hy3 => (intro w hSw; go_simp; try with_reducible rfl)
      try simp only [Act.put, List.setIfInBounds_toArray, List.set_cons_zero, List.set_cons_succ]
      refine wpAnyH_take (i := 4) (oi := { dst := some 15, op := Op.fieldAddr 144 (Operand.tmp 14) 0, type := 0, pos := "law.go:27", after := #[{ on := 3, ground := Ground.data }], guard := none }) (v := ?v4) rfl (by kernel_rfl) (by kernel_rfl) (by kernel_rfl) (fun _ _ _ h => h) (Or.inl ⟨by rfl, ?hy4⟩) hHeld ?rest4
      case hy4 => (intro w hSw; go_simp; try with_reducible rfl)
      try simp only [Act.put, List.setIfInBounds_toArray, List.set_cons_zero, List.set_cons_succ]
      refine wpAnyH_take (i := 5) (oi := { dst := some 16, op := Op.load 9 (Operand.tmp 15), type := 9, pos := "law.go:27", after := #[{ on := 4, ground := Ground.data }], guard := none }) (v := ?v5) rfl (by kernel_rfl) (by kernel_rfl) (by kernel_rfl) (fun _ _ _ h => h) (Or.inl ⟨by rfl, ?hy5⟩) hHeld ?rest5
      case hy5 => (intro w hSw; have hc := (HCC.out _ (Hid.out hSw)).1; go_simp; try with_reducible rfl)
      try simp only [Act.put, List.setIfInBounds_toArray, List.set_cons_zero, List.set_cons_succ]
      refine wpAnyH_take (i := 6) (oi := { dst := some 17, op := Op.move (Operand.tmp 0), type := 96, pos := "law.go:27", after := #[], guard := none }) (v := ?v6) rfl (by kernel_rfl) (by kernel_rfl) (by kernel_rfl) (fun _ _ _ h => h) (Or.inl ⟨by rfl, ?hy6⟩) hHeld ?rest6
      case hy6 => (intro w hSw; go_simp; try with_reducible rfl)
      try simp only [Act.put, List.setIfInBounds_toArray, List.set_cons_zero, List.set_cons_succ]
      refine wpAnyH_take (i := 7) (oi := { dst := some 18, op := Op.move (Operand.tmp 4), type := 3, pos := "law.go:27", after := #[], guard := none }) (v := ?v7) rfl (by kernel_rfl) (by kernel_rfl) (by kernel_rfl) (fun _ _ _ h => h) (Or.inl ⟨by rfl, ?hy7⟩) hHeld ?rest7
      case hy7 => (intro w hSw; go_simp; try with_reducible rfl)
      try simp only [Act.put, List.setIfInBounds_toArray, List.set_cons_zero, List.set_cons_succ]
      refine wpAnyH_take (i := 8) (oi := { dst := some 19, op := Op.indexAddr 96 (Operand.tmp 17) (Operand.tmp 18), type := 0, pos := "law.go:27", after := #[{ on := 6, ground := Ground.data }, { on := 7, ground := Ground.data }], guard := none }) (v := ?v8) rfl (by kernel_rfl) (by kernel_rfl) (by kernel_rfl) (fun _ _ _ h => h) (Or.inl ⟨by rfl, ?hy8⟩) hHeld ?rest8
      case hy8 => (intro w hSw; go_simp; try with_reducible rfl)
      try simp only [Act.put, List.setIfInBounds_toArray, List.set_cons_zero, List.set_cons_succ]
      refine wpAnyH_take (i := 9) (oi := { dst := some 20, op := Op.fieldAddr 144 (Operand.tmp 19) 1, type := 0, pos := "law.go:27", after := #[{ on := 8, ground := Ground.data }], guard := none }) (v := ?v9) rfl (by kernel_rfl) (by kernel_rfl) (by kernel_rfl) (fun _ _ _ h => h) (Or.inl ⟨by rfl, ?hy9⟩) hHeld ?rest9
      case hy9 => (intro w hSw; go_simp; try with_reducible rfl)
      try simp only [Act.put, List.setIfInBounds_toArray, List.set_cons_zero, List.set_cons_succ]
      refine wpAnyH_take (i := 10) (oi := { dst := some 21, op := Op.load 4 (Operand.tmp 20), type := 4, pos := "law.go:27", after := #[{ on := 9, ground := Ground.data }], guard := none }) (v := ?v10) rfl (by kernel_rfl) (by kernel_rfl) (by kernel_rfl) (fun _ _ _ h => h) (Or.inl ⟨by rfl, ?hy10⟩) hHeld ?rest10
      case hy10 => (intro w hSw; have hc := (HCC.out _ (Hid.out hSw)).2.1; go_simp; try with_reducible rfl)
      try simp only [Act.put, List.setIfInBounds_toArray, List.set_cons_zero, List.set_cons_succ]
      refine wpAnyH_take (i := 11) (oi := { dst := some 22, op := Op.move (Operand.tmp 0), type := 96, pos := "law.go:27", after := #[], guard := none }) (v := ?v11) rfl (by kernel_rfl) (by kernel_rfl) (by kernel_rfl) (fun _ _ _ h => h) (Or.inl ⟨by rfl, ?hy11⟩) hHeld ?rest11
      case hy11 => (intro w hSw; go_simp; try with_reducible rfl)
      try simp only [Act.put, List.setIfInBounds_toArray, List.set_cons_zero, List.set_cons_succ]
      refine wpAnyH_take (i := 12) (oi := { dst := some 23, op := Op.move (Operand.tmp 4), type := 3, pos := "law.go:27", after := #[], guard := none }) (v := ?v12) rfl (by kernel_rfl) (by kernel_rfl) (by kernel_rfl) (fun _ _ _ h => h) (Or.inl ⟨by rfl, ?hy12⟩) hHeld ?rest12
      case hy12 => (intro w hSw; go_simp; try with_reducible rfl)
      try simp only [Act.put, List.setIfInBounds_toArray, List.set_cons_zero, List.set_cons_succ]
      refine wpAnyH_take (i := 13) (oi := { dst := some 24, op := Op.indexAddr 96 (Operand.tmp 22) (Operand.tmp 23), type := 0, pos := "law.go:27", after := #[{ on := 11, ground := Ground.data }, { on := 12, ground := Ground.data }], guard := none }) (v := ?v13) rfl (by kernel_rfl) (by kernel_rfl) (by kernel_rfl) (fun _ _ _ h => h) (Or.inl ⟨by rfl, ?hy13⟩) hHeld ?rest13
      case hy13 => (intro w hSw; go_simp; try with_reducible rfl)
      try simp only [Act.put, List.setIfInBounds_toArray, List.set_cons_zero, List.set_cons_succ]
      refine wpAnyH_take (i := 14) (oi := { dst := some 25, op := Op.fieldAddr 144 (Operand.tmp 24) 2, type := 0, pos := "law.go:27", after := #[{ on := 13, ground := Ground.data }], guard := none }) (v := ?v14) rfl (by kernel_rfl) (by kernel_rfl) (by kernel_rfl) (fun _ _ _ h => h) (Or.inl ⟨by rfl, ?hy14⟩) hHeld ?rest14
      case hy14 => (intro w hSw; go_simp; try with_reducible rfl)
      try simp only [Act.put, List.setIfInBounds_toArray, List.set_cons_zero, List.set_cons_succ]
      refine wpAnyH_take (i := 15) (oi := { dst := some 26, op := Op.load 107 (Operand.tmp 25), type := 107, pos := "law.go:27", after := #[{ on := 14, ground := Ground.data }], guard := none }) (v := _) rfl (by kernel_rfl) (by kernel_rfl) (by kernel_rfl) (fun _ _ _ h => h) (yields_A rfl (by rfl) rfl (by rw [HRN.out]; exact wide107) (fun w' hs => (HCC.out w' (Hid.out hs)).2.2)) hHeld ?_
      try simp only [Act.put, List.setIfInBounds_toArray, List.set_cons_zero, List.set_cons_succ]
      refine wpAnyH_take (i := 16) (oi := { dst := some 27, op := Op.build 182 #[(0, Operand.tmp 16), (1, Operand.tmp 21), (2, Operand.tmp 26)], type := 182, pos := "law.go:27", after := #[{ on := 5, ground := Ground.data }, { on := 10, ground := Ground.data }, { on := 15, ground := Ground.data }], guard := none }) (v := _) rfl (by kernel_rfl) (by kernel_rfl) (by kernel_rfl) (fun _ _ _ h => h) (yields_build rfl (by rfl) (by simp only [List.map_toArray, List.map_cons, List.map_nil]; exact HBT.out)) hHeld ?_
      try simp only [Act.put, List.setIfInBounds_toArray, List.set_cons_zero, List.set_cons_succ]
      refine wpAnyH_ready (rs := [17]) (by kernel_rfl) (by simp) ?_
      refine AllReadyH.cons (o := { dst := some 28, op := Op.buildSlice 82 1 #[(0, Operand.tmp 27)], type := 82, pos := "law.go:27", after := #[{ on := 16, ground := Ground.data }], guard := none }) rfl (fun K hK => ?_) AllReadyH.nil
      (rw [if_pos (by rfl)]; refine wp_buildSlice 82 182 1 _ rfl RV ie zz Try.underlying82 HFI.out.1 HFI.out.2.1 (by rw [HFI.out.2.2.1]; omega) (by rw [HFI.out.2.2.1]; omega) ((congrArg (Instr.fill _ _) (by simp only [List.map_toArray, List.map_cons, List.map_nil]; rfl)).trans HFI.out.2.2.2) ?_)
      refine hK.out _ _ ((Lib.hid ((Hid.out hHeld).alloc (Hid.out hHeld).size _))) (fun hHeld => ?_)
      clear hK K
      try simp only [Act.put, List.setIfInBounds_toArray, List.set_cons_zero, List.set_cons_succ]
      refine wpAnyH_ready (rs := [18]) (by kernel_rfl) (by simp) ?_
      refine AllReadyH.cons (o := { dst := some 29, op := Op.call { callee := Callee.builtin Builtin.append, args := #[Operand.tmp 11, Operand.tmp 28], argTypes := #[82, 82] }, type := 82, pos := "law.go:27", after := #[{ on := 0, ground := Ground.data }, { on := 17, ground := Ground.data }], guard := none }) rfl (fun K hK => ?_) AllReadyH.nil
      (refine step_appA (enc := EC) (l := l.take k) (y := x) (base := w.heap.size) (v := .slice A4 k c4) (k := k) (g := wr.heap.size) (t := 182) Try.underlying82 info182 (by rw [Value.cells]; exact EC_size (e := noEnt) noName_len) (by omega) (by omega) rfl (.tmp 11) (.tmp 28) rfl rfl rfl (own_below HOW.out (((Below.refl _ _).drew).alloc (Nat.le_refl _) _) (Nat.le_refl _)) (by rw [← HRV.out]; exact blk_new' rfl) HS.out (EC_one x) (by omega) (by have := HBR.out.size; simp; omega) ?_; intro A7 c7 w5 hown5 hb5)
      refine hK.out _ _ ((Lib.hid ((Hid.out hHeld).trans hb5))) (fun hHeld => ?_)
      clear hK K
      try simp only [Act.put, List.setIfInBounds_toArray, List.set_cons_zero, List.set_cons_succ]
      refine wpAnyH_take (i := 19) (oi := { dst := some 3, op := Op.assign (Operand.tmp 29), type := 82, pos := "law.go:27", after := #[{ on := 18, ground := Ground.data }, { on := 18, ground := Ground.chain }, { on := 0, ground := Ground.phase }, { on := 1, ground := Ground.phase }, { on := 2, ground := Ground.phase }, { on := 3, ground := Ground.phase }, { on := 4, ground := Ground.phase }, { on := 5, ground := Ground.phase }, { on := 6, ground := Ground.phase }, { on := 7, ground := Ground.phase }, { on := 8, ground := Ground.phase }, { on := 9, ground := Ground.phase }, { on := 10, ground := Ground.phase }, { on := 11, ground := Ground.phase }, { on := 12, ground := Ground.phase }, { on := 13, ground := Ground.phase }, { on := 14, ground := Ground.phase }, { on := 15, ground := Ground.phase }, { on := 16, ground := Ground.phase }, { on := 17, ground := Ground.phase }, { on := 18, ground := Ground.phase }], guard := none }) (v := ?v19) rfl (by kernel_rfl) (by kernel_rfl) (by kernel_rfl) (fun _ _ _ h => h) (Or.inl ⟨by rfl, ?hy19⟩) hHeld ?rest19
      case hy19 => (intro w hSw; go_simp; try with_reducible rfl)
      try simp only [Act.put, List.setIfInBounds_toArray, List.set_cons_zero, List.set_cons_succ]
      refine wpAnyH_done (by kernel_rfl) ?_ _
      go_wp2_with fail
      refine ⟨⟨k + 1, A7, c7, by omega, by go_num, rfl, Lib.hid ?_, hHeld⟩, by simp [intOf]; omega⟩
      rw [take_snoc hl.out]
      exact hown5
    · obtain rfl : k = n := by omega
      have hT : l.take k = l := List.take_of_length_le (by rw [HL.out]; exact Nat.le_refl _)
      have HLS : Hid (Es wr (fun j => w.heap.size ≤ j) A4 k c4 l) := Lib.hid (by
        have h := HOW.out
        rw [hT] at h
        exact Ls.of_own h HL.out HALL.out)
      clear hT
      go_wp2_with fail
      go_ret
      exact ⟨A4, c4, rfl, HLS.out, HBR.out⟩
end Go.Proofs.Ytaebmhbggbpnoaa
namespace Go.Proofs.Ytaebmhbggbpnoaa
open Go.RowKit
def lightN (nh nb : Nat) (l : List EV) : Bool := decide (nh ≤ 200 ∧ l.length ≤ 70 ∧ nb ≤ 5100) && l.all fun e => decide (e.name.size ≤ 60)
set_option maxRecDepth 100000 in
theorem nd_light (w : World) (S : Nat → Prop) (s k : Int) (A B C : Option Addr) (n c m d b e : Nat) (l : List EV) (hx : Es w S B m d l) :
    Calls Try.prog 50 #[.agg #[.int .i64 s, .slice A n c], .slice B m d, .agg #[.int .i64 k, .slice C b e]] w fun r w' => r = .returned (.bool (lightN n b l)) ∧ Below w.heap.size w w' := by
  have HBB := Lib.hid (((Below.refl w.heap.size w).alloc (Nat.le_refl _) (.cells #[.int .i64 s, .slice A n c] 81)).alloc (by simp) (.cells #[.int .i64 k, .slice C b e] 84))
  obtain ⟨W, hW⟩ : ∃ W, W = (w.alloc (.cells #[.int .i64 s, .slice A n c] 81)).alloc (.cells #[.int .i64 k, .slice C b e] 84) := ⟨_, rfl⟩
  rw [← hW] at HBB
  have HX := Lib.hid (hx.after (by omega) HBB.out)
  have HL := Lib.hid hx.len
  clear hx
  by_cases h1 : n ≤ 200
  · have d1 : decide ((200 : Int) < (n : Int)) = false := by simp; omega
    by_cases h2 : m ≤ 70
    · have d2 : decide ((70 : Int) < (m : Int)) = false := by simp; omega
      by_cases h3 : b ≤ 5100
      · have d3 : decide ((5100 : Int) < (b : Int)) = false := by simp; omega
        have HC : Hid (decide (n ≤ 200 ∧ l.length ≤ 70 ∧ b ≤ 5100) = true) := Lib.hid (decide_eq_true ⟨h1, by rw [HL.out]; exact h2, h3⟩)
        clear h1 h3
        go_enter Try.func50, Try.ntmps50
        go_wp2_with fail
        rw [← hW]
        clear hW
        go_loopw [7] (fun v7 wr => wr = W ∧ ∃ i : Nat, i ≤ m ∧ v7 = .int .i64 (i : Int) ∧ Hid (∀ x ∈ l.take i, x.name.size ≤ 60)) (fun v7 _ => m - (intOf v7).toNat)
        case atStart => exact ⟨rfl, 0, Nat.zero_le _, rfl, Lib.hid (by simp)⟩
        case round =>
          obtain ⟨rfl, i, hi, rfl, HI⟩ := hrel
          by_cases hlt : i < m
          · have hlt' : (i : Int) < (m : Int) := by omega
            obtain ⟨ad, p, x, rfl, hp, hl, hat, hsz, -⟩ := HX.out.at_ hlt
            have hc := hat.out.str
            have HXL := Lib.hid hl.out
            clear hat hl
            by_cases hn : x.name.size ≤ 60
            · have dn : decide ((60 : Int) < (x.name.size : Int)) = false := by simp; omega
              go_wp2_with fail
              exact ⟨⟨trivial, i + 1, by omega, by go_num, Lib.hid fun q hq => by
                rw [take_snoc HXL.out] at hq
                rcases List.mem_append.1 hq with h | h
                · exact HI.out q h
                · simp at h
                  subst h
                  exact hn⟩, by simp [intOf]; omega⟩
            · have dn : decide ((60 : Int) < (x.name.size : Int)) = true := by simp; omega
              have HE : Hid (lightN n b l = false) := Lib.hid (by
                unfold lightN
                rw [Bool.and_eq_false_iff]
                exact .inr (List.all_eq_false.2 ⟨x, List.mem_of_getElem? HXL.out, by simp; omega⟩))
              go_wp2_with fail
              go_ret
              exact ⟨ret_bool HE.out.symm, HBB.out⟩
          · obtain rfl : i = m := by omega
            have HE : Hid (lightN n b l = true) := Lib.hid (by
              have h := HI.out
              rw [List.take_of_length_le (by rw [HL.out]; exact Nat.le_refl _)] at h
              unfold lightN
              rw [HC.out, Bool.true_and, List.all_eq_true]
              exact fun x hx => by simpa using h x hx)
            go_wp2_with fail
            go_ret
            exact ⟨ret_bool HE.out.symm, HBB.out⟩
      · have d3 : decide ((5100 : Int) < (b : Int)) = true := by simp; omega
        have HE : Hid (lightN n b l = false) := Lib.hid (by unfold lightN; rw [decide_eq_false (fun e => h3 e.2.2)]; rfl)
        clear h1 h2 h3
        go_enter Try.func50, Try.ntmps50
        go_wp2_with fail
        rw [← hW]
        go_ret
        exact ⟨ret_bool HE.out.symm, HBB.out⟩
    · have d2 : decide ((70 : Int) < (m : Int)) = true := by simp; omega
      have HE : Hid (lightN n b l = false) := Lib.hid (by unfold lightN; rw [decide_eq_false (fun e => h2 (by rw [← HL.out]; exact e.2.1))]; rfl)
      clear h1 h2
      go_enter Try.func50, Try.ntmps50
      go_wp2_with fail
      rw [← hW]
      go_ret
      exact ⟨ret_bool HE.out.symm, HBB.out⟩
  · have d1 : decide ((200 : Int) < (n : Int)) = true := by simp; omega
    have HE : Hid (lightN n b l = false) := Lib.hid (by unfold lightN; rw [decide_eq_false (fun e => h1 e.1)]; rfl)
    clear h1
    go_enter Try.func50, Try.ntmps50
    go_wp2_with fail
    rw [← hW]
    go_ret
    exact ⟨ret_bool HE.out.symm, HBB.out⟩
end Go.Proofs.Ytaebmhbggbpnoaa
