/- The walk of right (node). Conditions: each theorem's premises. -/
import Derived.Test.YtaebmhbggbpnoaaGNd4
import Derived.OrdersHeld
import Derived.Deep.RegionHeld
namespace Go.Proofs.Ytaebmhbggbpnoaa
open Go.RowKit
theorem yields_A {ops : Array Oper} {S : World → Prop} {o : Oper} {a : Act} {ty : TypeId} {x : Operand} {p : Addr} {cs : Array Value} (ho : o.op = .load ty x) (hw : Region.wanted o (yielded ops a.tmps) = true) (hx : a.eval x = .pointer (some p)) (ht : Wide ty cs.size) (hB : ∀ w', S w' → At w' p cs) : YieldsIf Try.prog ops S o (.agg cs) a :=
  .inl ⟨hw, fun w' hs => by
    unfold execOp
    simp only [ho, hx, Instr.loadAt, Instr.sureAddr, Sem.run_bind, Sem.run_pure, Result.andThen_ok, (hB w' hs).load ht]⟩
theorem stepD_of {part : ByteArray → Bool} {cmp : ByteArray → ByteArray → Int} {l : List EV} {k : Nat} {y x : EV} (hy : l[k]? = some y) (hx : l[k + 1]? = some x) : stepD part cmp l (k + 1) = (part x.name && decide (cmp y.name x.name < 0)) := by
  unfold stepD
  rw [hx]
  simp [hy]
theorem stepD_zero {part : ByteArray → Bool} {cmp : ByteArray → ByteArray → Int} {l : List EV} {x : EV} (hx : l[0]? = some x) : stepD part cmp l 0 = part x.name := by
  unfold stepD
  rw [hx]
  simp
theorem stepD_no {part : ByteArray → Bool} {cmp : ByteArray → ByteArray → Int} {l : List EV} {i : Nat} {x : EV} (hx : l[i]? = some x) (hp : part x.name = false) : stepD part cmp l i = false := by
  unfold stepD
  rw [hx]
  simp [hp]
theorem rightD_no {part : ByteArray → Bool} {cmp : ByteArray → ByteArray → Int} {l : List EV} {i : Nat} (hi : i < l.length) (h : stepD part cmp l i = false) : rightD part cmp l = false := by
  unfold rightD
  rw [Bool.and_eq_false_iff]
  exact .inl (List.all_eq_false.2 ⟨i, List.mem_range.2 hi, by simp [h]⟩)
theorem rightD_all {part : ByteArray → Bool} {cmp : ByteArray → ByteArray → Int} {l : List EV} (h : ∀ j, j < l.length → stepD part cmp l j = true) : rightD part cmp l = decide (l.length ≤ 60) := by
  unfold rightD
  rw [List.all_eq_true.2 (fun i hi => h i (List.mem_range.1 hi)), Bool.true_and]
abbrev rightE (l : List EV) : Bool := rightD partB cmpS l
set_option maxRecDepth 100000 in
theorem nd_right (w : World) (S : Nat → Prop) (A : Option Addr) (n c : Nat) (l : List EV) (hx : Es w S A n c l) (hn : n ≤ 1000000000) :
    Calls Try.prog 107 #[.slice A n c] w fun e w' => e = .returned (.bool (rightE l)) ∧ Below w.heap.size w w' := by
  have HX := Lib.hid hx
  have HL := Lib.hid hx.len
  clear hx
  go_enter Try.func107, Try.ntmps107
  go_wp2_with fail
  go_loopw [7] (fun v7 wr => Hid (Below w.heap.size w wr) ∧ ∃ i : Nat, i ≤ n ∧ v7 = .int .i64 (i : Int) ∧ Hid (∀ j, j < i → stepD partB cmpS l j = true)) (fun v7 _ => n - (intOf v7).toNat)
  case atStart => exact ⟨Lib.hid (Below.refl _ _), 0, Nat.zero_le _, rfl, Lib.hid (by omega)⟩
  case round =>
    obtain ⟨HB, i, hi, rfl, HI⟩ := hrel
    by_cases hlt : i < n
    · have hlt' : (i : Int) < (n : Int) := by omega
      obtain ⟨ad, p, x, rfl, hp, hl, hat, hsz, -⟩ := (HX.out.after (by omega) HB.out).at_ hlt
      have HS := Lib.hid hsz
      have HAT := Lib.hid hat.out
      clear hat hsz
      obtain ⟨RV, hRV⟩ : ∃ R, R = EC x := ⟨_, rfl⟩
      have HRV := Lib.hid hRV
      rw [← hRV] at HS HAT
      clear hRV
      have HO : Hid (RV.all (·.oneCell') = true) := Lib.hid (by rw [HRV.out]; exact EC_one x)
      go_wp2_with (first | (refine wl_ldA (cs := RV) rfl 144 (.tmp 10) rfl (by rw [HS.out]; exact wide144) rfl HAT.out ?_) | (refine wl_stA (cs := RV) rfl 144 (.tmp 4) (.tmp 11) rfl (by rw [HS.out]; exact wide144) rfl rfl (Blk.new wr 144 _) (by rw [HS.out]; rfl) HO.out ?_; intro w2 hb2 hg2 hf2))
      have HB2 : Hid (Below w.heap.size w w2) := Lib.hid ((HB.out.alloc HB.out.size _).trans (hf2 _ HB.out.size))
      have HBR : Hid (Blk w2 wr.heap.size 144 RV) := Lib.hid hb2
      have HA2 : Hid (Below wr.heap.size wr w2) := Lib.hid (((Below.refl _ _).alloc (Nat.le_refl _) _).trans (hf2 _ (Nat.le_refl _)))
      clear hb2 hg2 hf2
      simp only [Act.put]
      have HC0 : Hid (∀ w', Below w2.heap.size w2 w' → w'.cell? ⟨wr.heap.size, 0, none⟩ = some (.string x.name) ∧ Blk w' wr.heap.size 144 RV) := Lib.hid fun w' hb => by
        have h := HBR.out.after hb
        exact ⟨by rw [h.cell, HRV.out]; exact EC_0 x, h⟩
      by_cases hP : partB x.name = true
      · have HP := Lib.hid hP
        clear hP
        rcases i with _ | k
        · have HS0 : Hid (stepD partB cmpS l 0 = true) := Lib.hid (by rw [stepD_zero hl.out]; exact HP.out)
          refine wp_region_held_drew (S := fun w' => Hid (Below w2.heap.size w2 w')) (by kernel_rfl) (Lib.hid (Below.refl _ _).drew) (fun hHeld => ?_)
          refine wpAnyH_take (i := 0) (oi := { dst := some 12, op := Op.fieldAddr 144 (Operand.tmp 4) 0, type := 0, pos := "node.go:50", after := #[], guard := none }) (v := ?vB0) rfl (by kernel_rfl) (by kernel_rfl) (by kernel_rfl) (fun _ _ _ h => h) (Or.inl ⟨by rfl, ?hyB0⟩) hHeld ?restB0
          case hyB0 => (intro w hSw; go_simp; try with_reducible rfl)
          try simp only [Act.put, List.setIfInBounds_toArray, List.set_cons_zero, List.set_cons_succ]
          refine wpAnyH_take (i := 1) (oi := { dst := some 13, op := Op.load 9 (Operand.tmp 12), type := 9, pos := "node.go:50", after := #[{ on := 0, ground := Ground.data }], guard := none }) (v := ?vB1) rfl (by kernel_rfl) (by kernel_rfl) (by kernel_rfl) (fun _ _ _ h => h) (Or.inl ⟨by rfl, ?hyB1⟩) hHeld ?restB1
          case hyB1 => (intro w hSw; have hc := (HC0.out _ hSw.out).1; go_simp; try with_reducible rfl)
          try simp only [Act.put, List.setIfInBounds_toArray, List.set_cons_zero, List.set_cons_succ]
          refine wpAnyH_ready (rs := [2]) (by kernel_rfl) (by simp) ?_
          refine AllReadyH.cons (o := { dst := some 14, op := Op.call { callee := Callee.value (Operand.func 132), args := #[Operand.tmp 13], argTypes := #[9] }, type := 4, pos := "node.go:50", after := #[{ on := 1, ground := Ground.data }], guard := none }) rfl (fun K hK => ?_) AllReadyH.nil
          go_simp
          refine (nd_part _ x.name).mono ?_; rintro e wq2 ⟨rfl, hq2⟩; rw [HP.out]
          refine hK.out _ _ ((Lib.hid (hHeld.out.trans (hq2.mono hHeld.out.size)))) (fun hHeld => ?_)
          clear hK K
          try simp only [Act.put, List.setIfInBounds_toArray, List.set_cons_zero, List.set_cons_succ]
          refine wpAnyH_take (i := 3) (oi := { dst := some 15, op := Op.unOp UnOp.not 4 (Operand.tmp 14), type := 4, pos := "node.go:50", after := #[{ on := 2, ground := Ground.data }], guard := none }) (v := ?vB3) rfl (by kernel_rfl) (by kernel_rfl) (by kernel_rfl) (fun _ _ _ h => h) (Or.inl ⟨by rfl, ?hyB3⟩) hHeld ?restB3
          case hyB3 => (intro w hSw; go_simp; try with_reducible rfl)
          try simp only [Act.put, List.setIfInBounds_toArray, List.set_cons_zero, List.set_cons_succ]
          refine wpAnyH_take (i := 4) (oi := { dst := some 16, op := Op.move (Operand.tmp 15), type := 4, pos := "node.go:50", after := #[{ on := 3, ground := Ground.data }, { on := 2, ground := Ground.chain }], guard := none }) (v := ?vB4) rfl (by kernel_rfl) (by kernel_rfl) (by kernel_rfl) (fun _ _ _ h => h) (Or.inl ⟨by rfl, ?hyB4⟩) hHeld ?restB4
          case hyB4 => (intro w hSw; go_simp; try with_reducible rfl)
          try simp only [Act.put, List.setIfInBounds_toArray, List.set_cons_zero, List.set_cons_succ]
          refine wpAnyH_take (i := 5) (oi := { dst := some 17, op := Op.move (Operand.tmp 3), type := 3, pos := "node.go:50", after := #[{ on := 4, ground := Ground.guard }], guard := some (4, false) }) (v := ?vB5) rfl (by kernel_rfl) (by kernel_rfl) (by kernel_rfl) (fun _ _ _ h => h) (Or.inl ⟨by rfl, ?hyB5⟩) hHeld ?restB5
          case hyB5 => (intro w hSw; go_simp; try with_reducible rfl)
          try simp only [Act.put, List.setIfInBounds_toArray, List.set_cons_zero, List.set_cons_succ]
          refine wpAnyH_take (i := 6) (oi := { dst := some 18, op := Op.binOp BinOp.gtr 3 (Operand.tmp 17) (Operand.const (Value.int IntKind.i64 0)) 3, type := 4, pos := "node.go:50", after := #[{ on := 5, ground := Ground.data }, { on := 4, ground := Ground.guard }], guard := some (4, false) }) (v := ?vB6) rfl (by kernel_rfl) (by kernel_rfl) (by kernel_rfl) (fun _ _ _ h => h) (Or.inl ⟨by rfl, ?hyB6⟩) hHeld ?restB6
          case hyB6 => (intro w hSw; go_simp; try with_reducible rfl)
          try simp only [Act.put, List.setIfInBounds_toArray, List.set_cons_zero, List.set_cons_succ]
          refine wpAnyH_take (i := 7) (oi := { dst := some 19, op := Op.move (Operand.tmp 18), type := 4, pos := "node.go:50", after := #[{ on := 6, ground := Ground.data }, { on := 4, ground := Ground.chain }, { on := 4, ground := Ground.guard }], guard := some (4, false) }) (v := ?vB7) rfl (by kernel_rfl) (by kernel_rfl) (by kernel_rfl) (fun _ _ _ h => h) (Or.inl ⟨by rfl, ?hyB7⟩) hHeld ?restB7
          case hyB7 => (intro w hSw; go_simp; try with_reducible rfl)
          try simp only [Act.put, List.setIfInBounds_toArray, List.set_cons_zero, List.set_cons_succ]
          refine wpAnyH_take (i := 8) (oi := { dst := some 20, op := Op.move (Operand.tmp 0), type := 96, pos := "node.go:50", after := #[{ on := 7, ground := Ground.guard }], guard := some (7, true) }) (v := undef) rfl (by kernel_rfl) (by kernel_rfl) (by kernel_rfl) (fun _ _ _ h => h) (Or.inr ⟨by rfl, rfl⟩) hHeld ?_
          try simp only [Act.put, List.setIfInBounds_toArray, List.set_cons_zero, List.set_cons_succ]
          refine wpAnyH_take (i := 9) (oi := { dst := some 21, op := Op.move (Operand.tmp 3), type := 3, pos := "node.go:50", after := #[{ on := 7, ground := Ground.guard }], guard := some (7, true) }) (v := undef) rfl (by kernel_rfl) (by kernel_rfl) (by kernel_rfl) (fun _ _ _ h => h) (Or.inr ⟨by rfl, rfl⟩) hHeld ?_
          try simp only [Act.put, List.setIfInBounds_toArray, List.set_cons_zero, List.set_cons_succ]
          refine wpAnyH_take (i := 10) (oi := { dst := some 22, op := Op.binOp BinOp.sub 3 (Operand.tmp 21) (Operand.const (Value.int IntKind.i64 1)) 3, type := 3, pos := "node.go:50", after := #[{ on := 9, ground := Ground.data }, { on := 7, ground := Ground.guard }], guard := some (7, true) }) (v := undef) rfl (by kernel_rfl) (by kernel_rfl) (by kernel_rfl) (fun _ _ _ h => h) (Or.inr ⟨by rfl, rfl⟩) hHeld ?_
          try simp only [Act.put, List.setIfInBounds_toArray, List.set_cons_zero, List.set_cons_succ]
          refine wpAnyH_take (i := 11) (oi := { dst := some 23, op := Op.indexAddr 96 (Operand.tmp 20) (Operand.tmp 22), type := 0, pos := "node.go:50", after := #[{ on := 8, ground := Ground.data }, { on := 10, ground := Ground.data }, { on := 7, ground := Ground.guard }], guard := some (7, true) }) (v := undef) rfl (by kernel_rfl) (by kernel_rfl) (by kernel_rfl) (fun _ _ _ h => h) (Or.inr ⟨by rfl, rfl⟩) hHeld ?_
          try simp only [Act.put, List.setIfInBounds_toArray, List.set_cons_zero, List.set_cons_succ]
          refine wpAnyH_take (i := 12) (oi := { dst := some 24, op := Op.load 144 (Operand.tmp 23), type := 144, pos := "node.go:50", after := #[{ on := 11, ground := Ground.data }, { on := 7, ground := Ground.guard }], guard := some (7, true) }) (v := undef) rfl (by kernel_rfl) (by kernel_rfl) (by kernel_rfl) (fun _ _ _ h => h) (Or.inr ⟨by rfl, rfl⟩) hHeld ?_
          try simp only [Act.put, List.setIfInBounds_toArray, List.set_cons_zero, List.set_cons_succ]
          refine wpAnyH_take (i := 13) (oi := { dst := some 25, op := Op.load 144 (Operand.tmp 4), type := 144, pos := "node.go:50", after := #[{ on := 7, ground := Ground.guard }], guard := some (7, true) }) (v := undef) rfl (by kernel_rfl) (by kernel_rfl) (by kernel_rfl) (fun _ _ _ h => h) (Or.inr ⟨by rfl, rfl⟩) hHeld ?_
          try simp only [Act.put, List.setIfInBounds_toArray, List.set_cons_zero, List.set_cons_succ]
          refine wpAnyH_ready (rs := [14]) (by kernel_rfl) (by simp) ?_
          refine AllReadyH.cons (o := { dst := some 26, op := Op.call { callee := Callee.value (Operand.func 116), args := #[Operand.tmp 24, Operand.tmp 25], argTypes := #[144, 144] }, type := 3, pos := "node.go:50", after := #[{ on := 12, ground := Ground.data }, { on := 13, ground := Ground.data }, { on := 7, ground := Ground.chain }, { on := 7, ground := Ground.guard }], guard := some (7, true) }) rfl (fun K hK => ?_) AllReadyH.nil
          go_simp
          refine hK.out _ _ hHeld (fun hHeld => ?_)
          clear hK K
          try simp only [Act.put, List.setIfInBounds_toArray, List.set_cons_zero, List.set_cons_succ]
          refine wpAnyH_take (i := 15) (oi := { dst := some 27, op := Op.binOp BinOp.geq 3 (Operand.tmp 26) (Operand.const (Value.int IntKind.i64 0)) 3, type := 4, pos := "node.go:50", after := #[{ on := 14, ground := Ground.data }, { on := 7, ground := Ground.guard }], guard := some (7, true) }) (v := undef) rfl (by kernel_rfl) (by kernel_rfl) (by kernel_rfl) (fun _ _ _ h => h) (Or.inr ⟨by rfl, rfl⟩) hHeld ?_
          try simp only [Act.put, List.setIfInBounds_toArray, List.set_cons_zero, List.set_cons_succ]
          refine wpAnyH_take (i := 16) (oi := { dst := some 28, op := Op.pick (Operand.tmp 19) (Operand.tmp 27) (Operand.const (Value.bool false)), type := 4, pos := "node.go:50", after := #[{ on := 7, ground := Ground.data }, { on := 15, ground := Ground.data }, { on := 4, ground := Ground.guard }], guard := some (4, false) }) (v := ?vB16) rfl (by kernel_rfl) (by kernel_rfl) (by kernel_rfl) (fun _ _ _ h => h) (Or.inl ⟨by rfl, ?hyB16⟩) hHeld ?restB16
          case hyB16 => (intro w hSw; go_simp; try with_reducible rfl)
          try simp only [Act.put, List.setIfInBounds_toArray, List.set_cons_zero, List.set_cons_succ]
          refine wpAnyH_take (i := 17) (oi := { dst := some 29, op := Op.pick (Operand.tmp 16) (Operand.const (Value.bool true)) (Operand.tmp 28), type := 4, pos := "node.go:50", after := #[{ on := 4, ground := Ground.data }, { on := 16, ground := Ground.data }], guard := none }) (v := ?vB17) rfl (by kernel_rfl) (by kernel_rfl) (by kernel_rfl) (fun _ _ _ h => h) (Or.inl ⟨by rfl, ?hyB17⟩) hHeld ?restB17
          case hyB17 => (intro w hSw; go_simp; try with_reducible rfl)
          try simp only [Act.put, List.setIfInBounds_toArray, List.set_cons_zero, List.set_cons_succ]
          refine wpAnyH_done (by kernel_rfl) ?_ _
          go_wp2_with fail
          exact ⟨⟨Lib.hid (HB2.out.trans (hHeld.out.mono HB2.out.size)), 1, by omega, rfl, Lib.hid fun j hj => (show j = 0 by omega) ▸ HS0.out⟩, by simp [intOf]; omega⟩
        · obtain ⟨ad', p', y, e, hp', hly, haty, hszy, -⟩ := (HX.out.after (by omega) HB2.out).at_ (k := k) (by omega)
          cases e
          obtain ⟨RY, hRY⟩ : ∃ R, R = EC y := ⟨_, rfl⟩
          have HSY := Lib.hid hszy
          have HAT2 := Lib.hid haty.out
          rw [← hRY] at HSY HAT2
          obtain ⟨z, hz⟩ : ∃ z, z = cmpS y.name x.name := ⟨_, rfl⟩
          have HCMP : Hid (∀ W, Calls Try.prog 116 #[.agg RY, .agg RV] W fun e w' => e = .returned (.int .i64 z) ∧ Below W.heap.size W w') := Lib.hid (by rw [hRY, HRV.out, hz]; exact fun W => nd_compare W y x)
          have HAY : Hid (∀ w', Below w2.heap.size w2 w' → At w' p' RY) := Lib.hid fun w' hb => HAT2.out.after hb (HAT2.out.lt (by rw [HSY.out]; omega))
          have HST : Hid (stepD partB cmpS l (k + 1) = decide (z < 0)) := Lib.hid (by rw [stepD_of hly.out hl.out, HP.out, ← hz]; simp)
          have hsub : IntKind.i64.wrap (k : Int) = (k : Int) := by unfold IntKind.wrap; simp [IntKind.bits, IntKind.signed]; omega
          have hkn : (k : Int) < (n : Int) := by omega
          have hk0 : (0 : Int) < ((k + 1 : Nat) : Int) := by omega
          clear haty hszy hRY hz
          refine wp_region_held_drew (S := fun w' => Hid (Below w2.heap.size w2 w')) (by kernel_rfl) (Lib.hid (Below.refl _ _).drew) (fun hHeld => ?_)
          refine wpAnyH_take (i := 0) (oi := { dst := some 12, op := Op.fieldAddr 144 (Operand.tmp 4) 0, type := 0, pos := "node.go:50", after := #[], guard := none }) (v := ?vC0) rfl (by kernel_rfl) (by kernel_rfl) (by kernel_rfl) (fun _ _ _ h => h) (Or.inl ⟨by rfl, ?hyC0⟩) hHeld ?restC0
          case hyC0 => (intro w hSw; go_simp; try with_reducible rfl)
          try simp only [Act.put, List.setIfInBounds_toArray, List.set_cons_zero, List.set_cons_succ]
          refine wpAnyH_take (i := 1) (oi := { dst := some 13, op := Op.load 9 (Operand.tmp 12), type := 9, pos := "node.go:50", after := #[{ on := 0, ground := Ground.data }], guard := none }) (v := ?vC1) rfl (by kernel_rfl) (by kernel_rfl) (by kernel_rfl) (fun _ _ _ h => h) (Or.inl ⟨by rfl, ?hyC1⟩) hHeld ?restC1
          case hyC1 => (intro w hSw; have hc := (HC0.out _ hSw.out).1; go_simp; try with_reducible rfl)
          try simp only [Act.put, List.setIfInBounds_toArray, List.set_cons_zero, List.set_cons_succ]
          refine wpAnyH_ready (rs := [2]) (by kernel_rfl) (by simp) ?_
          refine AllReadyH.cons (o := { dst := some 14, op := Op.call { callee := Callee.value (Operand.func 132), args := #[Operand.tmp 13], argTypes := #[9] }, type := 4, pos := "node.go:50", after := #[{ on := 1, ground := Ground.data }], guard := none }) rfl (fun K hK => ?_) AllReadyH.nil
          go_simp
          refine (nd_part _ x.name).mono ?_; rintro e wq2 ⟨rfl, hq2⟩; rw [HP.out]
          refine hK.out _ _ ((Lib.hid (hHeld.out.trans (hq2.mono hHeld.out.size)))) (fun hHeld => ?_)
          clear hK K
          try simp only [Act.put, List.setIfInBounds_toArray, List.set_cons_zero, List.set_cons_succ]
          refine wpAnyH_take (i := 3) (oi := { dst := some 15, op := Op.unOp UnOp.not 4 (Operand.tmp 14), type := 4, pos := "node.go:50", after := #[{ on := 2, ground := Ground.data }], guard := none }) (v := ?vC3) rfl (by kernel_rfl) (by kernel_rfl) (by kernel_rfl) (fun _ _ _ h => h) (Or.inl ⟨by rfl, ?hyC3⟩) hHeld ?restC3
          case hyC3 => (intro w hSw; go_simp; try with_reducible rfl)
          try simp only [Act.put, List.setIfInBounds_toArray, List.set_cons_zero, List.set_cons_succ]
          refine wpAnyH_take (i := 4) (oi := { dst := some 16, op := Op.move (Operand.tmp 15), type := 4, pos := "node.go:50", after := #[{ on := 3, ground := Ground.data }, { on := 2, ground := Ground.chain }], guard := none }) (v := ?vC4) rfl (by kernel_rfl) (by kernel_rfl) (by kernel_rfl) (fun _ _ _ h => h) (Or.inl ⟨by rfl, ?hyC4⟩) hHeld ?restC4
          case hyC4 => (intro w hSw; go_simp; try with_reducible rfl)
          try simp only [Act.put, List.setIfInBounds_toArray, List.set_cons_zero, List.set_cons_succ]
          refine wpAnyH_take (i := 5) (oi := { dst := some 17, op := Op.move (Operand.tmp 3), type := 3, pos := "node.go:50", after := #[{ on := 4, ground := Ground.guard }], guard := some (4, false) }) (v := ?vC5) rfl (by kernel_rfl) (by kernel_rfl) (by kernel_rfl) (fun _ _ _ h => h) (Or.inl ⟨by rfl, ?hyC5⟩) hHeld ?restC5
          case hyC5 => (intro w hSw; go_simp; try with_reducible rfl)
          try simp only [Act.put, List.setIfInBounds_toArray, List.set_cons_zero, List.set_cons_succ]
          refine wpAnyH_take (i := 6) (oi := { dst := some 18, op := Op.binOp BinOp.gtr 3 (Operand.tmp 17) (Operand.const (Value.int IntKind.i64 0)) 3, type := 4, pos := "node.go:50", after := #[{ on := 5, ground := Ground.data }, { on := 4, ground := Ground.guard }], guard := some (4, false) }) (v := ?vC6) rfl (by kernel_rfl) (by kernel_rfl) (by kernel_rfl) (fun _ _ _ h => h) (Or.inl ⟨by rfl, ?hyC6⟩) hHeld ?restC6
          case hyC6 => (intro w hSw; go_simp; try with_reducible rfl)
          try simp only [Act.put, List.setIfInBounds_toArray, List.set_cons_zero, List.set_cons_succ]
          refine wpAnyH_take (i := 7) (oi := { dst := some 19, op := Op.move (Operand.tmp 18), type := 4, pos := "node.go:50", after := #[{ on := 6, ground := Ground.data }, { on := 4, ground := Ground.chain }, { on := 4, ground := Ground.guard }], guard := some (4, false) }) (v := ?vC7) rfl (by kernel_rfl) (by kernel_rfl) (by kernel_rfl) (fun _ _ _ h => h) (Or.inl ⟨by rfl, ?hyC7⟩) hHeld ?restC7
          case hyC7 => (intro w hSw; go_simp; try with_reducible rfl)
          try simp only [Act.put, List.setIfInBounds_toArray, List.set_cons_zero, List.set_cons_succ]
          refine wpAnyH_take (i := 8) (oi := { dst := some 20, op := Op.move (Operand.tmp 0), type := 96, pos := "node.go:50", after := #[{ on := 7, ground := Ground.guard }], guard := some (7, true) }) (v := ?vC8) rfl (by kernel_rfl) (by kernel_rfl) (by kernel_rfl) (fun _ _ _ h => h) (Or.inl ⟨by rfl, ?hyC8⟩) hHeld ?restC8
          case hyC8 => (intro w hSw; go_simp; try with_reducible rfl)
          try simp only [Act.put, List.setIfInBounds_toArray, List.set_cons_zero, List.set_cons_succ]
          refine wpAnyH_take (i := 9) (oi := { dst := some 21, op := Op.move (Operand.tmp 3), type := 3, pos := "node.go:50", after := #[{ on := 7, ground := Ground.guard }], guard := some (7, true) }) (v := ?vC9) rfl (by kernel_rfl) (by kernel_rfl) (by kernel_rfl) (fun _ _ _ h => h) (Or.inl ⟨by rfl, ?hyC9⟩) hHeld ?restC9
          case hyC9 => (intro w hSw; go_simp; try with_reducible rfl)
          try simp only [Act.put, List.setIfInBounds_toArray, List.set_cons_zero, List.set_cons_succ]
          refine wpAnyH_take (i := 10) (oi := { dst := some 22, op := Op.binOp BinOp.sub 3 (Operand.tmp 21) (Operand.const (Value.int IntKind.i64 1)) 3, type := 3, pos := "node.go:50", after := #[{ on := 9, ground := Ground.data }, { on := 7, ground := Ground.guard }], guard := some (7, true) }) (v := ?vC10) rfl (by kernel_rfl) (by kernel_rfl) (by kernel_rfl) (fun _ _ _ h => h) (Or.inl ⟨by rfl, ?hyC10⟩) hHeld ?restC10
          case hyC10 => (intro w hSw; go_simp; try with_reducible rfl)
          try simp only [Act.put, List.setIfInBounds_toArray, List.set_cons_zero, List.set_cons_succ]
          refine wpAnyH_take (i := 11) (oi := { dst := some 23, op := Op.indexAddr 96 (Operand.tmp 20) (Operand.tmp 22), type := 0, pos := "node.go:50", after := #[{ on := 8, ground := Ground.data }, { on := 10, ground := Ground.data }, { on := 7, ground := Ground.guard }], guard := some (7, true) }) (v := ?vC11) rfl (by kernel_rfl) (by kernel_rfl) (by kernel_rfl) (fun _ _ _ h => h) (Or.inl ⟨by rfl, ?hyC11⟩) hHeld ?restC11
          case hyC11 => (intro w hSw; go_simp; try with_reducible rfl)
          try simp only [Act.put, List.setIfInBounds_toArray, List.set_cons_zero, List.set_cons_succ]
          refine wpAnyH_take (i := 12) (oi := { dst := some 24, op := Op.load 144 (Operand.tmp 23), type := 144, pos := "node.go:50", after := #[{ on := 11, ground := Ground.data }, { on := 7, ground := Ground.guard }], guard := some (7, true) }) (v := _) rfl (by kernel_rfl) (by kernel_rfl) (by kernel_rfl) (fun _ _ _ h => h) (yields_A rfl (by rfl) rfl (by rw [HSY.out]; exact wide144) (fun w' hs => HAY.out _ hs)) hHeld ?_
          try simp only [Act.put, List.setIfInBounds_toArray, List.set_cons_zero, List.set_cons_succ]
          refine wpAnyH_take (i := 13) (oi := { dst := some 25, op := Op.load 144 (Operand.tmp 4), type := 144, pos := "node.go:50", after := #[{ on := 7, ground := Ground.guard }], guard := some (7, true) }) (v := _) rfl (by kernel_rfl) (by kernel_rfl) (by kernel_rfl) (fun _ _ _ h => h) (yields_A rfl (by rfl) rfl (by rw [HS.out]; exact wide144) (fun w' hs => At.blk (HC0.out _ hs).2)) hHeld ?_
          try simp only [Act.put, List.setIfInBounds_toArray, List.set_cons_zero, List.set_cons_succ]
          refine wpAnyH_ready (rs := [14]) (by kernel_rfl) (by simp) ?_
          refine AllReadyH.cons (o := { dst := some 26, op := Op.call { callee := Callee.value (Operand.func 116), args := #[Operand.tmp 24, Operand.tmp 25], argTypes := #[144, 144] }, type := 3, pos := "node.go:50", after := #[{ on := 12, ground := Ground.data }, { on := 13, ground := Ground.data }, { on := 7, ground := Ground.chain }, { on := 7, ground := Ground.guard }], guard := some (7, true) }) rfl (fun K hK => ?_) AllReadyH.nil
          go_simp
          refine (HCMP.out _).mono ?_; rintro e wq14 ⟨rfl, hq14⟩
          refine hK.out _ _ ((Lib.hid (hHeld.out.trans (hq14.mono hHeld.out.size)))) (fun hHeld => ?_)
          clear hK K
          try simp only [Act.put, List.setIfInBounds_toArray, List.set_cons_zero, List.set_cons_succ]
          refine wpAnyH_take (i := 15) (oi := { dst := some 27, op := Op.binOp BinOp.geq 3 (Operand.tmp 26) (Operand.const (Value.int IntKind.i64 0)) 3, type := 4, pos := "node.go:50", after := #[{ on := 14, ground := Ground.data }, { on := 7, ground := Ground.guard }], guard := some (7, true) }) (v := ?vC15) rfl (by kernel_rfl) (by kernel_rfl) (by kernel_rfl) (fun _ _ _ h => h) (Or.inl ⟨by rfl, ?hyC15⟩) hHeld ?restC15
          case hyC15 => (intro w hSw; go_simp; try with_reducible rfl)
          try simp only [Act.put, List.setIfInBounds_toArray, List.set_cons_zero, List.set_cons_succ]
          refine wpAnyH_take (i := 16) (oi := { dst := some 28, op := Op.pick (Operand.tmp 19) (Operand.tmp 27) (Operand.const (Value.bool false)), type := 4, pos := "node.go:50", after := #[{ on := 7, ground := Ground.data }, { on := 15, ground := Ground.data }, { on := 4, ground := Ground.guard }], guard := some (4, false) }) (v := ?vC16) rfl (by kernel_rfl) (by kernel_rfl) (by kernel_rfl) (fun _ _ _ h => h) (Or.inl ⟨by rfl, ?hyC16⟩) hHeld ?restC16
          case hyC16 => (intro w hSw; go_simp; try with_reducible rfl)
          try simp only [Act.put, List.setIfInBounds_toArray, List.set_cons_zero, List.set_cons_succ]
          refine wpAnyH_take (i := 17) (oi := { dst := some 29, op := Op.pick (Operand.tmp 16) (Operand.const (Value.bool true)) (Operand.tmp 28), type := 4, pos := "node.go:50", after := #[{ on := 4, ground := Ground.data }, { on := 16, ground := Ground.data }], guard := none }) (v := ?vC17) rfl (by kernel_rfl) (by kernel_rfl) (by kernel_rfl) (fun _ _ _ h => h) (Or.inl ⟨by rfl, ?hyC17⟩) hHeld ?restC17
          case hyC17 => (intro w hSw; go_simp; try with_reducible rfl)
          try simp only [Act.put, List.setIfInBounds_toArray, List.set_cons_zero, List.set_cons_succ]
          refine wpAnyH_done (by kernel_rfl) ?_ _
          by_cases hz0 : 0 ≤ z
          · have HE : Hid (rightE l = false) := Lib.hid (rightD_no (i := k + 1) (by rw [HL.out]; exact hlt) (by rw [HST.out]; simp; omega))
            go_wp2_with fail
            go_ret
            exact ⟨ret_bool HE.out.symm, HB2.out.trans (hHeld.out.mono HB2.out.size)⟩
          · have HSk : Hid (stepD partB cmpS l (k + 1) = true) := Lib.hid (by rw [HST.out]; simp; omega)
            go_wp2_with fail
            exact ⟨⟨Lib.hid (HB2.out.trans (hHeld.out.mono HB2.out.size)), k + 1 + 1, by omega, by go_num, Lib.hid fun j hj => by
              rcases Nat.lt_or_ge j (k + 1) with h | h
              · exact HI.out j h
              · obtain rfl : j = k + 1 := by omega
                exact HSk.out⟩, by simp [intOf]; omega⟩
      · have HP : Hid (partB x.name = false) := Lib.hid (by simpa using hP)
        have HE : Hid (rightE l = false) := Lib.hid (rightD_no (i := i) (by rw [HL.out]; exact hlt) (stepD_no hl.out HP.out))
        clear hP
        refine wp_region_held_drew (S := fun w' => Hid (Below w2.heap.size w2 w')) (by kernel_rfl) (Lib.hid (Below.refl _ _).drew) (fun hHeld => ?_)
        refine wpAnyH_take (i := 0) (oi := { dst := some 12, op := Op.fieldAddr 144 (Operand.tmp 4) 0, type := 0, pos := "node.go:50", after := #[], guard := none }) (v := ?vA0) rfl (by kernel_rfl) (by kernel_rfl) (by kernel_rfl) (fun _ _ _ h => h) (Or.inl ⟨by rfl, ?hyA0⟩) hHeld ?restA0
        case hyA0 => (intro w hSw; go_simp; try with_reducible rfl)
        try simp only [Act.put, List.setIfInBounds_toArray, List.set_cons_zero, List.set_cons_succ]
        refine wpAnyH_take (i := 1) (oi := { dst := some 13, op := Op.load 9 (Operand.tmp 12), type := 9, pos := "node.go:50", after := #[{ on := 0, ground := Ground.data }], guard := none }) (v := ?vA1) rfl (by kernel_rfl) (by kernel_rfl) (by kernel_rfl) (fun _ _ _ h => h) (Or.inl ⟨by rfl, ?hyA1⟩) hHeld ?restA1
        case hyA1 => (intro w hSw; have hc := (HC0.out _ hSw.out).1; go_simp; try with_reducible rfl)
        try simp only [Act.put, List.setIfInBounds_toArray, List.set_cons_zero, List.set_cons_succ]
        refine wpAnyH_ready (rs := [2]) (by kernel_rfl) (by simp) ?_
        refine AllReadyH.cons (o := { dst := some 14, op := Op.call { callee := Callee.value (Operand.func 132), args := #[Operand.tmp 13], argTypes := #[9] }, type := 4, pos := "node.go:50", after := #[{ on := 1, ground := Ground.data }], guard := none }) rfl (fun K hK => ?_) AllReadyH.nil
        go_simp
        refine (nd_part _ x.name).mono ?_; rintro e wq2 ⟨rfl, hq2⟩; rw [HP.out]
        refine hK.out _ _ ((Lib.hid (hHeld.out.trans (hq2.mono hHeld.out.size)))) (fun hHeld => ?_)
        clear hK K
        try simp only [Act.put, List.setIfInBounds_toArray, List.set_cons_zero, List.set_cons_succ]
        refine wpAnyH_take (i := 3) (oi := { dst := some 15, op := Op.unOp UnOp.not 4 (Operand.tmp 14), type := 4, pos := "node.go:50", after := #[{ on := 2, ground := Ground.data }], guard := none }) (v := ?vA3) rfl (by kernel_rfl) (by kernel_rfl) (by kernel_rfl) (fun _ _ _ h => h) (Or.inl ⟨by rfl, ?hyA3⟩) hHeld ?restA3
        case hyA3 => (intro w hSw; go_simp; try with_reducible rfl)
        try simp only [Act.put, List.setIfInBounds_toArray, List.set_cons_zero, List.set_cons_succ]
        refine wpAnyH_take (i := 4) (oi := { dst := some 16, op := Op.move (Operand.tmp 15), type := 4, pos := "node.go:50", after := #[{ on := 3, ground := Ground.data }, { on := 2, ground := Ground.chain }], guard := none }) (v := ?vA4) rfl (by kernel_rfl) (by kernel_rfl) (by kernel_rfl) (fun _ _ _ h => h) (Or.inl ⟨by rfl, ?hyA4⟩) hHeld ?restA4
        case hyA4 => (intro w hSw; go_simp; try with_reducible rfl)
        try simp only [Act.put, List.setIfInBounds_toArray, List.set_cons_zero, List.set_cons_succ]
        refine wpAnyH_take (i := 5) (oi := { dst := some 17, op := Op.move (Operand.tmp 3), type := 3, pos := "node.go:50", after := #[{ on := 4, ground := Ground.guard }], guard := some (4, false) }) (v := undef) rfl (by kernel_rfl) (by kernel_rfl) (by kernel_rfl) (fun _ _ _ h => h) (Or.inr ⟨by rfl, rfl⟩) hHeld ?_
        try simp only [Act.put, List.setIfInBounds_toArray, List.set_cons_zero, List.set_cons_succ]
        refine wpAnyH_take (i := 6) (oi := { dst := some 18, op := Op.binOp BinOp.gtr 3 (Operand.tmp 17) (Operand.const (Value.int IntKind.i64 0)) 3, type := 4, pos := "node.go:50", after := #[{ on := 5, ground := Ground.data }, { on := 4, ground := Ground.guard }], guard := some (4, false) }) (v := undef) rfl (by kernel_rfl) (by kernel_rfl) (by kernel_rfl) (fun _ _ _ h => h) (Or.inr ⟨by rfl, rfl⟩) hHeld ?_
        try simp only [Act.put, List.setIfInBounds_toArray, List.set_cons_zero, List.set_cons_succ]
        refine wpAnyH_take (i := 7) (oi := { dst := some 19, op := Op.move (Operand.tmp 18), type := 4, pos := "node.go:50", after := #[{ on := 6, ground := Ground.data }, { on := 4, ground := Ground.chain }, { on := 4, ground := Ground.guard }], guard := some (4, false) }) (v := undef) rfl (by kernel_rfl) (by kernel_rfl) (by kernel_rfl) (fun _ _ _ h => h) (Or.inr ⟨by rfl, rfl⟩) hHeld ?_
        try simp only [Act.put, List.setIfInBounds_toArray, List.set_cons_zero, List.set_cons_succ]
        refine wpAnyH_take (i := 8) (oi := { dst := some 20, op := Op.move (Operand.tmp 0), type := 96, pos := "node.go:50", after := #[{ on := 7, ground := Ground.guard }], guard := some (7, true) }) (v := undef) rfl (by kernel_rfl) (by kernel_rfl) (by kernel_rfl) (fun _ _ _ h => h) (Or.inr ⟨by rfl, rfl⟩) hHeld ?_
        try simp only [Act.put, List.setIfInBounds_toArray, List.set_cons_zero, List.set_cons_succ]
        refine wpAnyH_take (i := 9) (oi := { dst := some 21, op := Op.move (Operand.tmp 3), type := 3, pos := "node.go:50", after := #[{ on := 7, ground := Ground.guard }], guard := some (7, true) }) (v := undef) rfl (by kernel_rfl) (by kernel_rfl) (by kernel_rfl) (fun _ _ _ h => h) (Or.inr ⟨by rfl, rfl⟩) hHeld ?_
        try simp only [Act.put, List.setIfInBounds_toArray, List.set_cons_zero, List.set_cons_succ]
        refine wpAnyH_take (i := 10) (oi := { dst := some 22, op := Op.binOp BinOp.sub 3 (Operand.tmp 21) (Operand.const (Value.int IntKind.i64 1)) 3, type := 3, pos := "node.go:50", after := #[{ on := 9, ground := Ground.data }, { on := 7, ground := Ground.guard }], guard := some (7, true) }) (v := undef) rfl (by kernel_rfl) (by kernel_rfl) (by kernel_rfl) (fun _ _ _ h => h) (Or.inr ⟨by rfl, rfl⟩) hHeld ?_
        try simp only [Act.put, List.setIfInBounds_toArray, List.set_cons_zero, List.set_cons_succ]
        refine wpAnyH_take (i := 11) (oi := { dst := some 23, op := Op.indexAddr 96 (Operand.tmp 20) (Operand.tmp 22), type := 0, pos := "node.go:50", after := #[{ on := 8, ground := Ground.data }, { on := 10, ground := Ground.data }, { on := 7, ground := Ground.guard }], guard := some (7, true) }) (v := undef) rfl (by kernel_rfl) (by kernel_rfl) (by kernel_rfl) (fun _ _ _ h => h) (Or.inr ⟨by rfl, rfl⟩) hHeld ?_
        try simp only [Act.put, List.setIfInBounds_toArray, List.set_cons_zero, List.set_cons_succ]
        refine wpAnyH_take (i := 12) (oi := { dst := some 24, op := Op.load 144 (Operand.tmp 23), type := 144, pos := "node.go:50", after := #[{ on := 11, ground := Ground.data }, { on := 7, ground := Ground.guard }], guard := some (7, true) }) (v := undef) rfl (by kernel_rfl) (by kernel_rfl) (by kernel_rfl) (fun _ _ _ h => h) (Or.inr ⟨by rfl, rfl⟩) hHeld ?_
        try simp only [Act.put, List.setIfInBounds_toArray, List.set_cons_zero, List.set_cons_succ]
        refine wpAnyH_take (i := 13) (oi := { dst := some 25, op := Op.load 144 (Operand.tmp 4), type := 144, pos := "node.go:50", after := #[{ on := 7, ground := Ground.guard }], guard := some (7, true) }) (v := undef) rfl (by kernel_rfl) (by kernel_rfl) (by kernel_rfl) (fun _ _ _ h => h) (Or.inr ⟨by rfl, rfl⟩) hHeld ?_
        try simp only [Act.put, List.setIfInBounds_toArray, List.set_cons_zero, List.set_cons_succ]
        refine wpAnyH_ready (rs := [14]) (by kernel_rfl) (by simp) ?_
        refine AllReadyH.cons (o := { dst := some 26, op := Op.call { callee := Callee.value (Operand.func 116), args := #[Operand.tmp 24, Operand.tmp 25], argTypes := #[144, 144] }, type := 3, pos := "node.go:50", after := #[{ on := 12, ground := Ground.data }, { on := 13, ground := Ground.data }, { on := 7, ground := Ground.chain }, { on := 7, ground := Ground.guard }], guard := some (7, true) }) rfl (fun K hK => ?_) AllReadyH.nil
        go_simp
        refine hK.out _ _ hHeld (fun hHeld => ?_)
        clear hK K
        try simp only [Act.put, List.setIfInBounds_toArray, List.set_cons_zero, List.set_cons_succ]
        refine wpAnyH_take (i := 15) (oi := { dst := some 27, op := Op.binOp BinOp.geq 3 (Operand.tmp 26) (Operand.const (Value.int IntKind.i64 0)) 3, type := 4, pos := "node.go:50", after := #[{ on := 14, ground := Ground.data }, { on := 7, ground := Ground.guard }], guard := some (7, true) }) (v := undef) rfl (by kernel_rfl) (by kernel_rfl) (by kernel_rfl) (fun _ _ _ h => h) (Or.inr ⟨by rfl, rfl⟩) hHeld ?_
        try simp only [Act.put, List.setIfInBounds_toArray, List.set_cons_zero, List.set_cons_succ]
        refine wpAnyH_take (i := 16) (oi := { dst := some 28, op := Op.pick (Operand.tmp 19) (Operand.tmp 27) (Operand.const (Value.bool false)), type := 4, pos := "node.go:50", after := #[{ on := 7, ground := Ground.data }, { on := 15, ground := Ground.data }, { on := 4, ground := Ground.guard }], guard := some (4, false) }) (v := undef) rfl (by kernel_rfl) (by kernel_rfl) (by kernel_rfl) (fun _ _ _ h => h) (Or.inr ⟨by rfl, rfl⟩) hHeld ?_
        try simp only [Act.put, List.setIfInBounds_toArray, List.set_cons_zero, List.set_cons_succ]
        refine wpAnyH_take (i := 17) (oi := { dst := some 29, op := Op.pick (Operand.tmp 16) (Operand.const (Value.bool true)) (Operand.tmp 28), type := 4, pos := "node.go:50", after := #[{ on := 4, ground := Ground.data }, { on := 16, ground := Ground.data }], guard := none }) (v := ?vA17) rfl (by kernel_rfl) (by kernel_rfl) (by kernel_rfl) (fun _ _ _ h => h) (Or.inl ⟨by rfl, ?hyA17⟩) hHeld ?restA17
        case hyA17 => (intro w hSw; go_simp; try with_reducible rfl)
        try simp only [Act.put, List.setIfInBounds_toArray, List.set_cons_zero, List.set_cons_succ]
        refine wpAnyH_done (by kernel_rfl) ?_ _
        go_wp2_with fail
        go_ret
        exact ⟨ret_bool HE.out.symm, HB2.out.trans (hHeld.out.mono HB2.out.size)⟩
    · obtain rfl : i = n := by omega
      have HE : Hid (rightE l = decide (i ≤ 60)) := Lib.hid (by have h := rightD_all (part := partB) (cmp := cmpS) (l := l) (by rw [HL.out]; exact HI.out); rw [HL.out] at h; exact h)
      by_cases h60 : i ≤ 60
      · have h60' : (i : Int) ≤ 60 := by omega
        go_wp2_with fail
        go_ret
        exact ⟨ret_bool (by rw [HE.out]; simp [h60]), HB.out⟩
      · have h60' : ¬ (i : Int) ≤ 60 := by omega
        go_wp2_with fail
        go_ret
        exact ⟨ret_bool (by rw [HE.out]; simp [h60]), HB.out⟩
end Go.Proofs.Ytaebmhbggbpnoaa
