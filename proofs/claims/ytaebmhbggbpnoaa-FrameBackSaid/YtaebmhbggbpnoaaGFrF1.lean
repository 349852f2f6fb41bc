/- The walk of FrameForms. Conditions: each theorem's premises. -/
import Derived.Test.YtaebmhbggbpnoaaGFrT1
namespace Go.Proofs.Ytaebmhbggbpnoaa
open Go.RowKit
theorem light_two {k k' : Int} {nm bs nm' bs' : List UInt8} (hn : nm.length = 32) (hn' : nm'.length = 32) : light [⟨k, nm, bs, hn⟩, ⟨k', nm', bs', hn'⟩] = (decide (bs.length ≤ 5100) && decide (bs'.length ≤ 5100)) := by simp [light]
theorem rc_box2 (w : World) (t : Nat) (k k' : Int) (nm nm' : List UInt8) (b b' : Value) : ∃ RV RU, RV = RC k nm b ∧ RU = RC k' nm' b' ∧ Hid (∀ w', Below (w.heap.size + 2) ((w.alloc (.cells RV t)).alloc (.cells RU t)) w' → Blk w' w.heap.size t (RC k nm b) ∧ Blk w' (w.heap.size + 1) t (RC k' nm' b') ∧ Below w.heap.size w w') :=
  ⟨_, _, rfl, rfl, Lib.hid fun _ hb => ⟨((Blk.new w t _).alloc _).below hb (by omega), (blk_new (by simp)).below hb (by omega), (((Below.refl _ w).alloc (Nat.le_refl _) _).alloc (by simp) _).trans (hb.mono (by omega))⟩⟩
theorem held_next {W w' w'' : World} (h : Hid (Below W.heap.size W w')) (hb : Below w'.heap.size w' w'') : Hid (Below W.heap.size W w'') := Lib.hid (h.out.trans (hb.mono h.out.size))
/-- A record's load yields it, in whatever world has it. -/
theorem yields_rec {ops : Array Oper} {S : World → Prop} {o : Oper} {a : Act} {ty : TypeId} {x : Operand} {g t : Nat} {k : Int} {nm : List UInt8} {b : Value} (ho : o.op = .load ty x) (hty : ty = 109 ∨ ty = 112) (hw : Region.wanted o (yielded ops a.tmps) = true) (hx : a.eval x = .pointer (some ⟨g, 0, none⟩)) (hn : nm.length = 32) (hB : ∀ w', S w' → Blk w' g t (RC k nm b)) : YieldsIf Try.prog ops S o (.agg (RC k nm b)) a :=
  .inl ⟨hw, fun w' hs => by
    have hl : (loadVar ty ⟨g, 0, none⟩).run Try.prog w' = .ok (.agg (RC k nm b)) w' := by
      rcases hty with rfl | rfl
      · exact run_loadVar_row w' g t 109 _ (0, 0) _ (hB w' hs) Try.underlying109 rfl (by rw [size109, RC.size hn])
      · exact run_loadVar_row w' g t 112 _ (0, 0) _ (hB w' hs) Try.underlying112 rfl (by rw [size112, RC.size hn])
    unfold execOp
    simp only [ho, hx, Instr.loadAt, Instr.sureAddr, Sem.run_bind, Sem.run_pure, Result.andThen_ok, hl]⟩
set_option maxRecDepth 100000 in
set_option maxHeartbeats 4000000 in
theorem frameForms_any (w : World) (S S' : Nat → Prop) (k k' : Int) (nm nm' : List UInt8) (A A' : Option Addr) (n c n' c' : Nat) (bs bs' : List UInt8) (hn : nm.length = 32) (hn' : nm'.length = 32) (hx : Bs w S A n c bs) (hx' : Bs w S' A' n' c' bs') :
    Calls Try.prog 17 #[.agg (RC k nm (.slice A n c)), .agg (RC k' nm' (.slice A' n' c'))] w fun e w' => e = .returned (.bool true) ∧ Below w.heap.size w w' := by
  obtain ⟨RV, RU, hRV, hRU, HB⟩ := rc_box2 w 112 k k' nm nm' (.slice A n c) (.slice A' n' c')
  have HRV := Lib.hid (And.intro hRV hRU)
  have HX := Lib.hid (And.intro hx.old hx'.old)
  have HLEN := Lib.hid (And.intro hx.len hx'.len)
  obtain ⟨ie, zz, hie, hzz, hsz1, -, hf2⟩ := fill112 k k' nm nm' A A' n c n' c' hn hn'
  have HFI := Lib.hid (And.intro hie (And.intro hzz (And.intro hsz1 hf2)))
  have HL := Lib.hid (fun (W : World) (N : Nat) (hN : N = W.heap.size) (hw : Below w.heap.size w W) => hN ▸ flight_any (W.alloc (.cells (RC k nm (.slice A n c) ++ RC k' nm' (.slice A' n' c')) 112)) AnyB (some ⟨W.heap.size, 0, none⟩) 2 2 _ (rq_two hn hn' (hx.old.below hw) (hx'.old.below hw) 112))
  obtain ⟨lg, hlg⟩ : ∃ lg, lg = (decide (bs.length ≤ 5100) && decide (bs'.length ≤ 5100)) := ⟨_, rfl⟩
  have HLG := Lib.hid hlg
  rw [light_two, ← hlg] at HL
  rw [← hRV, ← hRU]
  clear hRV hRU hx hx' hie hzz hsz1 hf2 hlg
  obtain ⟨W0, hW0⟩ : ∃ W0, W0 = (w.alloc (.cells RV 112)).alloc (.cells RU 112) := ⟨_, rfl⟩
  have hsz : W0.heap.size = w.heap.size + 2 := by rw [hW0]; simp
  have HB0 := HB.out
  rw [← hW0] at HB0
  have HB1 := Lib.hid HB0
  clear HB0 HB
  go_enter Try.func17, Try.ntmps17
  go_wp2_with (first | (refine wl_rec rfl (.tmp 2) 112 rfl (.inr rfl) rfl (HB1.out _ (hW0 ▸ Below.refl _ _)).1 hn ?_) | (refine wl_rec rfl (.tmp 3) 112 rfl (.inr rfl) rfl (HB1.out _ (hW0 ▸ Below.refl _ _)).2.1 hn' ?_) | (refine wpList_buildSlice rfl 129 112 2 _ rfl (RC k nm (.slice A n c) ++ RC k' nm' (.slice A' n' c')) ie zz Try.underlying129 HFI.out.1 HFI.out.2.1 (by rw [HFI.out.2.2.1]; omega) (by rw [HFI.out.2.2.1]; omega) (by simp only [List.map_toArray, List.map_cons, List.map_nil]; exact HFI.out.2.2.2) ?_))
  rw [← hW0]
  clear hW0
  have hbW0 : Below w.heap.size w W0 := (HB1.out _ (by rw [← hsz]; exact Below.refl _ _)).2.2
  obtain ⟨L0, hL0⟩ : ∃ L0, L0 = W0.alloc (.cells (RC k nm (.slice A n c) ++ RC k' nm' (.slice A' n' c')) 112) := ⟨_, rfl⟩
  have hbL : Below W0.heap.size W0 L0 := by rw [hL0]; exact (Below.refl _ _).alloc (Nat.le_refl _) _
  refine (HL.out W0 _ hsz.symm hbW0).mono ?_
  rintro e w1 ⟨rfl, rfl⟩
  rw [← hL0]
  rw [hsz] at hbL
  have HBL := Lib.hid hbL
  clear hL0 hbL
  have HAL : Hid (∀ W, Below (w.heap.size + 2) W0 W → Calls Try.prog 65 #[] W fun e w' => e = .returned (.bool true) ∧ Below w.heap.size w w' ∧ Below W.heap.size W w') := Lib.hid fun W hW => (falive_any W).mono fun e w' h => ⟨h.1, hbW0.trans ((hW.mono (by omega)).trans (h.2.mono (Nat.le_trans hbW0.size hW.size))), h.2⟩
  cases lg with
  | false =>
    go_wp2_with fail
    refine (HAL.out _ HBL.out).mono ?_
    rintro e w2 ⟨rfl, hb2, -⟩
    have HF := Lib.hid hb2
    clear hb2
    go_wp2_with fail
    go_ret
    exact ⟨rfl, HF.out⟩
  | true =>
    obtain ⟨hbl, hbl'⟩ : n ≤ 5100 ∧ n' ≤ 5100 := by
      have h := HLG.out.symm
      rw [Bool.and_eq_true, decide_eq_true_eq, decide_eq_true_eq, HLEN.out.1, HLEN.out.2] at h
      exact h
    go_wp2_with fail
    refine (new_any _).mono ?_
    rintro e w2 ⟨rfl, hT, hb⟩
    obtain ⟨g, hg⟩ : ∃ g, g = L0.heap.size := ⟨_, rfl⟩
    rw [← hg] at hT
    have hgW : W0.heap.size ≤ g := by rw [hg, hsz]; have := HBL.out.size; omega
    have HN := Lib.hid (On.mk (w0 := W0) (d := 0) ((hsz.symm ▸ HBL.out : Below W0.heap.size W0 L0).trans (hb.mono (by rw [← hg]; exact hgW))) (.inr ⟨_, hT⟩) hgW)
    rw [← hg]
    clear hT hb hg
    have HNB : ∀ {W d}, On W0 W g d → Below (w.heap.size + 2) W0 W := fun h => hsz ▸ h.bel
    go_wp2_with (first | (refine wl_rec rfl (.tmp 2) 112 rfl (.inr rfl) rfl (HB1.out _ (HNB HN.out)).1 hn ?_))
    refine (fown_any w2 k nm A n c hn).mono ?_
    rintro e w3 ⟨rfl, hb3⟩
    have HN3 := Lib.hid (HN.out.below hb3)
    clear hb3 HN
    go_wp2_with fail
    cases hrr : rcRight k n with
    | false =>
      refine (fput_no w3 ⟨g, 0, none⟩ k nm A n c hn hrr).mono ?_
      rintro e w4 ⟨rfl, hb4⟩
      have HN4 := Lib.hid (HN3.out.below hb4)
      clear hb4
      go_wp2_with (first | (refine wl_rec rfl (.tmp 2) 112 rfl (.inr rfl) rfl (HB1.out _ (HNB HN4.out)).1 hn ?_))
      refine (frput_no w4 k nm A n c hn hrr).mono ?_
      rintro e w5 ⟨rfl, hb5⟩
      have HN5 := Lib.hid (HN4.out.below hb5)
      clear hb5
      go_wp2_with fail
      have HY : Hid (∀ w', Hid (Below w5.heap.size w5 w') → Blk w' w.heap.size 112 (RC k nm (.slice A n c)) ∧ Blk w' (w.heap.size + 1) 112 (RC k' nm' (.slice A' n' c'))) := Lib.hid fun w' h => by
        have hh := HB1.out _ (HNB (HN5.out.below h.out))
        exact ⟨hh.1, hh.2.1⟩
      have HXS : Hid (∀ w', Hid (Below w5.heap.size w5 w') → Bs w' (Lo w.heap.size) A n c bs ∧ Bs w' (Lo w.heap.size) A' n' c' bs') := Lib.hid fun w' h => by
        have hh := (HB1.out _ (HNB (HN5.out.below h.out))).2.2
        exact ⟨HX.out.1.below hh, HX.out.2.below hh⟩
      have HSZ : Hid (∀ w', Hid (Below w5.heap.size w5 w') → Calls Try.prog 82 #[.agg (RC k nm (.slice A n c))] w' fun e w'' => e = .returned (.int .i64 0) ∧ Below w'.heap.size w' w'') := Lib.hid fun w' _ => fsize_no w' k nm A n c hn hrr
      have HBY : Hid (∀ w', Hid (Below w5.heap.size w5 w') → Calls Try.prog 26 #[.slice none 0 0, .slice none 0 0] w' fun e w'' => e = .returned (.bool true) ∧ Below w'.heap.size w' w'') := Lib.hid fun w' _ => (bytes_any w' AnyB AnyB none none 0 0 0 0 [] [] (Bs.nil _ _ _) (Bs.nil _ _ _) (by omega) (by omega)).mono fun e w'' h => by
        obtain ⟨rfl, m4, rfl⟩ := h
        exact ⟨rfl, below_drewN (Below.refl _ _) m4⟩
      have HALS : Hid (∀ w', Hid (Below w5.heap.size w5 w') → Calls Try.prog 65 #[] w' fun e w'' => e = .returned (.bool true) ∧ Below w'.heap.size w' w'') := Lib.hid fun w' h => (HAL.out _ (HNB (HN5.out.below h.out))).mono fun e w'' h => ⟨h.1, h.2.2⟩
      refine wp_region_held_drew (S := fun w' => Hid (Below w5.heap.size w5 w')) (by kernel_rfl) (Lib.hid ((Below.refl _ _).drew)) (fun hHeld => ?_)
      refine wpAnyH_take (i := 0) (oi := { dst := some 29, op := Op.load 112 (Operand.tmp 2), type := 112, pos := "law.go:58", after := #[], guard := none }) (v := _) rfl (by kernel_rfl) (by kernel_rfl) (by kernel_rfl) (fun _ _ _ h => h) (yields_rec rfl (.inr rfl) rfl rfl hn (fun _ h => (HY.out _ h).1)) hHeld ?_
      try simp only [Act.put, List.setIfInBounds_toArray, List.set_cons_zero, List.set_cons_succ]
      refine wpAnyH_take (i := 3) (oi := { dst := some 32, op := Op.load 112 (Operand.tmp 2), type := 112, pos := "law.go:58", after := #[], guard := none }) (v := _) rfl (by kernel_rfl) (by kernel_rfl) (by kernel_rfl) (fun _ _ _ h => h) (yields_rec rfl (.inr rfl) rfl rfl hn (fun _ h => (HY.out _ h).1)) hHeld ?_
      try simp only [Act.put, List.setIfInBounds_toArray, List.set_cons_zero, List.set_cons_succ]
      refine wpAnyH_ready (rs := [1]) (by kernel_rfl) (by simp) ?_
      refine AllReadyH.cons (o := { dst := some 30, op := Op.call { callee := Callee.value (Operand.func 77), args := #[Operand.tmp 29], argTypes := #[112] }, type := 109, pos := "law.go:58", after := #[{ on := 0, ground := Ground.data }], guard := none }) rfl (fun K hK => ?_) AllReadyH.nil
      go_simp
      refine (fown_any _ k nm A n c hn).mono ?_; rintro e w1 ⟨rfl, hb1⟩
      refine hK.out _ _ (held_next hHeld hb1) (fun hHeld => ?_)
      clear hK K
      try simp only [Act.put, List.setIfInBounds_toArray, List.set_cons_zero, List.set_cons_succ]
      refine wpAnyH_ready (rs := [2]) (by kernel_rfl) (by simp) ?_
      refine AllReadyH.cons (o := { dst := some 31, op := Op.call { callee := Callee.value (Operand.func 80), args := #[Operand.tmp 30], argTypes := #[109] }, type := 4, pos := "law.go:58", after := #[{ on := 1, ground := Ground.data }, { on := 1, ground := Ground.chain }], guard := none }) rfl (fun K hK => ?_) AllReadyH.nil
      go_simp
      refine (fright_any _ k nm A n c hn).mono ?_; rintro e w2 ⟨rfl, hb2⟩
      refine hK.out _ _ (held_next hHeld hb2) (fun hHeld => ?_)
      clear hK K
      try simp only [Act.put, List.setIfInBounds_toArray, List.set_cons_zero, List.set_cons_succ]
      refine wpAnyH_ready (rs := [4]) (by kernel_rfl) (by simp) ?_
      refine AllReadyH.cons (o := { dst := some 33, op := Op.call { callee := Callee.value (Operand.func 81), args := #[Operand.tmp 32], argTypes := #[112] }, type := 4, pos := "law.go:58", after := #[{ on := 3, ground := Ground.data }, { on := 2, ground := Ground.chain }], guard := none }) rfl (fun K hK => ?_) AllReadyH.nil
      go_simp
      refine (frright_any _ k nm A n c hn).mono ?_; rintro e w4 ⟨rfl, hb4⟩
      refine hK.out _ _ (held_next hHeld hb4) (fun hHeld => ?_)
      clear hK K
      try simp only [Act.put, List.setIfInBounds_toArray, List.set_cons_zero, List.set_cons_succ]
      refine wpAnyH_take (i := 5) (oi := { dst := some 34, op := Op.binOp BinOp.eql 4 (Operand.tmp 31) (Operand.tmp 33) 4, type := 4, pos := "law.go:58", after := #[{ on := 2, ground := Ground.data }, { on := 4, ground := Ground.data }], guard := none }) (v := ?v5) rfl (by kernel_rfl) (by kernel_rfl) (by kernel_rfl) (fun _ _ _ h => h) (Or.inl ⟨by rfl, ?hy5⟩) hHeld ?rest5
      case hy5 => (intro w hSw; go_simp; try with_reducible rfl)
      try simp only [Act.put, List.setIfInBounds_toArray, List.set_cons_zero, List.set_cons_succ]
      refine wpAnyH_take (i := 6) (oi := { dst := some 35, op := Op.move (Operand.tmp 34), type := 4, pos := "law.go:58", after := #[{ on := 5, ground := Ground.data }, { on := 4, ground := Ground.chain }], guard := none }) (v := ?v6) rfl (by kernel_rfl) (by kernel_rfl) (by kernel_rfl) (fun _ _ _ h => h) (Or.inl ⟨by rfl, ?hy6⟩) hHeld ?rest6
      case hy6 => (intro w hSw; go_simp; try with_reducible rfl)
      try simp only [Act.put, List.setIfInBounds_toArray, List.set_cons_zero, List.set_cons_succ]
      refine wpAnyH_take (i := 7) (oi := { dst := some 36, op := Op.load 112 (Operand.tmp 2), type := 112, pos := "law.go:58", after := #[{ on := 6, ground := Ground.guard }], guard := some (6, true) }) (v := _) rfl (by kernel_rfl) (by kernel_rfl) (by kernel_rfl) (fun _ _ _ h => h) (yields_rec rfl (.inr rfl) rfl rfl hn (fun _ h => (HY.out _ h).1)) hHeld ?_
      try simp only [Act.put, List.setIfInBounds_toArray, List.set_cons_zero, List.set_cons_succ]
      refine wpAnyH_take (i := 10) (oi := { dst := some 39, op := Op.move (Operand.tmp 8), type := 22, pos := "law.go:58", after := #[{ on := 6, ground := Ground.guard }], guard := some (6, true) }) (v := ?v10) rfl (by kernel_rfl) (by kernel_rfl) (by kernel_rfl) (fun _ _ _ h => h) (Or.inl ⟨by rfl, ?hy10⟩) hHeld ?rest10
      case hy10 => (intro w hSw; go_simp; try with_reducible rfl)
      try simp only [Act.put, List.setIfInBounds_toArray, List.set_cons_zero, List.set_cons_succ]
      refine wpAnyH_take (i := 11) (oi := { dst := some 40, op := Op.call { callee := Callee.builtin Builtin.len, args := #[Operand.tmp 39], argTypes := #[22] }, type := 3, pos := "law.go:58", after := #[{ on := 10, ground := Ground.data }, { on := 6, ground := Ground.guard }], guard := some (6, true) }) (v := ?v11) rfl (by kernel_rfl) (by kernel_rfl) (by kernel_rfl) (fun _ _ _ h => h) (Or.inl ⟨by rfl, ?hy11⟩) hHeld ?rest11
      case hy11 => (intro w hSw; go_simp; try with_reducible rfl)
      try simp only [Act.put, List.setIfInBounds_toArray, List.set_cons_zero, List.set_cons_succ]
      refine wpAnyH_ready (rs := [8]) (by kernel_rfl) (by simp) ?_
      refine AllReadyH.cons (o := { dst := some 37, op := Op.call { callee := Callee.value (Operand.func 77), args := #[Operand.tmp 36], argTypes := #[112] }, type := 109, pos := "law.go:58", after := #[{ on := 7, ground := Ground.data }, { on := 6, ground := Ground.chain }, { on := 6, ground := Ground.guard }], guard := some (6, true) }) rfl (fun K hK => ?_) AllReadyH.nil
      go_simp
      refine (fown_any _ k nm A n c hn).mono ?_; rintro e w8 ⟨rfl, hb8⟩
      refine hK.out _ _ (held_next hHeld hb8) (fun hHeld => ?_)
      clear hK K
      try simp only [Act.put, List.setIfInBounds_toArray, List.set_cons_zero, List.set_cons_succ]
      refine wpAnyH_ready (rs := [9]) (by kernel_rfl) (by simp) ?_
      refine AllReadyH.cons (o := { dst := some 38, op := Op.call { callee := Callee.value (Operand.func 82), args := #[Operand.tmp 37], argTypes := #[109] }, type := 3, pos := "law.go:58", after := #[{ on := 8, ground := Ground.data }, { on := 8, ground := Ground.chain }, { on := 6, ground := Ground.guard }], guard := some (6, true) }) rfl (fun K hK => ?_) AllReadyH.nil
      go_simp
      refine (HSZ.out _ hHeld).mono ?_; rintro e w9 ⟨rfl, hb9⟩
      refine hK.out _ _ (held_next hHeld hb9) (fun hHeld => ?_)
      clear hK K
      try simp only [Act.put, List.setIfInBounds_toArray, List.set_cons_zero, List.set_cons_succ]
      refine wpAnyH_take (i := 12) (oi := { dst := some 41, op := Op.binOp BinOp.eql 3 (Operand.tmp 38) (Operand.tmp 40) 3, type := 4, pos := "law.go:58", after := #[{ on := 9, ground := Ground.data }, { on := 11, ground := Ground.data }, { on := 6, ground := Ground.guard }], guard := some (6, true) }) (v := ?v12) rfl (by kernel_rfl) (by kernel_rfl) (by kernel_rfl) (fun _ _ _ h => h) (Or.inl ⟨by rfl, ?hy12⟩) hHeld ?rest12
      case hy12 => (intro w hSw; go_simp; try with_reducible rfl)
      try simp only [Act.put, List.setIfInBounds_toArray, List.set_cons_zero, List.set_cons_succ]
      refine wpAnyH_take (i := 13) (oi := { dst := some 42, op := Op.pick (Operand.tmp 35) (Operand.tmp 41) (Operand.const (Value.bool false)), type := 4, pos := "law.go:58", after := #[{ on := 6, ground := Ground.data }, { on := 12, ground := Ground.data }], guard := none }) (v := ?v13) rfl (by kernel_rfl) (by kernel_rfl) (by kernel_rfl) (fun _ _ _ h => h) (Or.inl ⟨by rfl, ?hy13⟩) hHeld ?rest13
      case hy13 => (intro w hSw; go_simp; try with_reducible rfl)
      try simp only [Act.put, List.setIfInBounds_toArray, List.set_cons_zero, List.set_cons_succ]
      refine wpAnyH_take (i := 14) (oi := { dst := some 43, op := Op.move (Operand.tmp 42), type := 4, pos := "law.go:58", after := #[{ on := 13, ground := Ground.data }, { on := 9, ground := Ground.chain }], guard := none }) (v := ?v14) rfl (by kernel_rfl) (by kernel_rfl) (by kernel_rfl) (fun _ _ _ h => h) (Or.inl ⟨by rfl, ?hy14⟩) hHeld ?rest14
      case hy14 => (intro w hSw; go_simp; try with_reducible rfl)
      try simp only [Act.put, List.setIfInBounds_toArray, List.set_cons_zero, List.set_cons_succ]
      refine wpAnyH_take (i := 15) (oi := { dst := some 44, op := Op.move (Operand.tmp 6), type := 22, pos := "law.go:58", after := #[{ on := 14, ground := Ground.guard }], guard := some (14, true) }) (v := ?v15) rfl (by kernel_rfl) (by kernel_rfl) (by kernel_rfl) (fun _ _ _ h => h) (Or.inl ⟨by rfl, ?hy15⟩) hHeld ?rest15
      case hy15 => (intro w hSw; go_simp; try with_reducible rfl)
      try simp only [Act.put, List.setIfInBounds_toArray, List.set_cons_zero, List.set_cons_succ]
      refine wpAnyH_take (i := 16) (oi := { dst := some 45, op := Op.move (Operand.tmp 8), type := 22, pos := "law.go:58", after := #[{ on := 14, ground := Ground.guard }], guard := some (14, true) }) (v := ?v16) rfl (by kernel_rfl) (by kernel_rfl) (by kernel_rfl) (fun _ _ _ h => h) (Or.inl ⟨by rfl, ?hy16⟩) hHeld ?rest16
      case hy16 => (intro w hSw; go_simp; try with_reducible rfl)
      try simp only [Act.put, List.setIfInBounds_toArray, List.set_cons_zero, List.set_cons_succ]
      refine wpAnyH_ready (rs := [17]) (by kernel_rfl) (by simp) ?_
      refine AllReadyH.cons (o := { dst := some 46, op := Op.call { callee := Callee.value (Operand.func 26), args := #[Operand.tmp 44, Operand.tmp 45], argTypes := #[22, 22] }, type := 4, pos := "law.go:58", after := #[{ on := 15, ground := Ground.data }, { on := 16, ground := Ground.data }, { on := 14, ground := Ground.chain }, { on := 14, ground := Ground.guard }], guard := some (14, true) }) rfl (fun K hK => ?_) AllReadyH.nil
      go_simp
      refine (HBY.out _ hHeld).mono ?_; rintro e w17 ⟨rfl, hb17⟩
      refine hK.out _ _ (held_next hHeld hb17) (fun hHeld => ?_)
      clear hK K
      try simp only [Act.put, List.setIfInBounds_toArray, List.set_cons_zero, List.set_cons_succ]
      refine wpAnyH_take (i := 18) (oi := { dst := some 47, op := Op.pick (Operand.tmp 43) (Operand.tmp 46) (Operand.const (Value.bool false)), type := 4, pos := "law.go:58", after := #[{ on := 14, ground := Ground.data }, { on := 17, ground := Ground.data }], guard := none }) (v := ?v18) rfl (by kernel_rfl) (by kernel_rfl) (by kernel_rfl) (fun _ _ _ h => h) (Or.inl ⟨by rfl, ?hy18⟩) hHeld ?rest18
      case hy18 => (intro w hSw; go_simp; try with_reducible rfl)
      try simp only [Act.put, List.setIfInBounds_toArray, List.set_cons_zero, List.set_cons_succ]
      refine wpAnyH_take (i := 19) (oi := { dst := some 48, op := Op.move (Operand.tmp 47), type := 4, pos := "law.go:58", after := #[{ on := 18, ground := Ground.data }, { on := 17, ground := Ground.chain }], guard := none }) (v := ?v19) rfl (by kernel_rfl) (by kernel_rfl) (by kernel_rfl) (fun _ _ _ h => h) (Or.inl ⟨by rfl, ?hy19⟩) hHeld ?rest19
      case hy19 => (intro w hSw; go_simp; try with_reducible rfl)
      try simp only [Act.put, List.setIfInBounds_toArray, List.set_cons_zero, List.set_cons_succ]
      refine wpAnyH_take (i := 20) (oi := { dst := some 49, op := Op.move (Operand.tmp 7), type := 28, pos := "law.go:58", after := #[{ on := 19, ground := Ground.guard }], guard := some (19, true) }) (v := ?v20) rfl (by kernel_rfl) (by kernel_rfl) (by kernel_rfl) (fun _ _ _ h => h) (Or.inl ⟨by rfl, ?hy20⟩) hHeld ?rest20
      case hy20 => (intro w hSw; go_simp; try with_reducible rfl)
      try simp only [Act.put, List.setIfInBounds_toArray, List.set_cons_zero, List.set_cons_succ]
      refine wpAnyH_take (i := 21) (oi := { dst := some 50, op := Op.move (Operand.tmp 9), type := 28, pos := "law.go:58", after := #[{ on := 19, ground := Ground.guard }], guard := some (19, true) }) (v := ?v21) rfl (by kernel_rfl) (by kernel_rfl) (by kernel_rfl) (fun _ _ _ h => h) (Or.inl ⟨by rfl, ?hy21⟩) hHeld ?rest21
      case hy21 => (intro w hSw; go_simp; try with_reducible rfl)
      try simp only [Act.put, List.setIfInBounds_toArray, List.set_cons_zero, List.set_cons_succ]
      refine wpAnyH_take (i := 22) (oi := { dst := some 51, op := Op.binOp BinOp.eql 28 (Operand.tmp 49) (Operand.tmp 50) 28, type := 4, pos := "law.go:58", after := #[{ on := 20, ground := Ground.data }, { on := 21, ground := Ground.data }, { on := 19, ground := Ground.guard }], guard := some (19, true) }) (v := ?v22) rfl (by kernel_rfl) (by kernel_rfl) (by kernel_rfl) (fun _ _ _ h => h) (Or.inl ⟨by rfl, ?hy22⟩) hHeld ?rest22
      case hy22 => (intro w hSw; go_simp; try with_reducible rfl)
      try simp only [Act.put, List.setIfInBounds_toArray, List.set_cons_zero, List.set_cons_succ]
      refine wpAnyH_take (i := 23) (oi := { dst := some 52, op := Op.pick (Operand.tmp 48) (Operand.tmp 51) (Operand.const (Value.bool false)), type := 4, pos := "law.go:58", after := #[{ on := 19, ground := Ground.data }, { on := 22, ground := Ground.data }], guard := none }) (v := ?v23) rfl (by kernel_rfl) (by kernel_rfl) (by kernel_rfl) (fun _ _ _ h => h) (Or.inl ⟨by rfl, ?hy23⟩) hHeld ?rest23
      case hy23 => (intro w hSw; go_simp; try with_reducible rfl)
      try simp only [Act.put, List.setIfInBounds_toArray, List.set_cons_zero, List.set_cons_succ]
      refine wpAnyH_take (i := 24) (oi := { dst := some 53, op := Op.move (Operand.tmp 52), type := 4, pos := "law.go:58", after := #[{ on := 23, ground := Ground.data }, { on := 19, ground := Ground.chain }], guard := none }) (v := ?v24) rfl (by kernel_rfl) (by kernel_rfl) (by kernel_rfl) (fun _ _ _ h => h) (Or.inl ⟨by rfl, ?hy24⟩) hHeld ?rest24
      case hy24 => (intro w hSw; go_simp; try with_reducible rfl)
      try simp only [Act.put, List.setIfInBounds_toArray, List.set_cons_zero, List.set_cons_succ]
      refine wpAnyH_take (i := 25) (oi := { dst := some 54, op := Op.load 112 (Operand.tmp 2), type := 112, pos := "law.go:58", after := #[{ on := 24, ground := Ground.guard }], guard := some (24, true) }) (v := _) rfl (by kernel_rfl) (by kernel_rfl) (by kernel_rfl) (fun _ _ _ h => h) (yields_rec rfl (.inr rfl) rfl rfl hn (fun _ h => (HY.out _ h).1)) hHeld ?_
      try simp only [Act.put, List.setIfInBounds_toArray, List.set_cons_zero, List.set_cons_succ]
      refine wpAnyH_take (i := 27) (oi := { dst := some 56, op := Op.load 112 (Operand.tmp 3), type := 112, pos := "law.go:58", after := #[{ on := 24, ground := Ground.guard }], guard := some (24, true) }) (v := _) rfl (by kernel_rfl) (by kernel_rfl) (by kernel_rfl) (fun _ _ _ h => h) (yields_rec rfl (.inr rfl) rfl rfl hn' (fun _ h => (HY.out _ h).2)) hHeld ?_
      try simp only [Act.put, List.setIfInBounds_toArray, List.set_cons_zero, List.set_cons_succ]
      refine wpAnyH_take (i := 30) (oi := { dst := some 59, op := Op.load 112 (Operand.tmp 2), type := 112, pos := "law.go:58", after := #[{ on := 24, ground := Ground.guard }], guard := some (24, true) }) (v := _) rfl (by kernel_rfl) (by kernel_rfl) (by kernel_rfl) (fun _ _ _ h => h) (yields_rec rfl (.inr rfl) rfl rfl hn (fun _ h => (HY.out _ h).1)) hHeld ?_
      try simp only [Act.put, List.setIfInBounds_toArray, List.set_cons_zero, List.set_cons_succ]
      refine wpAnyH_take (i := 31) (oi := { dst := some 60, op := Op.load 112 (Operand.tmp 3), type := 112, pos := "law.go:58", after := #[{ on := 24, ground := Ground.guard }], guard := some (24, true) }) (v := _) rfl (by kernel_rfl) (by kernel_rfl) (by kernel_rfl) (fun _ _ _ h => h) (yields_rec rfl (.inr rfl) rfl rfl hn' (fun _ h => (HY.out _ h).2)) hHeld ?_
      try simp only [Act.put, List.setIfInBounds_toArray, List.set_cons_zero, List.set_cons_succ]
      refine wpAnyH_ready (rs := [26]) (by kernel_rfl) (by simp) ?_
      refine AllReadyH.cons (o := { dst := some 55, op := Op.call { callee := Callee.value (Operand.func 77), args := #[Operand.tmp 54], argTypes := #[112] }, type := 109, pos := "law.go:58", after := #[{ on := 25, ground := Ground.data }, { on := 24, ground := Ground.chain }, { on := 24, ground := Ground.guard }], guard := some (24, true) }) rfl (fun K hK => ?_) AllReadyH.nil
      go_simp
      refine (fown_any _ k nm A n c hn).mono ?_; rintro e w26 ⟨rfl, hb26⟩
      refine hK.out _ _ (held_next hHeld hb26) (fun hHeld => ?_)
      clear hK K
      try simp only [Act.put, List.setIfInBounds_toArray, List.set_cons_zero, List.set_cons_succ]
      refine wpAnyH_ready (rs := [28]) (by kernel_rfl) (by simp) ?_
      refine AllReadyH.cons (o := { dst := some 57, op := Op.call { callee := Callee.value (Operand.func 77), args := #[Operand.tmp 56], argTypes := #[112] }, type := 109, pos := "law.go:58", after := #[{ on := 27, ground := Ground.data }, { on := 26, ground := Ground.chain }, { on := 24, ground := Ground.guard }], guard := some (24, true) }) rfl (fun K hK => ?_) AllReadyH.nil
      go_simp
      refine (fown_any _ k' nm' A' n' c' hn').mono ?_; rintro e w28 ⟨rfl, hb28⟩
      refine hK.out _ _ (held_next hHeld hb28) (fun hHeld => ?_)
      clear hK K
      try simp only [Act.put, List.setIfInBounds_toArray, List.set_cons_zero, List.set_cons_succ]
      refine wpAnyH_ready (rs := [29]) (by kernel_rfl) (by simp) ?_
      refine AllReadyH.cons (o := { dst := some 58, op := Op.call { callee := Callee.value (Operand.func 78), args := #[Operand.tmp 55, Operand.tmp 57], argTypes := #[109, 109] }, type := 4, pos := "law.go:58", after := #[{ on := 26, ground := Ground.data }, { on := 28, ground := Ground.data }, { on := 28, ground := Ground.chain }, { on := 24, ground := Ground.guard }], guard := some (24, true) }) rfl (fun K hK => ?_) AllReadyH.nil
      go_simp
      refine (fsame_any _ _ _ k k' nm nm' A A' n c n' c' bs bs' hn hn' (HXS.out _ hHeld).1 (HXS.out _ hHeld).2).mono ?_; rintro e w29 ⟨rfl, hb29⟩
      refine hK.out _ _ (held_next hHeld hb29) (fun hHeld => ?_)
      clear hK K
      try simp only [Act.put, List.setIfInBounds_toArray, List.set_cons_zero, List.set_cons_succ]
      refine wpAnyH_ready (rs := [32]) (by kernel_rfl) (by simp) ?_
      refine AllReadyH.cons (o := { dst := some 61, op := Op.call { callee := Callee.value (Operand.func 70), args := #[Operand.tmp 59, Operand.tmp 60], argTypes := #[112, 112] }, type := 4, pos := "law.go:58", after := #[{ on := 30, ground := Ground.data }, { on := 31, ground := Ground.data }, { on := 29, ground := Ground.chain }, { on := 24, ground := Ground.guard }], guard := some (24, true) }) rfl (fun K hK => ?_) AllReadyH.nil
      go_simp
      refine (frsame_any _ _ _ k k' nm nm' A A' n c n' c' bs bs' hn hn' (HXS.out _ hHeld).1 (HXS.out _ hHeld).2 (by omega) (by omega)).mono ?_; rintro e w32 ⟨rfl, hb32⟩
      refine hK.out _ _ (held_next hHeld hb32) (fun hHeld => ?_)
      clear hK K
      try simp only [Act.put, List.setIfInBounds_toArray, List.set_cons_zero, List.set_cons_succ]
      refine wpAnyH_take (i := 33) (oi := { dst := some 62, op := Op.binOp BinOp.eql 4 (Operand.tmp 58) (Operand.tmp 61) 4, type := 4, pos := "law.go:58", after := #[{ on := 29, ground := Ground.data }, { on := 32, ground := Ground.data }, { on := 24, ground := Ground.guard }], guard := some (24, true) }) (v := ?v33) rfl (by kernel_rfl) (by kernel_rfl) (by kernel_rfl) (fun _ _ _ h => h) (Or.inl ⟨by rfl, ?hy33⟩) hHeld ?rest33
      case hy33 => (intro w hSw; go_simp; try with_reducible rfl)
      try simp only [Act.put, List.setIfInBounds_toArray, List.set_cons_zero, List.set_cons_succ]
      refine wpAnyH_take (i := 34) (oi := { dst := some 63, op := Op.pick (Operand.tmp 53) (Operand.tmp 62) (Operand.const (Value.bool false)), type := 4, pos := "law.go:58", after := #[{ on := 24, ground := Ground.data }, { on := 33, ground := Ground.data }], guard := none }) (v := ?v34) rfl (by kernel_rfl) (by kernel_rfl) (by kernel_rfl) (fun _ _ _ h => h) (Or.inl ⟨by rfl, ?hy34⟩) hHeld ?rest34
      case hy34 => (intro w hSw; go_simp; try with_reducible rfl)
      try simp only [Act.put, List.setIfInBounds_toArray, List.set_cons_zero, List.set_cons_succ]
      refine wpAnyH_take (i := 35) (oi := { dst := some 64, op := Op.move (Operand.tmp 63), type := 4, pos := "law.go:58", after := #[{ on := 34, ground := Ground.data }, { on := 32, ground := Ground.chain }], guard := none }) (v := ?v35) rfl (by kernel_rfl) (by kernel_rfl) (by kernel_rfl) (fun _ _ _ h => h) (Or.inl ⟨by rfl, ?hy35⟩) hHeld ?rest35
      case hy35 => (intro w hSw; go_simp; try with_reducible rfl)
      try simp only [Act.put, List.setIfInBounds_toArray, List.set_cons_zero, List.set_cons_succ]
      refine wpAnyH_ready (rs := [36]) (by kernel_rfl) (by simp) ?_
      refine AllReadyH.cons (o := { dst := some 65, op := Op.call { callee := Callee.value (Operand.func 65), args := #[], argTypes := #[] }, type := 4, pos := "law.go:58", after := #[{ on := 35, ground := Ground.chain }, { on := 35, ground := Ground.guard }], guard := some (35, true) }) rfl (fun K hK => ?_) AllReadyH.nil
      go_simp
      refine (HALS.out _ hHeld).mono ?_; rintro e w36 ⟨rfl, hb36⟩
      refine hK.out _ _ (held_next hHeld hb36) (fun hHeld => ?_)
      clear hK K
      try simp only [Act.put, List.setIfInBounds_toArray, List.set_cons_zero, List.set_cons_succ]
      refine wpAnyH_take (i := 37) (oi := { dst := some 66, op := Op.pick (Operand.tmp 64) (Operand.tmp 65) (Operand.const (Value.bool false)), type := 4, pos := "law.go:58", after := #[{ on := 35, ground := Ground.data }, { on := 36, ground := Ground.data }], guard := none }) (v := ?v37) rfl (by kernel_rfl) (by kernel_rfl) (by kernel_rfl) (fun _ _ _ h => h) (Or.inl ⟨by rfl, ?hy37⟩) hHeld ?rest37
      case hy37 => (intro w hSw; go_simp; try with_reducible rfl)
      try simp only [Act.put, List.setIfInBounds_toArray, List.set_cons_zero, List.set_cons_succ]
      refine wpAnyH_take (i := 38) (oi := { dst := some 4, op := Op.assign (Operand.tmp 66), type := 4, pos := "law.go:58", after := #[{ on := 37, ground := Ground.data }, { on := 36, ground := Ground.chain }, { on := 0, ground := Ground.phase }, { on := 1, ground := Ground.phase }, { on := 2, ground := Ground.phase }, { on := 3, ground := Ground.phase }, { on := 4, ground := Ground.phase }, { on := 5, ground := Ground.phase }, { on := 6, ground := Ground.phase }, { on := 7, ground := Ground.phase }, { on := 8, ground := Ground.phase }, { on := 9, ground := Ground.phase }, { on := 10, ground := Ground.phase }, { on := 11, ground := Ground.phase }, { on := 12, ground := Ground.phase }, { on := 13, ground := Ground.phase }, { on := 14, ground := Ground.phase }, { on := 15, ground := Ground.phase }, { on := 16, ground := Ground.phase }, { on := 17, ground := Ground.phase }, { on := 18, ground := Ground.phase }, { on := 19, ground := Ground.phase }, { on := 20, ground := Ground.phase }, { on := 21, ground := Ground.phase }, { on := 22, ground := Ground.phase }, { on := 23, ground := Ground.phase }, { on := 24, ground := Ground.phase }, { on := 25, ground := Ground.phase }, { on := 26, ground := Ground.phase }, { on := 27, ground := Ground.phase }, { on := 28, ground := Ground.phase }, { on := 29, ground := Ground.phase }, { on := 30, ground := Ground.phase }, { on := 31, ground := Ground.phase }, { on := 32, ground := Ground.phase }, { on := 33, ground := Ground.phase }, { on := 34, ground := Ground.phase }, { on := 35, ground := Ground.phase }, { on := 36, ground := Ground.phase }, { on := 37, ground := Ground.phase }], guard := none }) (v := ?v38) rfl (by kernel_rfl) (by kernel_rfl) (by kernel_rfl) (fun _ _ _ h => h) (Or.inl ⟨by rfl, ?hy38⟩) hHeld ?rest38
      case hy38 => (intro w hSw; go_simp; try with_reducible rfl)
      try simp only [Act.put, List.setIfInBounds_toArray, List.set_cons_zero, List.set_cons_succ]
      refine wpAnyH_done (by kernel_rfl) ?_ _
      go_wp2_with fail
      go_ret
      exact ⟨rfl, (HB1.out _ (HNB (HN5.out.below hHeld.out))).2.2⟩
    | true =>
      obtain ⟨hk0, hk9, hn5⟩ : 0 < k ∧ k ≤ 9 ∧ n ≤ 5000 := of_decide_eq_true hrr
      obtain ⟨k, rfl⟩ := Int.eq_ofNat_of_zero_le (show 0 ≤ k by omega)
      have hk0' : 0 < k := by omega
      have hk9' : k ≤ 9 := by omega
      refine (fput_yes w3 g 0 (Lo w.heap.size) k nm A n c bs HN3.out.tab (by omega) hn hk0' hk9' (HX.out.1.below (hbW0.trans (HN3.out.bel.mono hbW0.size))) hn5).mono ?_
      rintro e w4 ⟨A4, c4, d4, rfl, hown4, ht4, hd4, hd4', hG4⟩
      have hEl : (frE k nm bs).length = (numE k).length + n + 48 := by rw [frE_len, recE_len hn, HLEN.out.1]
      have h8 := numE_small hk9'
      obtain ⟨L, hL⟩ : ∃ L, L = (frE k nm bs).length := ⟨_, rfl⟩
      rw [← hL] at hown4 hEl ⊢
      have hEl1 : 48 ≤ L ∧ L ≤ 5056 := by omega
      clear hEl
      have HN4 := Lib.hid (HN3.out.step ht4 hG4)
      have hcap4 : L ≤ c4 := by
        obtain ⟨_, _, he, hc⟩ := own_shape hown4
        cases he
        exact hc
      have HX4 := Lib.hid (Bs.mk (S := fun j => w3.heap.size ≤ j) hL.symm hcap4 (Reads.of_own hown4))
      have HLL := Lib.hid hL
      clear ht4 hG4 hown4 hL
      go_wp2_with (first | (refine wl_rec rfl (.tmp 2) 112 rfl (.inr rfl) rfl (HB1.out _ (HNB HN4.out)).1 hn ?_))
      refine (frput_yes w4 (Lo w.heap.size) k nm A n c bs hn hk0' hk9' (HX.out.1.below (hbW0.trans (HN4.out.bel.mono hbW0.size))) hn5).mono ?_
      rintro e w5 ⟨A5, c5, rfl, hown5, hb5⟩
      rw [← HLL.out] at hown5 ⊢
      have HN5 := Lib.hid (HN4.out.below hb5)
      have hcap5 : L ≤ c5 := by
        obtain ⟨_, _, he, hc⟩ := own_shape hown5
        cases he
        exact hc
      have HX5 := Lib.hid (Bs.mk (S := fun j => w4.heap.size ≤ j) HLL.out.symm hcap5 (Reads.of_own hown5))
      have HX45 := Lib.hid (HX4.out.after hb5)
      clear hb5 hown5
      go_wp2_with fail
      have HY : Hid (∀ w', Hid (Below w5.heap.size w5 w') → Blk w' w.heap.size 112 (RC (k : Int) nm (.slice A n c)) ∧ Blk w' (w.heap.size + 1) 112 (RC k' nm' (.slice A' n' c'))) := Lib.hid fun w' h => by
        have hh := HB1.out _ (HNB (HN5.out.below h.out))
        exact ⟨hh.1, hh.2.1⟩
      have HXS : Hid (∀ w', Hid (Below w5.heap.size w5 w') → Bs w' (Lo w.heap.size) A n c bs ∧ Bs w' (Lo w.heap.size) A' n' c' bs') := Lib.hid fun w' h => by
        have hh := (HB1.out _ (HNB (HN5.out.below h.out))).2.2
        exact ⟨HX.out.1.below hh, HX.out.2.below hh⟩
      have HSZ : Hid (∀ w', Hid (Below w5.heap.size w5 w') → Calls Try.prog 82 #[.agg (RC (k : Int) nm (.slice A n c))] w' fun e w'' => e = .returned (.int .i64 (L : Int)) ∧ Below w'.heap.size w' w'') := Lib.hid fun w' h => by
        rw [HLL.out, frE_len]
        exact fsize_yes w' _ k nm A n c bs hn hk0' hk9' (HXS.out w' h).1 hn5
      have HBY : Hid (∀ w', Hid (Below w5.heap.size w5 w') → Calls Try.prog 26 #[.slice A4 L c4, .slice A5 L c5] w' fun e w'' => e = .returned (.bool true) ∧ Below w'.heap.size w' w'') := Lib.hid fun w' h => (bytes_any w' _ _ A4 A5 L L c4 c5 _ _ (HX45.out.after h.out) (HX5.out.after h.out) (by omega) (by omega)).mono fun e w'' h => by
        obtain ⟨rfl, m4, rfl⟩ := h
        exact ⟨by rw [decide_eq_true rfl], below_drewN (Below.refl _ _) m4⟩
      have HALS : Hid (∀ w', Hid (Below w5.heap.size w5 w') → Calls Try.prog 65 #[] w' fun e w'' => e = .returned (.bool true) ∧ Below w'.heap.size w' w'') := Lib.hid fun w' h => (HAL.out _ (HNB (HN5.out.below h.out))).mono fun e w'' h => ⟨h.1, h.2.2⟩
      refine wp_region_held_drew (S := fun w' => Hid (Below w5.heap.size w5 w')) (by kernel_rfl) (Lib.hid ((Below.refl _ _).drew)) (fun hHeld => ?_)
      refine wpAnyH_take (i := 0) (oi := { dst := some 29, op := Op.load 112 (Operand.tmp 2), type := 112, pos := "law.go:58", after := #[], guard := none }) (v := _) rfl (by kernel_rfl) (by kernel_rfl) (by kernel_rfl) (fun _ _ _ h => h) (yields_rec rfl (.inr rfl) rfl rfl hn (fun _ h => (HY.out _ h).1)) hHeld ?_
      try simp only [Act.put, List.setIfInBounds_toArray, List.set_cons_zero, List.set_cons_succ]
      refine wpAnyH_take (i := 3) (oi := { dst := some 32, op := Op.load 112 (Operand.tmp 2), type := 112, pos := "law.go:58", after := #[], guard := none }) (v := _) rfl (by kernel_rfl) (by kernel_rfl) (by kernel_rfl) (fun _ _ _ h => h) (yields_rec rfl (.inr rfl) rfl rfl hn (fun _ h => (HY.out _ h).1)) hHeld ?_
      try simp only [Act.put, List.setIfInBounds_toArray, List.set_cons_zero, List.set_cons_succ]
      refine wpAnyH_ready (rs := [1]) (by kernel_rfl) (by simp) ?_
      refine AllReadyH.cons (o := { dst := some 30, op := Op.call { callee := Callee.value (Operand.func 77), args := #[Operand.tmp 29], argTypes := #[112] }, type := 109, pos := "law.go:58", after := #[{ on := 0, ground := Ground.data }], guard := none }) rfl (fun K hK => ?_) AllReadyH.nil
      go_simp
      refine (fown_any _ (k : Int) nm A n c hn).mono ?_; rintro e w1 ⟨rfl, hb1⟩
      refine hK.out _ _ (held_next hHeld hb1) (fun hHeld => ?_)
      clear hK K
      try simp only [Act.put, List.setIfInBounds_toArray, List.set_cons_zero, List.set_cons_succ]
      refine wpAnyH_ready (rs := [2]) (by kernel_rfl) (by simp) ?_
      refine AllReadyH.cons (o := { dst := some 31, op := Op.call { callee := Callee.value (Operand.func 80), args := #[Operand.tmp 30], argTypes := #[109] }, type := 4, pos := "law.go:58", after := #[{ on := 1, ground := Ground.data }, { on := 1, ground := Ground.chain }], guard := none }) rfl (fun K hK => ?_) AllReadyH.nil
      go_simp
      refine (fright_any _ (k : Int) nm A n c hn).mono ?_; rintro e w2 ⟨rfl, hb2⟩
      refine hK.out _ _ (held_next hHeld hb2) (fun hHeld => ?_)
      clear hK K
      try simp only [Act.put, List.setIfInBounds_toArray, List.set_cons_zero, List.set_cons_succ]
      refine wpAnyH_ready (rs := [4]) (by kernel_rfl) (by simp) ?_
      refine AllReadyH.cons (o := { dst := some 33, op := Op.call { callee := Callee.value (Operand.func 81), args := #[Operand.tmp 32], argTypes := #[112] }, type := 4, pos := "law.go:58", after := #[{ on := 3, ground := Ground.data }, { on := 2, ground := Ground.chain }], guard := none }) rfl (fun K hK => ?_) AllReadyH.nil
      go_simp
      refine (frright_any _ (k : Int) nm A n c hn).mono ?_; rintro e w4 ⟨rfl, hb4⟩
      refine hK.out _ _ (held_next hHeld hb4) (fun hHeld => ?_)
      clear hK K
      try simp only [Act.put, List.setIfInBounds_toArray, List.set_cons_zero, List.set_cons_succ]
      refine wpAnyH_take (i := 5) (oi := { dst := some 34, op := Op.binOp BinOp.eql 4 (Operand.tmp 31) (Operand.tmp 33) 4, type := 4, pos := "law.go:58", after := #[{ on := 2, ground := Ground.data }, { on := 4, ground := Ground.data }], guard := none }) (v := ?vb5) rfl (by kernel_rfl) (by kernel_rfl) (by kernel_rfl) (fun _ _ _ h => h) (Or.inl ⟨by rfl, ?hyb5⟩) hHeld ?restb5
      case hyb5 => (intro w hSw; go_simp; try with_reducible rfl)
      try simp only [Act.put, List.setIfInBounds_toArray, List.set_cons_zero, List.set_cons_succ]
      refine wpAnyH_take (i := 6) (oi := { dst := some 35, op := Op.move (Operand.tmp 34), type := 4, pos := "law.go:58", after := #[{ on := 5, ground := Ground.data }, { on := 4, ground := Ground.chain }], guard := none }) (v := ?vb6) rfl (by kernel_rfl) (by kernel_rfl) (by kernel_rfl) (fun _ _ _ h => h) (Or.inl ⟨by rfl, ?hyb6⟩) hHeld ?restb6
      case hyb6 => (intro w hSw; go_simp; try with_reducible rfl)
      try simp only [Act.put, List.setIfInBounds_toArray, List.set_cons_zero, List.set_cons_succ]
      refine wpAnyH_take (i := 7) (oi := { dst := some 36, op := Op.load 112 (Operand.tmp 2), type := 112, pos := "law.go:58", after := #[{ on := 6, ground := Ground.guard }], guard := some (6, true) }) (v := _) rfl (by kernel_rfl) (by kernel_rfl) (by kernel_rfl) (fun _ _ _ h => h) (yields_rec rfl (.inr rfl) rfl rfl hn (fun _ h => (HY.out _ h).1)) hHeld ?_
      try simp only [Act.put, List.setIfInBounds_toArray, List.set_cons_zero, List.set_cons_succ]
      refine wpAnyH_take (i := 10) (oi := { dst := some 39, op := Op.move (Operand.tmp 8), type := 22, pos := "law.go:58", after := #[{ on := 6, ground := Ground.guard }], guard := some (6, true) }) (v := ?vb10) rfl (by kernel_rfl) (by kernel_rfl) (by kernel_rfl) (fun _ _ _ h => h) (Or.inl ⟨by rfl, ?hyb10⟩) hHeld ?restb10
      case hyb10 => (intro w hSw; go_simp; try with_reducible rfl)
      try simp only [Act.put, List.setIfInBounds_toArray, List.set_cons_zero, List.set_cons_succ]
      refine wpAnyH_take (i := 11) (oi := { dst := some 40, op := Op.call { callee := Callee.builtin Builtin.len, args := #[Operand.tmp 39], argTypes := #[22] }, type := 3, pos := "law.go:58", after := #[{ on := 10, ground := Ground.data }, { on := 6, ground := Ground.guard }], guard := some (6, true) }) (v := ?vb11) rfl (by kernel_rfl) (by kernel_rfl) (by kernel_rfl) (fun _ _ _ h => h) (Or.inl ⟨by rfl, ?hyb11⟩) hHeld ?restb11
      case hyb11 => (intro w hSw; go_simp; try with_reducible rfl)
      try simp only [Act.put, List.setIfInBounds_toArray, List.set_cons_zero, List.set_cons_succ]
      refine wpAnyH_ready (rs := [8]) (by kernel_rfl) (by simp) ?_
      refine AllReadyH.cons (o := { dst := some 37, op := Op.call { callee := Callee.value (Operand.func 77), args := #[Operand.tmp 36], argTypes := #[112] }, type := 109, pos := "law.go:58", after := #[{ on := 7, ground := Ground.data }, { on := 6, ground := Ground.chain }, { on := 6, ground := Ground.guard }], guard := some (6, true) }) rfl (fun K hK => ?_) AllReadyH.nil
      go_simp
      refine (fown_any _ (k : Int) nm A n c hn).mono ?_; rintro e w8 ⟨rfl, hb8⟩
      refine hK.out _ _ (held_next hHeld hb8) (fun hHeld => ?_)
      clear hK K
      try simp only [Act.put, List.setIfInBounds_toArray, List.set_cons_zero, List.set_cons_succ]
      refine wpAnyH_ready (rs := [9]) (by kernel_rfl) (by simp) ?_
      refine AllReadyH.cons (o := { dst := some 38, op := Op.call { callee := Callee.value (Operand.func 82), args := #[Operand.tmp 37], argTypes := #[109] }, type := 3, pos := "law.go:58", after := #[{ on := 8, ground := Ground.data }, { on := 8, ground := Ground.chain }, { on := 6, ground := Ground.guard }], guard := some (6, true) }) rfl (fun K hK => ?_) AllReadyH.nil
      go_simp
      refine (HSZ.out _ hHeld).mono ?_; rintro e w9 ⟨rfl, hb9⟩
      refine hK.out _ _ (held_next hHeld hb9) (fun hHeld => ?_)
      clear hK K
      try simp only [Act.put, List.setIfInBounds_toArray, List.set_cons_zero, List.set_cons_succ]
      refine wpAnyH_take (i := 12) (oi := { dst := some 41, op := Op.binOp BinOp.eql 3 (Operand.tmp 38) (Operand.tmp 40) 3, type := 4, pos := "law.go:58", after := #[{ on := 9, ground := Ground.data }, { on := 11, ground := Ground.data }, { on := 6, ground := Ground.guard }], guard := some (6, true) }) (v := ?vb12) rfl (by kernel_rfl) (by kernel_rfl) (by kernel_rfl) (fun _ _ _ h => h) (Or.inl ⟨by rfl, ?hyb12⟩) hHeld ?restb12
      case hyb12 => (intro w hSw; go_simp; try with_reducible rfl)
      try simp only [Act.put, List.setIfInBounds_toArray, List.set_cons_zero, List.set_cons_succ]
      refine wpAnyH_take (i := 13) (oi := { dst := some 42, op := Op.pick (Operand.tmp 35) (Operand.tmp 41) (Operand.const (Value.bool false)), type := 4, pos := "law.go:58", after := #[{ on := 6, ground := Ground.data }, { on := 12, ground := Ground.data }], guard := none }) (v := ?vb13) rfl (by kernel_rfl) (by kernel_rfl) (by kernel_rfl) (fun _ _ _ h => h) (Or.inl ⟨by rfl, ?hyb13⟩) hHeld ?restb13
      case hyb13 => (intro w hSw; go_simp; try with_reducible rfl)
      try simp only [Act.put, List.setIfInBounds_toArray, List.set_cons_zero, List.set_cons_succ]
      refine wpAnyH_take (i := 14) (oi := { dst := some 43, op := Op.move (Operand.tmp 42), type := 4, pos := "law.go:58", after := #[{ on := 13, ground := Ground.data }, { on := 9, ground := Ground.chain }], guard := none }) (v := ?vb14) rfl (by kernel_rfl) (by kernel_rfl) (by kernel_rfl) (fun _ _ _ h => h) (Or.inl ⟨by rfl, ?hyb14⟩) hHeld ?restb14
      case hyb14 => (intro w hSw; go_simp; try with_reducible rfl)
      try simp only [Act.put, List.setIfInBounds_toArray, List.set_cons_zero, List.set_cons_succ]
      refine wpAnyH_take (i := 15) (oi := { dst := some 44, op := Op.move (Operand.tmp 6), type := 22, pos := "law.go:58", after := #[{ on := 14, ground := Ground.guard }], guard := some (14, true) }) (v := ?vb15) rfl (by kernel_rfl) (by kernel_rfl) (by kernel_rfl) (fun _ _ _ h => h) (Or.inl ⟨by rfl, ?hyb15⟩) hHeld ?restb15
      case hyb15 => (intro w hSw; go_simp; try with_reducible rfl)
      try simp only [Act.put, List.setIfInBounds_toArray, List.set_cons_zero, List.set_cons_succ]
      refine wpAnyH_take (i := 16) (oi := { dst := some 45, op := Op.move (Operand.tmp 8), type := 22, pos := "law.go:58", after := #[{ on := 14, ground := Ground.guard }], guard := some (14, true) }) (v := ?vb16) rfl (by kernel_rfl) (by kernel_rfl) (by kernel_rfl) (fun _ _ _ h => h) (Or.inl ⟨by rfl, ?hyb16⟩) hHeld ?restb16
      case hyb16 => (intro w hSw; go_simp; try with_reducible rfl)
      try simp only [Act.put, List.setIfInBounds_toArray, List.set_cons_zero, List.set_cons_succ]
      refine wpAnyH_ready (rs := [17]) (by kernel_rfl) (by simp) ?_
      refine AllReadyH.cons (o := { dst := some 46, op := Op.call { callee := Callee.value (Operand.func 26), args := #[Operand.tmp 44, Operand.tmp 45], argTypes := #[22, 22] }, type := 4, pos := "law.go:58", after := #[{ on := 15, ground := Ground.data }, { on := 16, ground := Ground.data }, { on := 14, ground := Ground.chain }, { on := 14, ground := Ground.guard }], guard := some (14, true) }) rfl (fun K hK => ?_) AllReadyH.nil
      go_simp
      refine (HBY.out _ hHeld).mono ?_; rintro e w17 ⟨rfl, hb17⟩
      refine hK.out _ _ (held_next hHeld hb17) (fun hHeld => ?_)
      clear hK K
      try simp only [Act.put, List.setIfInBounds_toArray, List.set_cons_zero, List.set_cons_succ]
      refine wpAnyH_take (i := 18) (oi := { dst := some 47, op := Op.pick (Operand.tmp 43) (Operand.tmp 46) (Operand.const (Value.bool false)), type := 4, pos := "law.go:58", after := #[{ on := 14, ground := Ground.data }, { on := 17, ground := Ground.data }], guard := none }) (v := ?vb18) rfl (by kernel_rfl) (by kernel_rfl) (by kernel_rfl) (fun _ _ _ h => h) (Or.inl ⟨by rfl, ?hyb18⟩) hHeld ?restb18
      case hyb18 => (intro w hSw; go_simp; try with_reducible rfl)
      try simp only [Act.put, List.setIfInBounds_toArray, List.set_cons_zero, List.set_cons_succ]
      refine wpAnyH_take (i := 19) (oi := { dst := some 48, op := Op.move (Operand.tmp 47), type := 4, pos := "law.go:58", after := #[{ on := 18, ground := Ground.data }, { on := 17, ground := Ground.chain }], guard := none }) (v := ?vb19) rfl (by kernel_rfl) (by kernel_rfl) (by kernel_rfl) (fun _ _ _ h => h) (Or.inl ⟨by rfl, ?hyb19⟩) hHeld ?restb19
      case hyb19 => (intro w hSw; go_simp; try with_reducible rfl)
      try simp only [Act.put, List.setIfInBounds_toArray, List.set_cons_zero, List.set_cons_succ]
      refine wpAnyH_take (i := 20) (oi := { dst := some 49, op := Op.move (Operand.tmp 7), type := 28, pos := "law.go:58", after := #[{ on := 19, ground := Ground.guard }], guard := some (19, true) }) (v := ?vb20) rfl (by kernel_rfl) (by kernel_rfl) (by kernel_rfl) (fun _ _ _ h => h) (Or.inl ⟨by rfl, ?hyb20⟩) hHeld ?restb20
      case hyb20 => (intro w hSw; go_simp; try with_reducible rfl)
      try simp only [Act.put, List.setIfInBounds_toArray, List.set_cons_zero, List.set_cons_succ]
      refine wpAnyH_take (i := 21) (oi := { dst := some 50, op := Op.move (Operand.tmp 9), type := 28, pos := "law.go:58", after := #[{ on := 19, ground := Ground.guard }], guard := some (19, true) }) (v := ?vb21) rfl (by kernel_rfl) (by kernel_rfl) (by kernel_rfl) (fun _ _ _ h => h) (Or.inl ⟨by rfl, ?hyb21⟩) hHeld ?restb21
      case hyb21 => (intro w hSw; go_simp; try with_reducible rfl)
      try simp only [Act.put, List.setIfInBounds_toArray, List.set_cons_zero, List.set_cons_succ]
      refine wpAnyH_take (i := 22) (oi := { dst := some 51, op := Op.binOp BinOp.eql 28 (Operand.tmp 49) (Operand.tmp 50) 28, type := 4, pos := "law.go:58", after := #[{ on := 20, ground := Ground.data }, { on := 21, ground := Ground.data }, { on := 19, ground := Ground.guard }], guard := some (19, true) }) (v := ?vb22) rfl (by kernel_rfl) (by kernel_rfl) (by kernel_rfl) (fun _ _ _ h => h) (Or.inl ⟨by rfl, ?hyb22⟩) hHeld ?restb22
      case hyb22 => (intro w hSw; go_simp; try with_reducible rfl)
      try simp only [Act.put, List.setIfInBounds_toArray, List.set_cons_zero, List.set_cons_succ]
      refine wpAnyH_take (i := 23) (oi := { dst := some 52, op := Op.pick (Operand.tmp 48) (Operand.tmp 51) (Operand.const (Value.bool false)), type := 4, pos := "law.go:58", after := #[{ on := 19, ground := Ground.data }, { on := 22, ground := Ground.data }], guard := none }) (v := ?vb23) rfl (by kernel_rfl) (by kernel_rfl) (by kernel_rfl) (fun _ _ _ h => h) (Or.inl ⟨by rfl, ?hyb23⟩) hHeld ?restb23
      case hyb23 => (intro w hSw; go_simp; try with_reducible rfl)
      try simp only [Act.put, List.setIfInBounds_toArray, List.set_cons_zero, List.set_cons_succ]
      refine wpAnyH_take (i := 24) (oi := { dst := some 53, op := Op.move (Operand.tmp 52), type := 4, pos := "law.go:58", after := #[{ on := 23, ground := Ground.data }, { on := 19, ground := Ground.chain }], guard := none }) (v := ?vb24) rfl (by kernel_rfl) (by kernel_rfl) (by kernel_rfl) (fun _ _ _ h => h) (Or.inl ⟨by rfl, ?hyb24⟩) hHeld ?restb24
      case hyb24 => (intro w hSw; go_simp; try with_reducible rfl)
      try simp only [Act.put, List.setIfInBounds_toArray, List.set_cons_zero, List.set_cons_succ]
      refine wpAnyH_take (i := 25) (oi := { dst := some 54, op := Op.load 112 (Operand.tmp 2), type := 112, pos := "law.go:58", after := #[{ on := 24, ground := Ground.guard }], guard := some (24, true) }) (v := _) rfl (by kernel_rfl) (by kernel_rfl) (by kernel_rfl) (fun _ _ _ h => h) (yields_rec rfl (.inr rfl) rfl rfl hn (fun _ h => (HY.out _ h).1)) hHeld ?_
      try simp only [Act.put, List.setIfInBounds_toArray, List.set_cons_zero, List.set_cons_succ]
      refine wpAnyH_take (i := 27) (oi := { dst := some 56, op := Op.load 112 (Operand.tmp 3), type := 112, pos := "law.go:58", after := #[{ on := 24, ground := Ground.guard }], guard := some (24, true) }) (v := _) rfl (by kernel_rfl) (by kernel_rfl) (by kernel_rfl) (fun _ _ _ h => h) (yields_rec rfl (.inr rfl) rfl rfl hn' (fun _ h => (HY.out _ h).2)) hHeld ?_
      try simp only [Act.put, List.setIfInBounds_toArray, List.set_cons_zero, List.set_cons_succ]
      refine wpAnyH_take (i := 30) (oi := { dst := some 59, op := Op.load 112 (Operand.tmp 2), type := 112, pos := "law.go:58", after := #[{ on := 24, ground := Ground.guard }], guard := some (24, true) }) (v := _) rfl (by kernel_rfl) (by kernel_rfl) (by kernel_rfl) (fun _ _ _ h => h) (yields_rec rfl (.inr rfl) rfl rfl hn (fun _ h => (HY.out _ h).1)) hHeld ?_
      try simp only [Act.put, List.setIfInBounds_toArray, List.set_cons_zero, List.set_cons_succ]
      refine wpAnyH_take (i := 31) (oi := { dst := some 60, op := Op.load 112 (Operand.tmp 3), type := 112, pos := "law.go:58", after := #[{ on := 24, ground := Ground.guard }], guard := some (24, true) }) (v := _) rfl (by kernel_rfl) (by kernel_rfl) (by kernel_rfl) (fun _ _ _ h => h) (yields_rec rfl (.inr rfl) rfl rfl hn' (fun _ h => (HY.out _ h).2)) hHeld ?_
      try simp only [Act.put, List.setIfInBounds_toArray, List.set_cons_zero, List.set_cons_succ]
      refine wpAnyH_ready (rs := [26]) (by kernel_rfl) (by simp) ?_
      refine AllReadyH.cons (o := { dst := some 55, op := Op.call { callee := Callee.value (Operand.func 77), args := #[Operand.tmp 54], argTypes := #[112] }, type := 109, pos := "law.go:58", after := #[{ on := 25, ground := Ground.data }, { on := 24, ground := Ground.chain }, { on := 24, ground := Ground.guard }], guard := some (24, true) }) rfl (fun K hK => ?_) AllReadyH.nil
      go_simp
      refine (fown_any _ (k : Int) nm A n c hn).mono ?_; rintro e w26 ⟨rfl, hb26⟩
      refine hK.out _ _ (held_next hHeld hb26) (fun hHeld => ?_)
      clear hK K
      try simp only [Act.put, List.setIfInBounds_toArray, List.set_cons_zero, List.set_cons_succ]
      refine wpAnyH_ready (rs := [28]) (by kernel_rfl) (by simp) ?_
      refine AllReadyH.cons (o := { dst := some 57, op := Op.call { callee := Callee.value (Operand.func 77), args := #[Operand.tmp 56], argTypes := #[112] }, type := 109, pos := "law.go:58", after := #[{ on := 27, ground := Ground.data }, { on := 26, ground := Ground.chain }, { on := 24, ground := Ground.guard }], guard := some (24, true) }) rfl (fun K hK => ?_) AllReadyH.nil
      go_simp
      refine (fown_any _ k' nm' A' n' c' hn').mono ?_; rintro e w28 ⟨rfl, hb28⟩
      refine hK.out _ _ (held_next hHeld hb28) (fun hHeld => ?_)
      clear hK K
      try simp only [Act.put, List.setIfInBounds_toArray, List.set_cons_zero, List.set_cons_succ]
      refine wpAnyH_ready (rs := [29]) (by kernel_rfl) (by simp) ?_
      refine AllReadyH.cons (o := { dst := some 58, op := Op.call { callee := Callee.value (Operand.func 78), args := #[Operand.tmp 55, Operand.tmp 57], argTypes := #[109, 109] }, type := 4, pos := "law.go:58", after := #[{ on := 26, ground := Ground.data }, { on := 28, ground := Ground.data }, { on := 28, ground := Ground.chain }, { on := 24, ground := Ground.guard }], guard := some (24, true) }) rfl (fun K hK => ?_) AllReadyH.nil
      go_simp
      refine (fsame_any _ _ _ (k : Int) k' nm nm' A A' n c n' c' bs bs' hn hn' (HXS.out _ hHeld).1 (HXS.out _ hHeld).2).mono ?_; rintro e w29 ⟨rfl, hb29⟩
      refine hK.out _ _ (held_next hHeld hb29) (fun hHeld => ?_)
      clear hK K
      try simp only [Act.put, List.setIfInBounds_toArray, List.set_cons_zero, List.set_cons_succ]
      refine wpAnyH_ready (rs := [32]) (by kernel_rfl) (by simp) ?_
      refine AllReadyH.cons (o := { dst := some 61, op := Op.call { callee := Callee.value (Operand.func 70), args := #[Operand.tmp 59, Operand.tmp 60], argTypes := #[112, 112] }, type := 4, pos := "law.go:58", after := #[{ on := 30, ground := Ground.data }, { on := 31, ground := Ground.data }, { on := 29, ground := Ground.chain }, { on := 24, ground := Ground.guard }], guard := some (24, true) }) rfl (fun K hK => ?_) AllReadyH.nil
      go_simp
      refine (frsame_any _ _ _ (k : Int) k' nm nm' A A' n c n' c' bs bs' hn hn' (HXS.out _ hHeld).1 (HXS.out _ hHeld).2 (by omega) (by omega)).mono ?_; rintro e w32 ⟨rfl, hb32⟩
      refine hK.out _ _ (held_next hHeld hb32) (fun hHeld => ?_)
      clear hK K
      try simp only [Act.put, List.setIfInBounds_toArray, List.set_cons_zero, List.set_cons_succ]
      refine wpAnyH_take (i := 33) (oi := { dst := some 62, op := Op.binOp BinOp.eql 4 (Operand.tmp 58) (Operand.tmp 61) 4, type := 4, pos := "law.go:58", after := #[{ on := 29, ground := Ground.data }, { on := 32, ground := Ground.data }, { on := 24, ground := Ground.guard }], guard := some (24, true) }) (v := ?vb33) rfl (by kernel_rfl) (by kernel_rfl) (by kernel_rfl) (fun _ _ _ h => h) (Or.inl ⟨by rfl, ?hyb33⟩) hHeld ?restb33
      case hyb33 => (intro w hSw; go_simp; try with_reducible rfl)
      try simp only [Act.put, List.setIfInBounds_toArray, List.set_cons_zero, List.set_cons_succ]
      refine wpAnyH_take (i := 34) (oi := { dst := some 63, op := Op.pick (Operand.tmp 53) (Operand.tmp 62) (Operand.const (Value.bool false)), type := 4, pos := "law.go:58", after := #[{ on := 24, ground := Ground.data }, { on := 33, ground := Ground.data }], guard := none }) (v := ?vb34) rfl (by kernel_rfl) (by kernel_rfl) (by kernel_rfl) (fun _ _ _ h => h) (Or.inl ⟨by rfl, ?hyb34⟩) hHeld ?restb34
      case hyb34 => (intro w hSw; go_simp; try with_reducible rfl)
      try simp only [Act.put, List.setIfInBounds_toArray, List.set_cons_zero, List.set_cons_succ]
      refine wpAnyH_take (i := 35) (oi := { dst := some 64, op := Op.move (Operand.tmp 63), type := 4, pos := "law.go:58", after := #[{ on := 34, ground := Ground.data }, { on := 32, ground := Ground.chain }], guard := none }) (v := ?vb35) rfl (by kernel_rfl) (by kernel_rfl) (by kernel_rfl) (fun _ _ _ h => h) (Or.inl ⟨by rfl, ?hyb35⟩) hHeld ?restb35
      case hyb35 => (intro w hSw; go_simp; try with_reducible rfl)
      try simp only [Act.put, List.setIfInBounds_toArray, List.set_cons_zero, List.set_cons_succ]
      refine wpAnyH_ready (rs := [36]) (by kernel_rfl) (by simp) ?_
      refine AllReadyH.cons (o := { dst := some 65, op := Op.call { callee := Callee.value (Operand.func 65), args := #[], argTypes := #[] }, type := 4, pos := "law.go:58", after := #[{ on := 35, ground := Ground.chain }, { on := 35, ground := Ground.guard }], guard := some (35, true) }) rfl (fun K hK => ?_) AllReadyH.nil
      go_simp
      refine (HALS.out _ hHeld).mono ?_; rintro e w36 ⟨rfl, hb36⟩
      refine hK.out _ _ (held_next hHeld hb36) (fun hHeld => ?_)
      clear hK K
      try simp only [Act.put, List.setIfInBounds_toArray, List.set_cons_zero, List.set_cons_succ]
      refine wpAnyH_take (i := 37) (oi := { dst := some 66, op := Op.pick (Operand.tmp 64) (Operand.tmp 65) (Operand.const (Value.bool false)), type := 4, pos := "law.go:58", after := #[{ on := 35, ground := Ground.data }, { on := 36, ground := Ground.data }], guard := none }) (v := ?vb37) rfl (by kernel_rfl) (by kernel_rfl) (by kernel_rfl) (fun _ _ _ h => h) (Or.inl ⟨by rfl, ?hyb37⟩) hHeld ?restb37
      case hyb37 => (intro w hSw; go_simp; try with_reducible rfl)
      try simp only [Act.put, List.setIfInBounds_toArray, List.set_cons_zero, List.set_cons_succ]
      refine wpAnyH_take (i := 38) (oi := { dst := some 4, op := Op.assign (Operand.tmp 66), type := 4, pos := "law.go:58", after := #[{ on := 37, ground := Ground.data }, { on := 36, ground := Ground.chain }, { on := 0, ground := Ground.phase }, { on := 1, ground := Ground.phase }, { on := 2, ground := Ground.phase }, { on := 3, ground := Ground.phase }, { on := 4, ground := Ground.phase }, { on := 5, ground := Ground.phase }, { on := 6, ground := Ground.phase }, { on := 7, ground := Ground.phase }, { on := 8, ground := Ground.phase }, { on := 9, ground := Ground.phase }, { on := 10, ground := Ground.phase }, { on := 11, ground := Ground.phase }, { on := 12, ground := Ground.phase }, { on := 13, ground := Ground.phase }, { on := 14, ground := Ground.phase }, { on := 15, ground := Ground.phase }, { on := 16, ground := Ground.phase }, { on := 17, ground := Ground.phase }, { on := 18, ground := Ground.phase }, { on := 19, ground := Ground.phase }, { on := 20, ground := Ground.phase }, { on := 21, ground := Ground.phase }, { on := 22, ground := Ground.phase }, { on := 23, ground := Ground.phase }, { on := 24, ground := Ground.phase }, { on := 25, ground := Ground.phase }, { on := 26, ground := Ground.phase }, { on := 27, ground := Ground.phase }, { on := 28, ground := Ground.phase }, { on := 29, ground := Ground.phase }, { on := 30, ground := Ground.phase }, { on := 31, ground := Ground.phase }, { on := 32, ground := Ground.phase }, { on := 33, ground := Ground.phase }, { on := 34, ground := Ground.phase }, { on := 35, ground := Ground.phase }, { on := 36, ground := Ground.phase }, { on := 37, ground := Ground.phase }], guard := none }) (v := ?vb38) rfl (by kernel_rfl) (by kernel_rfl) (by kernel_rfl) (fun _ _ _ h => h) (Or.inl ⟨by rfl, ?hyb38⟩) hHeld ?restb38
      case hyb38 => (intro w hSw; go_simp; try with_reducible rfl)
      try simp only [Act.put, List.setIfInBounds_toArray, List.set_cons_zero, List.set_cons_succ]
      refine wpAnyH_done (by kernel_rfl) ?_ _
      go_wp2_with fail
      go_ret
      exact ⟨rfl, (HB1.out _ (HNB (HN5.out.below hHeld.out))).2.2⟩
end Go.Proofs.Ytaebmhbggbpnoaa
