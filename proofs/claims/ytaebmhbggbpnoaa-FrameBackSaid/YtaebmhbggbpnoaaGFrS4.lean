/- The walks of Placed and All (frame). Conditions: each theorem's premises. -/
import Derived.Test.YtaebmhbggbpnoaaGFrS3
import Derived.Test.YtaebmhbggbpnoaaGFrF1
namespace Go.Proofs.Ytaebmhbggbpnoaa
open Go.RowKit
/-- A record inside a longer row is loaded. -/
theorem yields_mid {ops : Array Oper} {S : World → Prop} {o : Oper} {a : Act} {ty : TypeId} {x : Operand} {g off : Nat} {k : Int} {nm : List UInt8} {b : Value} (ho : o.op = .load ty x) (hty : ty = 109 ∨ ty = 112) (hw : Region.wanted o (yielded ops a.tmps) = true) (hx : a.eval x = .pointer (some ⟨g, off, none⟩)) (hn : nm.length = 32) (hB : ∀ w', S w' → w'.rangeAt g off (RC k nm b).toList) : YieldsIf Try.prog ops S o (.agg (RC k nm b)) a :=
  .inl ⟨hw, fun w' hs => by
    have hl : (loadVar ty ⟨g, off, none⟩).run Try.prog w' = .ok (.agg (RC k nm b)) w' := by
      rcases hty with rfl | rfl
      · have := run_loadVar_mid (P := Try.prog) w' g off 109 (RC k nm b).toList _ (hB w' hs) Try.underlying109 rfl (by rw [size109]; simp [RC.size hn])
        simpa using this
      · have := run_loadVar_mid (P := Try.prog) w' g off 112 (RC k nm b).toList _ (hB w' hs) Try.underlying112 rfl (by rw [size112]; simp [RC.size hn])
        simpa using this
    unfold execOp
    simp only [ho, hx, Instr.loadAt, Instr.sureAddr, Sem.run_bind, Sem.run_pure, Result.andThen_ok, hl]⟩
/-- A placed record's cells, as a walk asks for them. -/
theorem PQ.cells {w : World} {x : Addr} {r : Pd} {A' : Option Addr} {c' : Nat} (hc : ∀ j v, (PC r.z r.m r.k r.nm (.slice A' r.bs.length c'))[j]? = some v → w.cell? (x.add j) = some v) :
    w.cell? x = some (.int .i64 r.z) ∧ w.cell? ⟨x.block, x.off + 1, none⟩ = some (.int .i64 r.m) ∧ w.rangeAt x.block (x.off + 2) (RC r.k r.nm (.slice A' r.bs.length c')).toList := by
  refine ⟨?_, ?_, fun j v hv => ?_⟩
  · have := hc 0 _ PC.at0
    rwa [Addr.add_zero'] at this
  · have := hc 1 _ PC.at1
    rwa [Addr.add_succ'] at this
  · have := hc (j + 2) v (by rw [PC.rc]; simpa using hv)
    rw [Addr.add_succ'] at this
    rw [← this]
    congr 2
    omega
theorem PQ.old {w : World} {S : Nat → Prop} {A : Option Addr} {n c : Nat} {l : List Pd} (h : PQ w S A n c l) : PQ w (Lo w.heap.size) A n c l := h.keepC (fun _ _ _ hu => hu) (fun _ _ h => h)
theorem held_w {W0 w' w'' : World} (h : Hid (Below W0.heap.size W0 w')) (hb : Below w'.heap.size w' w'') : Hid (Below W0.heap.size W0 w'') := Lib.hid (h.out.trans (hb.mono h.out.size))
set_option maxRecDepth 100000 in
set_option maxHeartbeats 4000000 in
theorem fplaced_any (w : World) (S : Nat → Prop) (A : Option Addr) (n c : Nat) (l : List Pd) (hx : PQ w S A n c l) (hn : n ≤ 100000000) :
    Calls Try.prog 73 #[.slice A n c] w fun e w' => ∃ A' c', e = .returned (.slice A' n c') ∧ PQ w' AnyB A' n c' l ∧ Below w.heap.size w w' := by
  have HX := Lib.hid hx.old
  have HL := Lib.hid hx.len
  clear hx
  have HST : Hid (∃ qs, PO w (Lo w.heap.size) w.heap.size 201 (.slice none 0 0) 0 qs ∧ qs.map (·.p) = l.take 0 ∧ Below w.heap.size w w) := Lib.hid ⟨[], PO.nil _ _ _ _, rfl, Below.refl _ _⟩
  go_enter Try.func73, Try.ntmps73
  go_wp2_with fail
  go_loopw [3, 4] (fun v3 v4 wr => ∃ (Av : Option Addr) (i cv : Nat), i ≤ n ∧ v3 = .slice Av i cv ∧ v4 = .int .i64 (i : Int) ∧ Hid (∃ qs, PO wr (Lo w.heap.size) w.heap.size 201 (.slice Av i cv) i qs ∧ qs.map (·.p) = l.take i ∧ Below w.heap.size w wr)) (fun _ v4 _ => n - (intOf v4).toNat)
  case atStart => exact ⟨none, 0, 0, Nat.zero_le _, rfl, rfl, HST⟩
  case round =>
    obtain ⟨Av, i, cv, hi, rfl, rfl, HR⟩ := hrel
    obtain ⟨qs, hpo, hql, hbl⟩ := HR.out
    have HQ := Lib.hid (And.intro hpo (And.intro hql hbl))
    clear HR hpo hql HST
    by_cases hlt : i < n
    · have hlt' : (i : Int) < (n : Int) := by omega
      obtain ⟨ad, x, A', c', r, rfl, hsb, hr, hxe, hc, hb⟩ := HX.out.at_ i hlt
      have HRR := Lib.hid (And.intro hr.out (And.intro hsb (And.intro hc.out hb)))
      have hxb : x.block < w.heap.size := by rw [← hxe, block_of_add]; exact hsb
      have hnr := hr.out.2
      clear hsb hr hc hb hbl
      have HCC : Hid (∀ w', Hid (Below w.heap.size w w') → w'.cell? x = some (.int .i64 (r.z : Int)) ∧ w'.cell? ⟨x.block, x.off + 1, none⟩ = some (.int .i64 (r.m : Int)) ∧ w'.rangeAt x.block (x.off + 2) (RC (r.k : Int) r.nm (.slice A' r.bs.length c')).toList) := Lib.hid fun w' hw => by
        obtain ⟨q1, q2, q3⟩ := PQ.cells HRR.out.2.2.1
        exact ⟨(hw.out.cell (World.block_lt_of_cell? _ _ q1)).trans q1, (hw.out.cell (World.block_lt_of_cell? _ _ q2)).trans q2, fun j v hv => (hw.out.cell (World.block_lt_of_cell? _ _ (q3 j v hv))).trans (q3 j v hv)⟩
      obtain ⟨ie, zz, hie, hzz, hsz1, hzs, hby, hfill⟩ := fill201 (r.z : Nat) (r.m : Nat) (r.k : Nat) r.nm A' r.bs.length c' hnr
      have HFI := Lib.hid (And.intro hie (And.intro hzz (And.intro hsz1 (And.intro hzs (And.intro hby hfill)))))
      clear hie hzz hsz1 hzs hby hfill
      go_wp2_with fail
      refine wp_region_held_drew (S := fun w' => Hid (Below w.heap.size w w')) (by kernel_rfl) (Lib.hid HQ.out.2.2.drew) (fun hHeld => ?_)
      refine wpAnyH_take (i := 0) (oi := { dst := some 11, op := Op.move (Operand.tmp 3), type := 118, pos := "law.go:22", after := #[], guard := none }) (v := ?v0) rfl (by kernel_rfl) (by kernel_rfl) (by kernel_rfl) (fun _ _ _ h => h) (Or.inl ⟨by rfl, ?hy0⟩) hHeld ?rest0
      case hy0 => (intro w hSw; go_simp; try with_reducible rfl)
      try simp only [Act.put, List.setIfInBounds_toArray, List.set_cons_zero, List.set_cons_succ]
      refine wpAnyH_take (i := 1) (oi := { dst := some 12, op := Op.move (Operand.tmp 0), type := 115, pos := "law.go:22", after := #[], guard := none }) (v := ?v1) rfl (by kernel_rfl) (by kernel_rfl) (by kernel_rfl) (fun _ _ _ h => h) (Or.inl ⟨by rfl, ?hy1⟩) hHeld ?rest1
      case hy1 => (intro w hSw; go_simp; try with_reducible rfl)
      try simp only [Act.put, List.setIfInBounds_toArray, List.set_cons_zero, List.set_cons_succ]
      refine wpAnyH_take (i := 2) (oi := { dst := some 13, op := Op.move (Operand.tmp 4), type := 3, pos := "law.go:22", after := #[], guard := none }) (v := ?v2) rfl (by kernel_rfl) (by kernel_rfl) (by kernel_rfl) (fun _ _ _ h => h) (Or.inl ⟨by rfl, ?hy2⟩) hHeld ?rest2
      case hy2 => (intro w hSw; go_simp; try with_reducible rfl)
      try simp only [Act.put, List.setIfInBounds_toArray, List.set_cons_zero, List.set_cons_succ]
      refine wpAnyH_take (i := 3) (oi := { dst := some 14, op := Op.indexAddr 115 (Operand.tmp 12) (Operand.tmp 13), type := 0, pos := "law.go:22", after := #[{ on := 1, ground := Ground.data }, { on := 2, ground := Ground.data }], guard := none }) (v := ?v3) rfl (by kernel_rfl) (by kernel_rfl) (by kernel_rfl) (fun _ _ _ h => h) (Or.inl ⟨by rfl, ?hy3⟩) hHeld ?rest3
      case hy3 => (intro w hSw; go_simp; try with_reducible rfl)
      try simp only [Act.put, List.setIfInBounds_toArray, List.set_cons_zero, List.set_cons_succ]
      refine wpAnyH_take (i := 4) (oi := { dst := some 15, op := Op.fieldAddr 134 (Operand.tmp 14) 0, type := 0, pos := "law.go:22", after := #[{ on := 3, ground := Ground.data }], guard := none }) (v := ?v4) rfl (by kernel_rfl) (by kernel_rfl) (by kernel_rfl) (fun _ _ _ h => h) (Or.inl ⟨by rfl, ?hy4⟩) hHeld ?rest4
      case hy4 => (intro w hSw; go_simp; try with_reducible rfl)
      try simp only [Act.put, List.setIfInBounds_toArray, List.set_cons_zero, List.set_cons_succ]
      refine wpAnyH_take (i := 5) (oi := { dst := some 16, op := Op.load 3 (Operand.tmp 15), type := 3, pos := "law.go:22", after := #[{ on := 4, ground := Ground.data }], guard := none }) (v := ?v5) rfl (by kernel_rfl) (by kernel_rfl) (by kernel_rfl) (fun _ _ _ h => h) (Or.inl ⟨by rfl, ?hy5⟩) hHeld ?rest5
      case hy5 => (intro w hSw; obtain ⟨q1, q2, q3⟩ := HCC.out w hSw; clear q3; go_simp; try with_reducible rfl)
      try simp only [Act.put, List.setIfInBounds_toArray, List.set_cons_zero, List.set_cons_succ]
      refine wpAnyH_take (i := 6) (oi := { dst := some 17, op := Op.move (Operand.tmp 0), type := 115, pos := "law.go:22", after := #[], guard := none }) (v := ?v6) rfl (by kernel_rfl) (by kernel_rfl) (by kernel_rfl) (fun _ _ _ h => h) (Or.inl ⟨by rfl, ?hy6⟩) hHeld ?rest6
      case hy6 => (intro w hSw; go_simp; try with_reducible rfl)
      try simp only [Act.put, List.setIfInBounds_toArray, List.set_cons_zero, List.set_cons_succ]
      refine wpAnyH_take (i := 7) (oi := { dst := some 18, op := Op.move (Operand.tmp 4), type := 3, pos := "law.go:22", after := #[], guard := none }) (v := ?v7) rfl (by kernel_rfl) (by kernel_rfl) (by kernel_rfl) (fun _ _ _ h => h) (Or.inl ⟨by rfl, ?hy7⟩) hHeld ?rest7
      case hy7 => (intro w hSw; go_simp; try with_reducible rfl)
      try simp only [Act.put, List.setIfInBounds_toArray, List.set_cons_zero, List.set_cons_succ]
      refine wpAnyH_take (i := 8) (oi := { dst := some 19, op := Op.indexAddr 115 (Operand.tmp 17) (Operand.tmp 18), type := 0, pos := "law.go:22", after := #[{ on := 6, ground := Ground.data }, { on := 7, ground := Ground.data }], guard := none }) (v := ?v8) rfl (by kernel_rfl) (by kernel_rfl) (by kernel_rfl) (fun _ _ _ h => h) (Or.inl ⟨by rfl, ?hy8⟩) hHeld ?rest8
      case hy8 => (intro w hSw; go_simp; try with_reducible rfl)
      try simp only [Act.put, List.setIfInBounds_toArray, List.set_cons_zero, List.set_cons_succ]
      refine wpAnyH_take (i := 9) (oi := { dst := some 20, op := Op.fieldAddr 134 (Operand.tmp 19) 1, type := 0, pos := "law.go:22", after := #[{ on := 8, ground := Ground.data }], guard := none }) (v := ?v9) rfl (by kernel_rfl) (by kernel_rfl) (by kernel_rfl) (fun _ _ _ h => h) (Or.inl ⟨by rfl, ?hy9⟩) hHeld ?rest9
      case hy9 => (intro w hSw; go_simp; try with_reducible rfl)
      try simp only [Act.put, List.setIfInBounds_toArray, List.set_cons_zero, List.set_cons_succ]
      refine wpAnyH_take (i := 10) (oi := { dst := some 21, op := Op.load 3 (Operand.tmp 20), type := 3, pos := "law.go:22", after := #[{ on := 9, ground := Ground.data }], guard := none }) (v := ?v10) rfl (by kernel_rfl) (by kernel_rfl) (by kernel_rfl) (fun _ _ _ h => h) (Or.inl ⟨by rfl, ?hy10⟩) hHeld ?rest10
      case hy10 => (intro w hSw; obtain ⟨q1, q2, q3⟩ := HCC.out w hSw; clear q3; go_simp; try with_reducible rfl)
      try simp only [Act.put, List.setIfInBounds_toArray, List.set_cons_zero, List.set_cons_succ]
      refine wpAnyH_take (i := 11) (oi := { dst := some 22, op := Op.move (Operand.tmp 0), type := 115, pos := "law.go:22", after := #[], guard := none }) (v := ?v11) rfl (by kernel_rfl) (by kernel_rfl) (by kernel_rfl) (fun _ _ _ h => h) (Or.inl ⟨by rfl, ?hy11⟩) hHeld ?rest11
      case hy11 => (intro w hSw; go_simp; try with_reducible rfl)
      try simp only [Act.put, List.setIfInBounds_toArray, List.set_cons_zero, List.set_cons_succ]
      refine wpAnyH_take (i := 12) (oi := { dst := some 23, op := Op.move (Operand.tmp 4), type := 3, pos := "law.go:22", after := #[], guard := none }) (v := ?v12) rfl (by kernel_rfl) (by kernel_rfl) (by kernel_rfl) (fun _ _ _ h => h) (Or.inl ⟨by rfl, ?hy12⟩) hHeld ?rest12
      case hy12 => (intro w hSw; go_simp; try with_reducible rfl)
      try simp only [Act.put, List.setIfInBounds_toArray, List.set_cons_zero, List.set_cons_succ]
      refine wpAnyH_take (i := 13) (oi := { dst := some 24, op := Op.indexAddr 115 (Operand.tmp 22) (Operand.tmp 23), type := 0, pos := "law.go:22", after := #[{ on := 11, ground := Ground.data }, { on := 12, ground := Ground.data }], guard := none }) (v := ?v13) rfl (by kernel_rfl) (by kernel_rfl) (by kernel_rfl) (fun _ _ _ h => h) (Or.inl ⟨by rfl, ?hy13⟩) hHeld ?rest13
      case hy13 => (intro w hSw; go_simp; try with_reducible rfl)
      try simp only [Act.put, List.setIfInBounds_toArray, List.set_cons_zero, List.set_cons_succ]
      refine wpAnyH_take (i := 14) (oi := { dst := some 25, op := Op.fieldAddr 134 (Operand.tmp 24) 2, type := 0, pos := "law.go:22", after := #[{ on := 13, ground := Ground.data }], guard := none }) (v := ?v14) rfl (by kernel_rfl) (by kernel_rfl) (by kernel_rfl) (fun _ _ _ h => h) (Or.inl ⟨by rfl, ?hy14⟩) hHeld ?rest14
      case hy14 => (intro w hSw; go_simp; try with_reducible rfl)
      try simp only [Act.put, List.setIfInBounds_toArray, List.set_cons_zero, List.set_cons_succ]
      refine wpAnyH_take (i := 15) (oi := { dst := some 26, op := Op.load 109 (Operand.tmp 25), type := 109, pos := "law.go:22", after := #[{ on := 14, ground := Ground.data }], guard := none }) (v := _) rfl (by kernel_rfl) (by kernel_rfl) (by kernel_rfl) (fun _ _ _ h => h) (yields_mid rfl (.inl rfl) rfl rfl hnr (fun _ h => (HCC.out _ h).2.2)) hHeld ?_
      try simp only [Act.put, List.setIfInBounds_toArray, List.set_cons_zero, List.set_cons_succ]
      refine wpAnyH_ready (rs := [16]) (by kernel_rfl) (by simp) ?_
      refine AllReadyH.cons (o := { dst := some 27, op := Op.call { callee := Callee.value (Operand.func 71), args := #[Operand.tmp 26], argTypes := #[109] }, type := 112, pos := "law.go:22", after := #[{ on := 15, ground := Ground.data }], guard := none }) rfl (fun K hK => ?_) AllReadyH.nil
      go_simp
      refine (fback_any _ (r.k : Int) r.nm A' r.bs.length c' hnr).mono ?_; rintro e w16 ⟨rfl, hb16⟩
      refine hK.out _ _ (held_w hHeld hb16) (fun hHeld => ?_)
      clear hK K
      try simp only [Act.put, List.setIfInBounds_toArray, List.set_cons_zero, List.set_cons_succ]
      refine wpAnyH_take (i := 17) (oi := { dst := some 28, op := Op.build 201 #[(0, Operand.tmp 16), (1, Operand.tmp 21), (2, Operand.tmp 27)], type := 201, pos := "law.go:22", after := #[{ on := 5, ground := Ground.data }, { on := 10, ground := Ground.data }, { on := 16, ground := Ground.data }], guard := none }) (v := _) rfl (by kernel_rfl) (by kernel_rfl) (by kernel_rfl) (fun _ _ _ h => h) (yields_build rfl rfl (by simp only [List.map_toArray, List.map_cons, List.map_nil]; simp [Act.eval]; exact built201 (r.z : Nat) (r.m : Nat) (r.k : Nat) r.nm A' r.bs.length c' hnr)) hHeld ?_
      try simp only [Act.put, List.setIfInBounds_toArray, List.set_cons_zero, List.set_cons_succ]
      refine wpAnyH_ready (rs := [18]) (by kernel_rfl) (by simp) ?_
      refine AllReadyH.cons (o := { dst := some 29, op := Op.buildSlice 118 1 #[(0, Operand.tmp 28)], type := 118, pos := "law.go:22", after := #[{ on := 17, ground := Ground.data }], guard := none }) rfl (fun K hK => ?_) AllReadyH.nil
      rw [if_pos (by rfl)]; refine wp_buildSlice 118 201 1 _ rfl (PC (r.z : Nat) (r.m : Nat) (r.k : Nat) r.nm (.slice A' r.bs.length c')) ie zz Try.underlying118 HFI.out.1 HFI.out.2.1 (by rw [HFI.out.2.2.1]; omega) (by rw [HFI.out.2.2.1]; omega) ((congrArg (Instr.fill _ _) (by simp [Act.eval])).trans HFI.out.2.2.2.2.2) ?_
      refine hK.out _ _ ((Lib.hid (hHeld.out.alloc (Nat.le_trans (Nat.le_refl _) hHeld.out.size) _))) (fun hHeld => ?_)
      clear hK K
      try simp only [Act.put, List.setIfInBounds_toArray, List.set_cons_zero, List.set_cons_succ]
      refine wpAnyH_ready (rs := [19]) (by kernel_rfl) (by simp) ?_
      refine AllReadyH.cons (o := { dst := some 30, op := Op.call { callee := Callee.builtin Builtin.append, args := #[Operand.tmp 11, Operand.tmp 29], argTypes := #[118, 118] }, type := 118, pos := "law.go:22", after := #[{ on := 0, ground := Ground.data }, { on := 18, ground := Ground.data }, { on := 16, ground := Ground.chain }], guard := none }) rfl (fun K hK => ?_) AllReadyH.nil
      rw [if_pos (by rfl)]; refine wp_append_any _ (.tmp 11) (.tmp 29) 118 rfl w.heap.size 201 ie zz 36 80 Try.underlying118 HFI.out.1 HFI.out.2.1 HFI.out.2.2.1 HFI.out.2.2.2.2.1 HFI.out.2.2.2.1 (by omega) (.slice Av i cv) i (flatP qs) rfl (HQ.out.1.after (((Below.refl _ _).drew.trans hb16).alloc (((Below.refl _ wr).drew.trans hb16).size) _)).own AnyB (some ⟨w16.heap.size, 0, none⟩) 1 1 _ rfl (reads_pc' w16 (r.z : Nat) (r.m : Nat) (r.k : Nat) r.nm (.slice A' r.bs.length c') hnr 201) (PC.one rfl) (by simp only [maxLen]; omega) (by omega) (hHeld.out.size) ?_; intro v4 w4 hown4 hg4 hat4; obtain ⟨A4, c4, rfl, hc4⟩ := own_shape hown4
      refine hK.out _ _ ((Lib.hid (hHeld.out.grown hg4 hHeld.out.size (fun j e => (own_block HQ.out.1.own e).1)))) (fun hHeld => ?_)
      clear hK K
      try simp only [Act.put, List.setIfInBounds_toArray, List.set_cons_zero, List.set_cons_succ]
      refine wpAnyH_take (i := 20) (oi := { dst := some 3, op := Op.assign (Operand.tmp 30), type := 118, pos := "law.go:22", after := #[{ on := 19, ground := Ground.data }, { on := 19, ground := Ground.chain }, { on := 0, ground := Ground.phase }, { on := 1, ground := Ground.phase }, { on := 2, ground := Ground.phase }, { on := 3, ground := Ground.phase }, { on := 4, ground := Ground.phase }, { on := 5, ground := Ground.phase }, { on := 6, ground := Ground.phase }, { on := 7, ground := Ground.phase }, { on := 8, ground := Ground.phase }, { on := 9, ground := Ground.phase }, { on := 10, ground := Ground.phase }, { on := 11, ground := Ground.phase }, { on := 12, ground := Ground.phase }, { on := 13, ground := Ground.phase }, { on := 14, ground := Ground.phase }, { on := 15, ground := Ground.phase }, { on := 16, ground := Ground.phase }, { on := 17, ground := Ground.phase }, { on := 18, ground := Ground.phase }, { on := 19, ground := Ground.phase }], guard := none }) (v := ?v20) rfl (by kernel_rfl) (by kernel_rfl) (by kernel_rfl) (fun _ _ _ h => h) (Or.inl ⟨by rfl, ?hy20⟩) hHeld ?rest20
      case hy20 => (intro w hSw; go_simp; try with_reducible rfl)
      try simp only [Act.put, List.setIfInBounds_toArray, List.set_cons_zero, List.set_cons_succ]
      refine wpAnyH_done (by kernel_rfl) ?_ _
      have H4 := Lib.hid (And.intro hown4 (And.intro hg4 (And.intro hat4 hHeld.out)))
      have hb16' : Below wr.heap.size wr w16 := (Below.refl _ _).drew.trans hb16
      have HB16 := Lib.hid hb16'
      clear hown4 hg4 hat4 hHeld hb16 hb16'
      go_wp2_with fail
      go_roundw
      case rel =>
        have hba : Below w16.heap.size w16 (w16.alloc (.cells (PC (r.z : Nat) (r.m : Nat) (r.k : Nat) r.nm (.slice A' r.bs.length c')) 201)) := (Below.refl _ _).alloc (Nat.le_refl _) _
        have hb1 := HB16.out.trans (hba.mono HB16.out.size)
        have hw1 := HQ.out.2.2
        refine ⟨A4, i + 1, c4, by omega, rfl, by go_num, Lib.hid ⟨qs ++ [⟨r, A', c'⟩], (HQ.out.1.after hb1).snoc (q := ⟨r, A', c'⟩) hnr H4.out.1 H4.out.2.1 H4.out.2.2.1 ?_, ?_, H4.out.2.2.2⟩⟩
        · exact (HRR.out.2.2.2.below (hw1.trans (hb1.mono hw1.size))).mono (fun j hj => ⟨hj, fun e => by
            have h1 := (own_block HQ.out.1.own e.symm).1
            unfold Lo at hj
            omega⟩)
        · rw [List.map_append, HQ.out.2.1, List.take_add_one, HRR.out.1.1]
          rfl
      case measure => simp [intOf]; omega
    · obtain rfl : i = n := by omega
      go_wp2_with fail
      go_ret
      have hsh := HQ.out.1.reads
      rw [HQ.out.2.1, List.take_of_length_le (by rw [HL.out]; exact Nat.le_refl _)] at hsh
      exact ⟨_, _, rfl, hsh.keepC (fun _ _ _ hu => hu) (fun _ _ _ => trivial), HQ.out.2.2⟩
set_option maxRecDepth 100000 in
set_option maxHeartbeats 4000000 in
theorem fall_eq (w : World) (S S' : Nat → Prop) (A A' : Option Addr) (n c c' : Nat) (l : List Pd) (hx : PQ w S A n c l) (hx' : PQ w S' A' n c' l) (hn : n ≤ 100000000) (hbs : ∀ r ∈ l, r.bs.length ≤ 1000000000) :
    Calls Try.prog 72 #[.slice A n c, .slice A' n c'] w fun e w' => e = .returned (.bool true) ∧ Below w.heap.size w w' := by
  have HX := Lib.hid (And.intro hx.old hx'.old)
  have HBS := Lib.hid hbs
  clear hx hx' hbs
  go_enter Try.func72, Try.ntmps72
  go_wp2_with fail
  go_loopw [5] (fun v5 wr => ∃ i : Nat, i ≤ n ∧ v5 = .int .i64 (i : Int) ∧ Hid (Below w.heap.size w wr)) (fun v5 _ => n - (intOf v5).toNat)
  case atStart => exact ⟨0, Nat.zero_le _, rfl, Lib.hid (Below.refl _ _)⟩
  case round =>
    obtain ⟨i, hi, rfl, HR⟩ := hrel
    by_cases hlt : i < n
    · have hlt' : (i : Int) < (n : Int) := by omega
      obtain ⟨ad, x, B, d, r, rfl, hsb, hr, hxe, hc, hb⟩ := HX.out.1.at_ i hlt
      obtain ⟨ad', y, B', d', r', rfl, hsb', hr', hye, hc', hb'⟩ := HX.out.2.at_ i hlt
      have hrr : r' = r := by
        have h1 := hr.out.1
        rw [hr'.out.1] at h1
        exact Option.some.inj h1
      subst hrr
      have HRR := Lib.hid (And.intro hc.out (And.intro hc'.out (And.intro hb (And.intro hb' (HBS.out _ (List.mem_of_getElem? hr.out.1))))))
      have hnr := hr.out.2
      clear hsb hsb' hr hr' hc hc' hb hb'
      have HCC : Hid (∀ w', Hid (Below w.heap.size w w') → w'.cell? x = some (.int .i64 (r'.z : Int)) ∧ w'.cell? ⟨x.block, x.off + 1, none⟩ = some (.int .i64 (r'.m : Int)) ∧ w'.rangeAt x.block (x.off + 2) (RC (r'.k : Int) r'.nm (.slice B r'.bs.length d)).toList) := Lib.hid fun w' hw => by
        obtain ⟨q1, q2, q3⟩ := PQ.cells HRR.out.1
        exact ⟨(hw.out.cell (World.block_lt_of_cell? _ _ q1)).trans q1, (hw.out.cell (World.block_lt_of_cell? _ _ q2)).trans q2, fun j v hv => (hw.out.cell (World.block_lt_of_cell? _ _ (q3 j v hv))).trans (q3 j v hv)⟩
      have HCD : Hid (∀ w', Hid (Below w.heap.size w w') → w'.cell? y = some (.int .i64 (r'.z : Int)) ∧ w'.cell? ⟨y.block, y.off + 1, none⟩ = some (.int .i64 (r'.m : Int)) ∧ w'.rangeAt y.block (y.off + 2) (RC (r'.k : Int) r'.nm (.slice B' r'.bs.length d')).toList) := Lib.hid fun w' hw => by
        obtain ⟨q1, q2, q3⟩ := PQ.cells HRR.out.2.1
        exact ⟨(hw.out.cell (World.block_lt_of_cell? _ _ q1)).trans q1, (hw.out.cell (World.block_lt_of_cell? _ _ q2)).trans q2, fun j v hv => (hw.out.cell (World.block_lt_of_cell? _ _ (q3 j v hv))).trans (q3 j v hv)⟩
      go_wp2_with fail
      refine wp_region_held_drew (S := fun w' => Hid (Below w.heap.size w w')) (by kernel_rfl) (Lib.hid HR.out.drew) (fun hHeld => ?_)
      refine wpAnyH_take (i := 0) (oi := { dst := some 17, op := Op.move (Operand.tmp 0), type := 118, pos := "ref.go:87", after := #[], guard := none }) (v := ?v0) rfl (by kernel_rfl) (by kernel_rfl) (by kernel_rfl) (fun _ _ _ h => h) (Or.inl ⟨by rfl, ?hy0⟩) hHeld ?rest0
      case hy0 => (intro w hSw; go_simp; try with_reducible rfl)
      try simp only [Act.put, List.setIfInBounds_toArray, List.set_cons_zero, List.set_cons_succ]
      refine wpAnyH_take (i := 1) (oi := { dst := some 18, op := Op.move (Operand.tmp 5), type := 3, pos := "ref.go:87", after := #[], guard := none }) (v := ?v1) rfl (by kernel_rfl) (by kernel_rfl) (by kernel_rfl) (fun _ _ _ h => h) (Or.inl ⟨by rfl, ?hy1⟩) hHeld ?rest1
      case hy1 => (intro w hSw; go_simp; try with_reducible rfl)
      try simp only [Act.put, List.setIfInBounds_toArray, List.set_cons_zero, List.set_cons_succ]
      refine wpAnyH_take (i := 2) (oi := { dst := some 19, op := Op.indexAddr 118 (Operand.tmp 17) (Operand.tmp 18), type := 0, pos := "ref.go:87", after := #[{ on := 0, ground := Ground.data }, { on := 1, ground := Ground.data }], guard := none }) (v := ?v2) rfl (by kernel_rfl) (by kernel_rfl) (by kernel_rfl) (fun _ _ _ h => h) (Or.inl ⟨by rfl, ?hy2⟩) hHeld ?rest2
      case hy2 => (intro w hSw; go_simp; try with_reducible rfl)
      try simp only [Act.put, List.setIfInBounds_toArray, List.set_cons_zero, List.set_cons_succ]
      refine wpAnyH_take (i := 3) (oi := { dst := some 20, op := Op.fieldAddr 201 (Operand.tmp 19) 0, type := 0, pos := "ref.go:87", after := #[{ on := 2, ground := Ground.data }], guard := none }) (v := ?v3) rfl (by kernel_rfl) (by kernel_rfl) (by kernel_rfl) (fun _ _ _ h => h) (Or.inl ⟨by rfl, ?hy3⟩) hHeld ?rest3
      case hy3 => (intro w hSw; go_simp; try with_reducible rfl)
      try simp only [Act.put, List.setIfInBounds_toArray, List.set_cons_zero, List.set_cons_succ]
      refine wpAnyH_take (i := 4) (oi := { dst := some 21, op := Op.load 3 (Operand.tmp 20), type := 3, pos := "ref.go:87", after := #[{ on := 3, ground := Ground.data }], guard := none }) (v := ?v4) rfl (by kernel_rfl) (by kernel_rfl) (by kernel_rfl) (fun _ _ _ h => h) (Or.inl ⟨by rfl, ?hy4⟩) hHeld ?rest4
      case hy4 => (intro w hSw; obtain ⟨q1, q2, q3⟩ := HCC.out w hSw; clear q3; go_simp; try with_reducible rfl)
      try simp only [Act.put, List.setIfInBounds_toArray, List.set_cons_zero, List.set_cons_succ]
      refine wpAnyH_take (i := 5) (oi := { dst := some 22, op := Op.move (Operand.tmp 1), type := 118, pos := "ref.go:87", after := #[], guard := none }) (v := ?v5) rfl (by kernel_rfl) (by kernel_rfl) (by kernel_rfl) (fun _ _ _ h => h) (Or.inl ⟨by rfl, ?hy5⟩) hHeld ?rest5
      case hy5 => (intro w hSw; go_simp; try with_reducible rfl)
      try simp only [Act.put, List.setIfInBounds_toArray, List.set_cons_zero, List.set_cons_succ]
      refine wpAnyH_take (i := 6) (oi := { dst := some 23, op := Op.move (Operand.tmp 5), type := 3, pos := "ref.go:87", after := #[], guard := none }) (v := ?v6) rfl (by kernel_rfl) (by kernel_rfl) (by kernel_rfl) (fun _ _ _ h => h) (Or.inl ⟨by rfl, ?hy6⟩) hHeld ?rest6
      case hy6 => (intro w hSw; go_simp; try with_reducible rfl)
      try simp only [Act.put, List.setIfInBounds_toArray, List.set_cons_zero, List.set_cons_succ]
      refine wpAnyH_take (i := 7) (oi := { dst := some 24, op := Op.indexAddr 118 (Operand.tmp 22) (Operand.tmp 23), type := 0, pos := "ref.go:87", after := #[{ on := 5, ground := Ground.data }, { on := 6, ground := Ground.data }], guard := none }) (v := ?v7) rfl (by kernel_rfl) (by kernel_rfl) (by kernel_rfl) (fun _ _ _ h => h) (Or.inl ⟨by rfl, ?hy7⟩) hHeld ?rest7
      case hy7 => (intro w hSw; go_simp; try with_reducible rfl)
      try simp only [Act.put, List.setIfInBounds_toArray, List.set_cons_zero, List.set_cons_succ]
      refine wpAnyH_take (i := 8) (oi := { dst := some 25, op := Op.fieldAddr 201 (Operand.tmp 24) 0, type := 0, pos := "ref.go:87", after := #[{ on := 7, ground := Ground.data }], guard := none }) (v := ?v8) rfl (by kernel_rfl) (by kernel_rfl) (by kernel_rfl) (fun _ _ _ h => h) (Or.inl ⟨by rfl, ?hy8⟩) hHeld ?rest8
      case hy8 => (intro w hSw; go_simp; try with_reducible rfl)
      try simp only [Act.put, List.setIfInBounds_toArray, List.set_cons_zero, List.set_cons_succ]
      refine wpAnyH_take (i := 9) (oi := { dst := some 26, op := Op.load 3 (Operand.tmp 25), type := 3, pos := "ref.go:87", after := #[{ on := 8, ground := Ground.data }], guard := none }) (v := ?v9) rfl (by kernel_rfl) (by kernel_rfl) (by kernel_rfl) (fun _ _ _ h => h) (Or.inl ⟨by rfl, ?hy9⟩) hHeld ?rest9
      case hy9 => (intro w hSw; obtain ⟨q1, q2, q3⟩ := HCD.out w hSw; clear q3; go_simp; try with_reducible rfl)
      try simp only [Act.put, List.setIfInBounds_toArray, List.set_cons_zero, List.set_cons_succ]
      refine wpAnyH_take (i := 10) (oi := { dst := some 27, op := Op.binOp BinOp.neq 3 (Operand.tmp 21) (Operand.tmp 26) 3, type := 4, pos := "ref.go:87", after := #[{ on := 4, ground := Ground.data }, { on := 9, ground := Ground.data }], guard := none }) (v := ?v10) rfl (by kernel_rfl) (by kernel_rfl) (by kernel_rfl) (fun _ _ _ h => h) (Or.inl ⟨by rfl, ?hy10⟩) hHeld ?rest10
      case hy10 => (intro w hSw; go_simp; try with_reducible rfl)
      try simp only [Act.put, List.setIfInBounds_toArray, List.set_cons_zero, List.set_cons_succ]
      refine wpAnyH_take (i := 11) (oi := { dst := some 28, op := Op.move (Operand.tmp 27), type := 4, pos := "ref.go:87", after := #[{ on := 10, ground := Ground.data }], guard := none }) (v := ?v11) rfl (by kernel_rfl) (by kernel_rfl) (by kernel_rfl) (fun _ _ _ h => h) (Or.inl ⟨by rfl, ?hy11⟩) hHeld ?rest11
      case hy11 => (intro w hSw; go_simp; try with_reducible rfl)
      try simp only [Act.put, List.setIfInBounds_toArray, List.set_cons_zero, List.set_cons_succ]
      refine wpAnyH_take (i := 12) (oi := { dst := some 29, op := Op.move (Operand.tmp 0), type := 118, pos := "ref.go:87", after := #[{ on := 11, ground := Ground.guard }], guard := some (11, false) }) (v := ?v12) rfl (by kernel_rfl) (by kernel_rfl) (by kernel_rfl) (fun _ _ _ h => h) (Or.inl ⟨by rfl, ?hy12⟩) hHeld ?rest12
      case hy12 => (intro w hSw; go_simp; try with_reducible rfl)
      try simp only [Act.put, List.setIfInBounds_toArray, List.set_cons_zero, List.set_cons_succ]
      refine wpAnyH_take (i := 13) (oi := { dst := some 30, op := Op.move (Operand.tmp 5), type := 3, pos := "ref.go:87", after := #[{ on := 11, ground := Ground.guard }], guard := some (11, false) }) (v := ?v13) rfl (by kernel_rfl) (by kernel_rfl) (by kernel_rfl) (fun _ _ _ h => h) (Or.inl ⟨by rfl, ?hy13⟩) hHeld ?rest13
      case hy13 => (intro w hSw; go_simp; try with_reducible rfl)
      try simp only [Act.put, List.setIfInBounds_toArray, List.set_cons_zero, List.set_cons_succ]
      refine wpAnyH_take (i := 14) (oi := { dst := some 31, op := Op.indexAddr 118 (Operand.tmp 29) (Operand.tmp 30), type := 0, pos := "ref.go:87", after := #[{ on := 12, ground := Ground.data }, { on := 13, ground := Ground.data }, { on := 11, ground := Ground.guard }], guard := some (11, false) }) (v := ?v14) rfl (by kernel_rfl) (by kernel_rfl) (by kernel_rfl) (fun _ _ _ h => h) (Or.inl ⟨by rfl, ?hy14⟩) hHeld ?rest14
      case hy14 => (intro w hSw; go_simp; try with_reducible rfl)
      try simp only [Act.put, List.setIfInBounds_toArray, List.set_cons_zero, List.set_cons_succ]
      refine wpAnyH_take (i := 15) (oi := { dst := some 32, op := Op.fieldAddr 201 (Operand.tmp 31) 1, type := 0, pos := "ref.go:87", after := #[{ on := 14, ground := Ground.data }, { on := 11, ground := Ground.guard }], guard := some (11, false) }) (v := ?v15) rfl (by kernel_rfl) (by kernel_rfl) (by kernel_rfl) (fun _ _ _ h => h) (Or.inl ⟨by rfl, ?hy15⟩) hHeld ?rest15
      case hy15 => (intro w hSw; go_simp; try with_reducible rfl)
      try simp only [Act.put, List.setIfInBounds_toArray, List.set_cons_zero, List.set_cons_succ]
      refine wpAnyH_take (i := 16) (oi := { dst := some 33, op := Op.load 3 (Operand.tmp 32), type := 3, pos := "ref.go:87", after := #[{ on := 15, ground := Ground.data }, { on := 11, ground := Ground.guard }], guard := some (11, false) }) (v := ?v16) rfl (by kernel_rfl) (by kernel_rfl) (by kernel_rfl) (fun _ _ _ h => h) (Or.inl ⟨by rfl, ?hy16⟩) hHeld ?rest16
      case hy16 => (intro w hSw; obtain ⟨q1, q2, q3⟩ := HCC.out w hSw; clear q3; go_simp; try with_reducible rfl)
      try simp only [Act.put, List.setIfInBounds_toArray, List.set_cons_zero, List.set_cons_succ]
      refine wpAnyH_take (i := 17) (oi := { dst := some 34, op := Op.move (Operand.tmp 1), type := 118, pos := "ref.go:87", after := #[{ on := 11, ground := Ground.guard }], guard := some (11, false) }) (v := ?v17) rfl (by kernel_rfl) (by kernel_rfl) (by kernel_rfl) (fun _ _ _ h => h) (Or.inl ⟨by rfl, ?hy17⟩) hHeld ?rest17
      case hy17 => (intro w hSw; go_simp; try with_reducible rfl)
      try simp only [Act.put, List.setIfInBounds_toArray, List.set_cons_zero, List.set_cons_succ]
      refine wpAnyH_take (i := 18) (oi := { dst := some 35, op := Op.move (Operand.tmp 5), type := 3, pos := "ref.go:87", after := #[{ on := 11, ground := Ground.guard }], guard := some (11, false) }) (v := ?v18) rfl (by kernel_rfl) (by kernel_rfl) (by kernel_rfl) (fun _ _ _ h => h) (Or.inl ⟨by rfl, ?hy18⟩) hHeld ?rest18
      case hy18 => (intro w hSw; go_simp; try with_reducible rfl)
      try simp only [Act.put, List.setIfInBounds_toArray, List.set_cons_zero, List.set_cons_succ]
      refine wpAnyH_take (i := 19) (oi := { dst := some 36, op := Op.indexAddr 118 (Operand.tmp 34) (Operand.tmp 35), type := 0, pos := "ref.go:87", after := #[{ on := 17, ground := Ground.data }, { on := 18, ground := Ground.data }, { on := 11, ground := Ground.guard }], guard := some (11, false) }) (v := ?v19) rfl (by kernel_rfl) (by kernel_rfl) (by kernel_rfl) (fun _ _ _ h => h) (Or.inl ⟨by rfl, ?hy19⟩) hHeld ?rest19
      case hy19 => (intro w hSw; go_simp; try with_reducible rfl)
      try simp only [Act.put, List.setIfInBounds_toArray, List.set_cons_zero, List.set_cons_succ]
      refine wpAnyH_take (i := 20) (oi := { dst := some 37, op := Op.fieldAddr 201 (Operand.tmp 36) 1, type := 0, pos := "ref.go:87", after := #[{ on := 19, ground := Ground.data }, { on := 11, ground := Ground.guard }], guard := some (11, false) }) (v := ?v20) rfl (by kernel_rfl) (by kernel_rfl) (by kernel_rfl) (fun _ _ _ h => h) (Or.inl ⟨by rfl, ?hy20⟩) hHeld ?rest20
      case hy20 => (intro w hSw; go_simp; try with_reducible rfl)
      try simp only [Act.put, List.setIfInBounds_toArray, List.set_cons_zero, List.set_cons_succ]
      refine wpAnyH_take (i := 21) (oi := { dst := some 38, op := Op.load 3 (Operand.tmp 37), type := 3, pos := "ref.go:87", after := #[{ on := 20, ground := Ground.data }, { on := 11, ground := Ground.guard }], guard := some (11, false) }) (v := ?v21) rfl (by kernel_rfl) (by kernel_rfl) (by kernel_rfl) (fun _ _ _ h => h) (Or.inl ⟨by rfl, ?hy21⟩) hHeld ?rest21
      case hy21 => (intro w hSw; obtain ⟨q1, q2, q3⟩ := HCD.out w hSw; clear q3; go_simp; try with_reducible rfl)
      try simp only [Act.put, List.setIfInBounds_toArray, List.set_cons_zero, List.set_cons_succ]
      refine wpAnyH_take (i := 22) (oi := { dst := some 39, op := Op.binOp BinOp.neq 3 (Operand.tmp 33) (Operand.tmp 38) 3, type := 4, pos := "ref.go:87", after := #[{ on := 16, ground := Ground.data }, { on := 21, ground := Ground.data }, { on := 11, ground := Ground.guard }], guard := some (11, false) }) (v := ?v22) rfl (by kernel_rfl) (by kernel_rfl) (by kernel_rfl) (fun _ _ _ h => h) (Or.inl ⟨by rfl, ?hy22⟩) hHeld ?rest22
      case hy22 => (intro w hSw; go_simp; try with_reducible rfl)
      try simp only [Act.put, List.setIfInBounds_toArray, List.set_cons_zero, List.set_cons_succ]
      refine wpAnyH_take (i := 23) (oi := { dst := some 40, op := Op.pick (Operand.tmp 28) (Operand.const (Value.bool true)) (Operand.tmp 39), type := 4, pos := "ref.go:87", after := #[{ on := 11, ground := Ground.data }, { on := 22, ground := Ground.data }], guard := none }) (v := ?v23) rfl (by kernel_rfl) (by kernel_rfl) (by kernel_rfl) (fun _ _ _ h => h) (Or.inl ⟨by rfl, ?hy23⟩) hHeld ?rest23
      case hy23 => (intro w hSw; go_simp; try with_reducible rfl)
      try simp only [Act.put, List.setIfInBounds_toArray, List.set_cons_zero, List.set_cons_succ]
      refine wpAnyH_take (i := 24) (oi := { dst := some 41, op := Op.move (Operand.tmp 40), type := 4, pos := "ref.go:87", after := #[{ on := 23, ground := Ground.data }, { on := 11, ground := Ground.chain }], guard := none }) (v := ?v24) rfl (by kernel_rfl) (by kernel_rfl) (by kernel_rfl) (fun _ _ _ h => h) (Or.inl ⟨by rfl, ?hy24⟩) hHeld ?rest24
      case hy24 => (intro w hSw; go_simp; try with_reducible rfl)
      try simp only [Act.put, List.setIfInBounds_toArray, List.set_cons_zero, List.set_cons_succ]
      refine wpAnyH_take (i := 25) (oi := { dst := some 42, op := Op.move (Operand.tmp 0), type := 118, pos := "ref.go:87", after := #[{ on := 24, ground := Ground.guard }], guard := some (24, false) }) (v := ?v25) rfl (by kernel_rfl) (by kernel_rfl) (by kernel_rfl) (fun _ _ _ h => h) (Or.inl ⟨by rfl, ?hy25⟩) hHeld ?rest25
      case hy25 => (intro w hSw; go_simp; try with_reducible rfl)
      try simp only [Act.put, List.setIfInBounds_toArray, List.set_cons_zero, List.set_cons_succ]
      refine wpAnyH_take (i := 26) (oi := { dst := some 43, op := Op.move (Operand.tmp 5), type := 3, pos := "ref.go:87", after := #[{ on := 24, ground := Ground.guard }], guard := some (24, false) }) (v := ?v26) rfl (by kernel_rfl) (by kernel_rfl) (by kernel_rfl) (fun _ _ _ h => h) (Or.inl ⟨by rfl, ?hy26⟩) hHeld ?rest26
      case hy26 => (intro w hSw; go_simp; try with_reducible rfl)
      try simp only [Act.put, List.setIfInBounds_toArray, List.set_cons_zero, List.set_cons_succ]
      refine wpAnyH_take (i := 27) (oi := { dst := some 44, op := Op.indexAddr 118 (Operand.tmp 42) (Operand.tmp 43), type := 0, pos := "ref.go:87", after := #[{ on := 25, ground := Ground.data }, { on := 26, ground := Ground.data }, { on := 24, ground := Ground.guard }], guard := some (24, false) }) (v := ?v27) rfl (by kernel_rfl) (by kernel_rfl) (by kernel_rfl) (fun _ _ _ h => h) (Or.inl ⟨by rfl, ?hy27⟩) hHeld ?rest27
      case hy27 => (intro w hSw; go_simp; try with_reducible rfl)
      try simp only [Act.put, List.setIfInBounds_toArray, List.set_cons_zero, List.set_cons_succ]
      refine wpAnyH_take (i := 28) (oi := { dst := some 45, op := Op.fieldAddr 201 (Operand.tmp 44) 2, type := 0, pos := "ref.go:87", after := #[{ on := 27, ground := Ground.data }, { on := 24, ground := Ground.guard }], guard := some (24, false) }) (v := ?v28) rfl (by kernel_rfl) (by kernel_rfl) (by kernel_rfl) (fun _ _ _ h => h) (Or.inl ⟨by rfl, ?hy28⟩) hHeld ?rest28
      case hy28 => (intro w hSw; go_simp; try with_reducible rfl)
      try simp only [Act.put, List.setIfInBounds_toArray, List.set_cons_zero, List.set_cons_succ]
      refine wpAnyH_take (i := 29) (oi := { dst := some 46, op := Op.load 112 (Operand.tmp 45), type := 112, pos := "ref.go:87", after := #[{ on := 28, ground := Ground.data }, { on := 24, ground := Ground.guard }], guard := some (24, false) }) (v := _) rfl (by kernel_rfl) (by kernel_rfl) (by kernel_rfl) (fun _ _ _ h => h) (yields_mid rfl (.inr rfl) rfl rfl hnr (fun _ h => (HCC.out _ h).2.2)) hHeld ?_
      try simp only [Act.put, List.setIfInBounds_toArray, List.set_cons_zero, List.set_cons_succ]
      refine wpAnyH_take (i := 30) (oi := { dst := some 47, op := Op.move (Operand.tmp 1), type := 118, pos := "ref.go:87", after := #[{ on := 24, ground := Ground.guard }], guard := some (24, false) }) (v := ?v30) rfl (by kernel_rfl) (by kernel_rfl) (by kernel_rfl) (fun _ _ _ h => h) (Or.inl ⟨by rfl, ?hy30⟩) hHeld ?rest30
      case hy30 => (intro w hSw; go_simp; try with_reducible rfl)
      try simp only [Act.put, List.setIfInBounds_toArray, List.set_cons_zero, List.set_cons_succ]
      refine wpAnyH_take (i := 31) (oi := { dst := some 48, op := Op.move (Operand.tmp 5), type := 3, pos := "ref.go:87", after := #[{ on := 24, ground := Ground.guard }], guard := some (24, false) }) (v := ?v31) rfl (by kernel_rfl) (by kernel_rfl) (by kernel_rfl) (fun _ _ _ h => h) (Or.inl ⟨by rfl, ?hy31⟩) hHeld ?rest31
      case hy31 => (intro w hSw; go_simp; try with_reducible rfl)
      try simp only [Act.put, List.setIfInBounds_toArray, List.set_cons_zero, List.set_cons_succ]
      refine wpAnyH_take (i := 32) (oi := { dst := some 49, op := Op.indexAddr 118 (Operand.tmp 47) (Operand.tmp 48), type := 0, pos := "ref.go:87", after := #[{ on := 30, ground := Ground.data }, { on := 31, ground := Ground.data }, { on := 24, ground := Ground.guard }], guard := some (24, false) }) (v := ?v32) rfl (by kernel_rfl) (by kernel_rfl) (by kernel_rfl) (fun _ _ _ h => h) (Or.inl ⟨by rfl, ?hy32⟩) hHeld ?rest32
      case hy32 => (intro w hSw; go_simp; try with_reducible rfl)
      try simp only [Act.put, List.setIfInBounds_toArray, List.set_cons_zero, List.set_cons_succ]
      refine wpAnyH_take (i := 33) (oi := { dst := some 50, op := Op.fieldAddr 201 (Operand.tmp 49) 2, type := 0, pos := "ref.go:87", after := #[{ on := 32, ground := Ground.data }, { on := 24, ground := Ground.guard }], guard := some (24, false) }) (v := ?v33) rfl (by kernel_rfl) (by kernel_rfl) (by kernel_rfl) (fun _ _ _ h => h) (Or.inl ⟨by rfl, ?hy33⟩) hHeld ?rest33
      case hy33 => (intro w hSw; go_simp; try with_reducible rfl)
      try simp only [Act.put, List.setIfInBounds_toArray, List.set_cons_zero, List.set_cons_succ]
      refine wpAnyH_take (i := 34) (oi := { dst := some 51, op := Op.load 112 (Operand.tmp 50), type := 112, pos := "ref.go:87", after := #[{ on := 33, ground := Ground.data }, { on := 24, ground := Ground.guard }], guard := some (24, false) }) (v := _) rfl (by kernel_rfl) (by kernel_rfl) (by kernel_rfl) (fun _ _ _ h => h) (yields_mid rfl (.inr rfl) rfl rfl hnr (fun _ h => (HCD.out _ h).2.2)) hHeld ?_
      try simp only [Act.put, List.setIfInBounds_toArray, List.set_cons_zero, List.set_cons_succ]
      refine wpAnyH_ready (rs := [35]) (by kernel_rfl) (by simp) ?_
      refine AllReadyH.cons (o := { dst := some 52, op := Op.call { callee := Callee.value (Operand.func 70), args := #[Operand.tmp 46, Operand.tmp 51], argTypes := #[112, 112] }, type := 4, pos := "ref.go:87", after := #[{ on := 29, ground := Ground.data }, { on := 34, ground := Ground.data }, { on := 24, ground := Ground.chain }, { on := 24, ground := Ground.guard }], guard := some (24, false) }) rfl (fun K hK => ?_) AllReadyH.nil
      go_simp
      refine (frsame_any _ (Lo w.heap.size) (Lo w.heap.size) (r'.k : Int) (r'.k : Int) r'.nm r'.nm B B' r'.bs.length d r'.bs.length d' r'.bs r'.bs hnr hnr (HRR.out.2.2.1.below hHeld.out) (HRR.out.2.2.2.1.below hHeld.out) HRR.out.2.2.2.2 HRR.out.2.2.2.2).mono ?_; rintro e w35 ⟨rfl, hb35⟩; rw [decide_eq_true (show ((r'.k : Int) = (r'.k : Int) ∧ r'.nm = r'.nm ∧ r'.bs = r'.bs) from ⟨rfl, rfl, rfl⟩)]
      refine hK.out _ _ (held_w hHeld hb35) (fun hHeld => ?_)
      clear hK K
      try simp only [Act.put, List.setIfInBounds_toArray, List.set_cons_zero, List.set_cons_succ]
      refine wpAnyH_take (i := 36) (oi := { dst := some 53, op := Op.unOp UnOp.not 4 (Operand.tmp 52), type := 4, pos := "ref.go:87", after := #[{ on := 35, ground := Ground.data }, { on := 24, ground := Ground.guard }], guard := some (24, false) }) (v := ?v36) rfl (by kernel_rfl) (by kernel_rfl) (by kernel_rfl) (fun _ _ _ h => h) (Or.inl ⟨by rfl, ?hy36⟩) hHeld ?rest36
      case hy36 => (intro w hSw; go_simp; try with_reducible rfl)
      try simp only [Act.put, List.setIfInBounds_toArray, List.set_cons_zero, List.set_cons_succ]
      refine wpAnyH_take (i := 37) (oi := { dst := some 54, op := Op.pick (Operand.tmp 41) (Operand.const (Value.bool true)) (Operand.tmp 53), type := 4, pos := "ref.go:87", after := #[{ on := 24, ground := Ground.data }, { on := 36, ground := Ground.data }], guard := none }) (v := ?v37) rfl (by kernel_rfl) (by kernel_rfl) (by kernel_rfl) (fun _ _ _ h => h) (Or.inl ⟨by rfl, ?hy37⟩) hHeld ?rest37
      case hy37 => (intro w hSw; go_simp; try with_reducible rfl)
      try simp only [Act.put, List.setIfInBounds_toArray, List.set_cons_zero, List.set_cons_succ]
      refine wpAnyH_done (by kernel_rfl) ?_ _
      clear hb35
      go_wp2_with fail
      go_roundw
      case rel => exact ⟨i + 1, by omega, by go_num, hHeld⟩
      case measure => simp [intOf]; omega
    · obtain rfl : i = n := by omega
      go_wp2_with fail
      go_ret
      exact ⟨rfl, HR.out⟩
end Go.Proofs.Ytaebmhbggbpnoaa
