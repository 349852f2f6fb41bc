/- The walk of (Entry).value (node). Conditions: each theorem's premises. -/
import Derived.Test.YtaebmhbggbpnoaaGNd7
import Derived.Lib.ConvBytes
import Derived.Laws.BytesString
import Derived.Laws.IdiomStrings
namespace Go.Proofs.Ytaebmhbggbpnoaa
open Go.RowKit
theorem blen (s : ByteArray) : s.data.toList.length = s.size := by simp
theorem conv_bs (w : World) (s : ByteArray) : Bs (Lib.bytesWorld w 5 s) (fun k => k = w.heap.size) (some ⟨w.heap.size, 0, none⟩) s.size (grownCap w s.size 0 5) s.data.toList := by
  refine ⟨by simp, grownCap_ge w s.size 0 5, by rw [u8s_length, blen, Nat.mul_one], fun _ => ⟨_, rfl, rfl, fun j u hu => ?_⟩⟩
  rw [add_plain]
  have hj : j < s.size := by
    have := (List.getElem?_eq_some_iff.1 hu).1
    rw [u8s_length, blen] at this
    exact this
  rw [Lib.bytesWorld_cell w 5 s j hj, ← hu]
  simp only [u8s, List.getElem?_map]
  rw [List.getElem?_eq_getElem (by rw [blen]; exact hj), List.getD_eq_getElem?_getD, List.getElem?_eq_getElem (by rw [blen]; exact hj)]
  rfl
theorem conv_below (w : World) (s : ByteArray) : Below w.heap.size w (Lib.bytesWorld w 5 s) := by
  refine ⟨?_, ?_, ?_, by rw [Lib.bytesWorld_size]; omega, fun k hk => Lib.bytesWorld_at_old w 5 s k hk⟩
  all_goals simp [Lib.bytesWorld, World.freeze, World.alloc, World.drew, -World.alloc_eq, -World.drew_eq]
theorem step_conv {ops : Array Oper} {o : Oper} {a : Act} {w : World} {K : Act → World → Prop} {Q : Exit → Act → World → Prop} {E : Prop} {s : ByteArray} (hgd : o.guard = none) (x : Operand) (ho : o.op = .convert 9 22 x) (hx : a.eval x = .string s)
    (h : ∀ c w', Bs w' (fun k => k = w.heap.size) (some ⟨w.heap.size, 0, none⟩) s.size c s.data.toList → Below w.heap.size w w' → K (a.put o.dst (.slice (some ⟨w.heap.size, 0, none⟩) s.size c)) w') :
    if Region.wanted o (yielded ops a.tmps) = true then Oper.wp Try.prog o a w K Q else E := by
  have hw : Region.wanted o (yielded ops a.tmps) = true := by simp [Region.wanted, hgd]
  rw [if_pos hw]
  have hrun := Lib.run_convert_string_bytes (P := Try.prog) w 9 22 5 s Try.underlying9 Try.underlying22 Try.underlying5
  unfold Oper.wp execOp
  simp only [ho, hx, Sem.run_bind, hrun, Result.andThen_ok, Sem.run_pure]
  exact h _ _ (conv_bs w s) (conv_below w s)
/-- What the walk keeps: the entry's box, the result's. -/
structure SE (w : World) (RV : Array Value) (w' : World) : Prop where
  b : Below w.heap.size w w'
  e : Blk w' w.heap.size 144 RV
  r : ∃ a b c d, Blk w' (w.heap.size + 1) 27 #[a, b, c, d]
  z : w.heap.size + 2 ≤ w'.heap.size
theorem SE.after {w w1 w2 : World} {RV : Array Value} (h : SE w RV w1) (hb : Below w1.heap.size w1 w2) : SE w RV w2 := by
  obtain ⟨h1, h2, ⟨a, b, c, d, h3⟩, h4⟩ := h
  exact ⟨h1.trans (hb.mono h1.size), h2.after hb, ⟨a, b, c, d, h3.after hb⟩, Nat.le_trans h4 hb.size⟩
theorem SE.put {w w1 : World} {RV : Array Value} (h : SE w RV w1) (a' b' c' d' : Value) : SE w RV ((((w1.setCell ⟨w.heap.size + 1, 0, none⟩ a').setCell ⟨w.heap.size + 1, 1, none⟩ b').setCell ⟨w.heap.size + 1, 2, none⟩ c').setCell ⟨w.heap.size + 1, 3, none⟩ d') := by
  obtain ⟨h1, h2, ⟨a, b, c, d, h3⟩, h4⟩ := h
  exact ⟨set4_below h1 _ (Nat.le_succ _) _ _ _ _, (((h2.far (by simp) _).far (by simp) _).far (by simp) _).far (by simp) _, ⟨_, _, _, _, set4_blk h3 _ _ _ _⟩, by simp; omega⟩
set_option maxRecDepth 100000 in
theorem nd_entvalue (w : World) (x : EV) (hx : x.ok) (hs : x.name.size ≤ 1000000) :
    Calls Try.prog 108 #[.agg (EC x)] w fun e w' => ∃ q, e = .returned q.agg ∧ VR w' (fun k => w.heap.size ≤ k) q (entT x) ∧ Below w.heap.size w w' := by
  obtain ⟨RV, hRV⟩ : ∃ R, R = EC x := ⟨_, rfl⟩
  obtain ⟨RN, hRN⟩ : ∃ R, R = NC x.h := ⟨_, rfl⟩
  have e1 : RV[1]? = some (.bool x.dir) := by rw [hRV]; exact EC_1 x
  obtain ⟨W, hW⟩ : ∃ W, W = (w.alloc (.cells RV 144)).alloc (.cells #[.int .i64 0, .int .u64 0, .slice none 0 0, .slice none 0 0] 27) := ⟨_, rfl⟩
  have HSE : Hid (SE w RV W) := Lib.hid ⟨by rw [hW]; exact ((Below.refl _ _).alloc (Nat.le_refl _) _).alloc (by simp) _, by rw [hW]; exact (Blk.new w 144 _).alloc _, ⟨_, _, _, _, by rw [hW]; exact blk_new' (by simp)⟩, by rw [hW]; simp⟩
  have HC : Hid (∀ w', SE w RV w' → w'.cell? ⟨w.heap.size, 0, none⟩ = some (.string x.name)) := Lib.hid fun w' h => by rw [h.e.cell, hRV]; exact EC_0 x
  have HA : Hid (∀ w', SE w RV w' → At w' ⟨w.heap.size, 2, none⟩ RN) := Lib.hid fun w' h => by
    have h2 := At.blk h.e
    rw [hRV] at h2
    rw [hRN]
    exact h2.hash
  have HRN : Hid (RN.size = 32) := Lib.hid (by rw [hRN]; exact NC_size hx)
  have HVAL : Hid (∀ W, Calls Try.prog 103 #[.agg RN] W fun e w' => ∃ q, e = .returned q.agg ∧ VR w' (fun j => W.heap.size ≤ j) q (hashT x.h) ∧ Below W.heap.size W w') := Lib.hid (by rw [hRN]; exact fun W => nd_value W x.h hx)
  have HN : Hid (x.name.size ≤ 1000000000) := Lib.hid (by omega)
  rw [← hRV]
  clear hRV hRN hs
  cases hd : x.dir with
  | true =>
    rw [hd] at e1
    have HV5 : Hid (∀ w', VR w' (fun k => w.heap.size + 2 ≤ k) ⟨.int .i64 1, .int .u64 1, .slice none 0 0, .slice none 0 0⟩ (.mk 1 1 [] [])) := Lib.hid fun w' => VR.shut (by simp [u64ok]) (Bs.nil _ _ _) (by omega) (LR.nil _ _ _)
    go_enter Try.func108, Try.ntmps108
    have HCD : Hid (W.cell? ⟨w.heap.size, 1, none⟩ = some (.bool true)) := Lib.hid (by rw [HSE.out.e.cell]; exact e1)
    go_wp2_with fail
    rw [← hW]
    clear hW e1
    refine wp_region_held_drew (S := fun w' => Hid (SE w RV w')) (by kernel_rfl) (Lib.hid (HSE.out.after ((Below.refl _ _).drew))) (fun hHeld => ?_)
    refine wpAnyH_take (i := 0) (oi := { dst := some 6, op := Op.fieldAddr 144 (Operand.tmp 1) 0, type := 0, pos := "node.go:94", after := #[], guard := none }) (v := ?vA0) rfl (by kernel_rfl) (by kernel_rfl) (by kernel_rfl) (fun _ _ _ h => h) (Or.inl ⟨by rfl, ?hyA0⟩) hHeld ?restA0
    case hyA0 => (intro w hSw; go_simp; try with_reducible rfl)
    try simp only [Act.put, List.setIfInBounds_toArray, List.set_cons_zero, List.set_cons_succ]
    refine wpAnyH_take (i := 1) (oi := { dst := some 7, op := Op.load 9 (Operand.tmp 6), type := 9, pos := "node.go:94", after := #[{ on := 0, ground := Ground.data }], guard := none }) (v := ?vA1) rfl (by kernel_rfl) (by kernel_rfl) (by kernel_rfl) (fun _ _ _ h => h) (Or.inl ⟨by rfl, ?hyA1⟩) hHeld ?restA1
    case hyA1 => (intro w hSw; have hc := HC.out _ hSw; go_simp; try with_reducible rfl)
    try simp only [Act.put, List.setIfInBounds_toArray, List.set_cons_zero, List.set_cons_succ]
    refine wpAnyH_take (i := 4) (oi := { dst := some 10, op := Op.move (Operand.tmp 3), type := 24, pos := "node.go:94", after := #[], guard := none }) (v := ?vA4) rfl (by kernel_rfl) (by kernel_rfl) (by kernel_rfl) (fun _ _ _ h => h) (Or.inl ⟨by rfl, ?hyA4⟩) hHeld ?restA4
    case hyA4 => (intro w hSw; go_simp; try with_reducible rfl)
    try simp only [Act.put, List.setIfInBounds_toArray, List.set_cons_zero, List.set_cons_succ]
    refine wpAnyH_take (i := 6) (oi := { dst := some 12, op := Op.fieldAddr 144 (Operand.tmp 1) 2, type := 0, pos := "node.go:94", after := #[], guard := none }) (v := ?vA6) rfl (by kernel_rfl) (by kernel_rfl) (by kernel_rfl) (fun _ _ _ h => h) (Or.inl ⟨by rfl, ?hyA6⟩) hHeld ?restA6
    case hyA6 => (intro w hSw; go_simp; try with_reducible rfl)
    try simp only [Act.put, List.setIfInBounds_toArray, List.set_cons_zero, List.set_cons_succ]
    refine wpAnyH_take (i := 7) (oi := { dst := some 13, op := Op.load 107 (Operand.tmp 12), type := 107, pos := "node.go:94", after := #[{ on := 6, ground := Ground.data }], guard := none }) (v := _) rfl (by kernel_rfl) (by kernel_rfl) (by kernel_rfl) (fun _ _ _ h => h) (yields_A rfl (by rfl) rfl (by rw [HRN.out]; exact wide107) (fun w' hs => HA.out _ hs)) hHeld ?_
    try simp only [Act.put, List.setIfInBounds_toArray, List.set_cons_zero, List.set_cons_succ]
    refine wpAnyH_ready (rs := [2]) (by kernel_rfl) (by simp) ?_
    refine AllReadyH.cons (o := { dst := some 8, op := Op.convert 9 22 (Operand.tmp 7), type := 22, pos := "node.go:94", after := #[{ on := 1, ground := Ground.data }], guard := none }) rfl (fun K hK => ?_) AllReadyH.nil
    refine step_conv rfl (.tmp 7) rfl rfl ?_; intro c2 wq2 hbs2 hq2; have HBS2 := Lib.hid hbs2; have HQ2 := Lib.hid hq2; clear hbs2 hq2
    refine hK.out _ _ ((hHeld.out.after HQ2.out)) (fun hHeld => ?_)
    clear hK K
    try simp only [Act.put, List.setIfInBounds_toArray, List.set_cons_zero, List.set_cons_succ]
    refine wpAnyH_ready (rs := [3]) (by kernel_rfl) (by simp) ?_
    refine AllReadyH.cons (o := { dst := some 9, op := Op.call { callee := Callee.value (Operand.func 28), args := #[Operand.tmp 8], argTypes := #[22] }, type := 27, pos := "node.go:94", after := #[{ on := 2, ground := Ground.data }], guard := none }) rfl (fun K hK => ?_) AllReadyH.nil
    go_simp
    refine (bytesVS_any _ _ _ _ _ _ HBS2.out HN.out).mono ?_; rintro e wq3 ⟨q3, rfl, hv3, hq3⟩; have HV3 : Hid (VR wq3 (fun k => w.heap.size + 2 ≤ k) q3 _) := Lib.hid (hv3.keep (fun _ _ _ => rfl) (fun j hj _ => Nat.le_trans (SE.z (Hid.out hHeld)) hj)); have HQ3 := Lib.hid hq3; clear hv3 hq3; obtain ⟨u3, m3, -, -, P1, P2, i1, i2, i3, i4, rfl, -⟩ := HV3.out.opens; dsimp only [Quad.agg]
    refine hK.out _ _ ((hHeld.out.after HQ3.out)) (fun hHeld => ?_)
    clear hK K
    try simp only [Act.put, List.setIfInBounds_toArray, List.set_cons_zero, List.set_cons_succ]
    refine wpAnyH_ready (rs := [5]) (by kernel_rfl) (by simp) ?_
    refine AllReadyH.cons (o := { dst := some 11, op := Op.call { callee := Callee.value (Operand.func 27), args := #[Operand.tmp 10], argTypes := #[24] }, type := 27, pos := "node.go:94", after := #[{ on := 4, ground := Ground.data }, { on := 3, ground := Ground.chain }], guard := none }) rfl (fun K hK => ?_) AllReadyH.nil
    go_simp
    refine (number_any _ _).mono ?_; rintro e wq5 ⟨rfl, hq5⟩; have HQ5 := Lib.hid hq5; have HV35 := Lib.hid (HV3.out.after hq5); clear hq5
    refine hK.out _ _ ((hHeld.out.after HQ5.out)) (fun hHeld => ?_)
    clear hK K
    try simp only [Act.put, List.setIfInBounds_toArray, List.set_cons_zero, List.set_cons_succ]
    refine wpAnyH_ready (rs := [8]) (by kernel_rfl) (by simp) ?_
    refine AllReadyH.cons (o := { dst := some 14, op := Op.call { callee := Callee.value (Operand.func 103), args := #[Operand.tmp 13], argTypes := #[107] }, type := 27, pos := "node.go:94", after := #[{ on := 7, ground := Ground.data }, { on := 5, ground := Ground.chain }], guard := none }) rfl (fun K hK => ?_) AllReadyH.nil
    go_simp
    refine (HVAL.out _).mono ?_; rintro e wq8 ⟨q8, rfl, hv8, hq8⟩; have HV8 : Hid (VR wq8 (fun k => w.heap.size + 2 ≤ k) q8 _) := Lib.hid (hv8.keep (fun _ _ _ => rfl) (fun j hj _ => Nat.le_trans (SE.z (Hid.out hHeld)) hj)); have HQ8 := Lib.hid hq8; have HV38 := Lib.hid (HV35.out.after hq8); clear hv8 hq8; have HZ8 : Hid (w.heap.size + 2 ≤ wq8.heap.size) := Lib.hid (Nat.le_trans (SE.z (Hid.out hHeld)) HQ8.out.size); obtain ⟨u8, m8, -, -, P5, P6, j1, j2, j3, j4, rfl, -⟩ := HV8.out.opens; dsimp only [Quad.agg]
    refine hK.out _ _ ((hHeld.out.after HQ8.out)) (fun hHeld => ?_)
    clear hK K
    try simp only [Act.put, List.setIfInBounds_toArray, List.set_cons_zero, List.set_cons_succ]
    refine wpAnyH_ready (rs := [9]) (by kernel_rfl) (by simp) ?_
    refine AllReadyH.cons (o := { dst := some 15, op := Op.buildSlice 25 3 #[(0, Operand.tmp 9), (1, Operand.tmp 11), (2, Operand.tmp 14)], type := 25, pos := "node.go:94", after := #[{ on := 3, ground := Ground.data }, { on := 5, ground := Ground.data }, { on := 8, ground := Ground.data }], guard := none }) rfl (fun K hK => ?_) AllReadyH.nil
    go_simp
    refine hK.out _ _ ((hHeld.out.after ((Below.refl _ _).alloc (Nat.le_refl _) _))) (fun hHeld => ?_)
    clear hK K
    try simp only [Act.put, List.setIfInBounds_toArray, List.set_cons_zero, List.set_cons_succ]
    refine wpAnyH_ready (rs := [10]) (by kernel_rfl) (by simp) ?_
    refine AllReadyH.cons (o := { dst := some 16, op := Op.call { callee := Callee.value (Operand.func 29), args := #[Operand.tmp 15], argTypes := #[25] }, type := 27, pos := "node.go:94", after := #[{ on := 9, ground := Ground.data }, { on := 8, ground := Ground.chain }], guard := none }) rfl (fun K hK => ?_) AllReadyH.nil
    go_simp
    refine (manyS_any _ (fun k => w.heap.size + 2 ≤ k) _ 3 3 _ (lr_three 27 (fun k => w.heap.size + 2 ≤ k) (fun k hk => Nat.le_trans (HZ8.out) hk) HV38.out (HV5.out _) HV8.out)).mono ?_; rintro e wq10 ⟨q10, rfl, hv10, hq10⟩; have HV10 : Hid (VR wq10 (fun k => w.heap.size + 2 ≤ k) q10 _) := Lib.hid (hv10.keep (fun _ _ _ => rfl) (fun j hj _ => by have h8 := HZ8.out; rcases hj with h | h; exact h; simp at h; omega)); have HQ10 := Lib.hid hq10; clear hv10 hq10; obtain ⟨u10, m10, -, -, P7, P8, k1, k2, k3, k4, rfl, -⟩ := HV10.out.opens; dsimp only [Quad.agg]
    refine hK.out _ _ ((hHeld.out.after HQ10.out)) (fun hHeld => ?_)
    clear hK K
    try simp only [Act.put, List.setIfInBounds_toArray, List.set_cons_zero, List.set_cons_succ]
    refine wpAnyH_ready (rs := [11]) (by kernel_rfl) (by simp) ?_
    refine AllReadyH.cons (o := { dst := none, op := Op.store 27 (Operand.tmp 2) (Operand.tmp 16), type := 0, pos := "node.go:94", after := #[{ on := 10, ground := Ground.data }, { on := 10, ground := Ground.chain }, { on := 0, ground := Ground.phase }, { on := 1, ground := Ground.phase }, { on := 2, ground := Ground.phase }, { on := 3, ground := Ground.phase }, { on := 4, ground := Ground.phase }, { on := 5, ground := Ground.phase }, { on := 6, ground := Ground.phase }, { on := 7, ground := Ground.phase }, { on := 8, ground := Ground.phase }, { on := 9, ground := Ground.phase }, { on := 10, ground := Ground.phase }], guard := none }) rfl (fun K hK => ?_) AllReadyH.nil
    (obtain ⟨g1, g2, g3, g4, hg⟩ := SE.r (Hid.out hHeld); have HG := Lib.hid hg; obtain ⟨s0, s1, s2, s3, f0, f1, f2, f3, -⟩ := hg.four; go_simp)
    refine hK.out _ _ ((hHeld.out.put _ _ _ _)) (fun hHeld => ?_)
    clear hK K
    try simp only [Act.put]
    refine wpAnyH_done (by kernel_rfl) ?_ _
    go_wp2_with fail
    refine bodyPost_ret (results_cell1 rfl rfl (load27 (set4_blk HG.out _ _ _ _))) rfl ⟨⟨.int .i64 u10, .int .u64 ((m10 : Nat) : Int), .slice P7 k1 k2, .slice P8 k3 k4⟩, rfl, ?_, hHeld.out.b⟩
    have h := HV10.out.keep (S' := fun k => w.heap.size ≤ k) (fun p hp _ => set4_other _ (w.heap.size + 1) (.int .i64 u10) (.int .u64 ((m10 : Nat) : Int)) (.slice P7 k1 k2) (.slice P8 k3 k4) p (by omega)) (fun k hk _ => by omega)
    have e : entT x = .mk 3 0 [] [.mk 2 0 x.name.data.toList [], .mk 1 1 [] [], hashT x.h] := by unfold entT; rw [hd]; rfl
    rw [e]
    exact h
  | false =>
    rw [hd] at e1
    have HV5 : Hid (∀ w', VR w' (fun k => w.heap.size + 2 ≤ k) ⟨.int .i64 1, .int .u64 0, .slice none 0 0, .slice none 0 0⟩ (.mk 1 0 [] [])) := Lib.hid fun w' => VR.shut (by simp [u64ok]) (Bs.nil _ _ _) (by omega) (LR.nil _ _ _)
    go_enter Try.func108, Try.ntmps108
    have HCD : Hid (W.cell? ⟨w.heap.size, 1, none⟩ = some (.bool false)) := Lib.hid (by rw [HSE.out.e.cell]; exact e1)
    go_wp2_with fail
    rw [← hW]
    clear hW e1
    refine wp_region_held_drew (S := fun w' => Hid (SE w RV w')) (by kernel_rfl) (Lib.hid (HSE.out.after ((Below.refl _ _).drew))) (fun hHeld => ?_)
    refine wpAnyH_take (i := 0) (oi := { dst := some 6, op := Op.fieldAddr 144 (Operand.tmp 1) 0, type := 0, pos := "node.go:94", after := #[], guard := none }) (v := ?vB0) rfl (by kernel_rfl) (by kernel_rfl) (by kernel_rfl) (fun _ _ _ h => h) (Or.inl ⟨by rfl, ?hyB0⟩) hHeld ?restB0
    case hyB0 => (intro w hSw; go_simp; try with_reducible rfl)
    try simp only [Act.put, List.setIfInBounds_toArray, List.set_cons_zero, List.set_cons_succ]
    refine wpAnyH_take (i := 1) (oi := { dst := some 7, op := Op.load 9 (Operand.tmp 6), type := 9, pos := "node.go:94", after := #[{ on := 0, ground := Ground.data }], guard := none }) (v := ?vB1) rfl (by kernel_rfl) (by kernel_rfl) (by kernel_rfl) (fun _ _ _ h => h) (Or.inl ⟨by rfl, ?hyB1⟩) hHeld ?restB1
    case hyB1 => (intro w hSw; have hc := HC.out _ hSw; go_simp; try with_reducible rfl)
    try simp only [Act.put, List.setIfInBounds_toArray, List.set_cons_zero, List.set_cons_succ]
    refine wpAnyH_take (i := 4) (oi := { dst := some 10, op := Op.move (Operand.tmp 3), type := 24, pos := "node.go:94", after := #[], guard := none }) (v := ?vB4) rfl (by kernel_rfl) (by kernel_rfl) (by kernel_rfl) (fun _ _ _ h => h) (Or.inl ⟨by rfl, ?hyB4⟩) hHeld ?restB4
    case hyB4 => (intro w hSw; go_simp; try with_reducible rfl)
    try simp only [Act.put, List.setIfInBounds_toArray, List.set_cons_zero, List.set_cons_succ]
    refine wpAnyH_take (i := 6) (oi := { dst := some 12, op := Op.fieldAddr 144 (Operand.tmp 1) 2, type := 0, pos := "node.go:94", after := #[], guard := none }) (v := ?vB6) rfl (by kernel_rfl) (by kernel_rfl) (by kernel_rfl) (fun _ _ _ h => h) (Or.inl ⟨by rfl, ?hyB6⟩) hHeld ?restB6
    case hyB6 => (intro w hSw; go_simp; try with_reducible rfl)
    try simp only [Act.put, List.setIfInBounds_toArray, List.set_cons_zero, List.set_cons_succ]
    refine wpAnyH_take (i := 7) (oi := { dst := some 13, op := Op.load 107 (Operand.tmp 12), type := 107, pos := "node.go:94", after := #[{ on := 6, ground := Ground.data }], guard := none }) (v := _) rfl (by kernel_rfl) (by kernel_rfl) (by kernel_rfl) (fun _ _ _ h => h) (yields_A rfl (by rfl) rfl (by rw [HRN.out]; exact wide107) (fun w' hs => HA.out _ hs)) hHeld ?_
    try simp only [Act.put, List.setIfInBounds_toArray, List.set_cons_zero, List.set_cons_succ]
    refine wpAnyH_ready (rs := [2]) (by kernel_rfl) (by simp) ?_
    refine AllReadyH.cons (o := { dst := some 8, op := Op.convert 9 22 (Operand.tmp 7), type := 22, pos := "node.go:94", after := #[{ on := 1, ground := Ground.data }], guard := none }) rfl (fun K hK => ?_) AllReadyH.nil
    refine step_conv rfl (.tmp 7) rfl rfl ?_; intro c2 wq2 hbs2 hq2; have HBS2 := Lib.hid hbs2; have HQ2 := Lib.hid hq2; clear hbs2 hq2
    refine hK.out _ _ ((hHeld.out.after HQ2.out)) (fun hHeld => ?_)
    clear hK K
    try simp only [Act.put, List.setIfInBounds_toArray, List.set_cons_zero, List.set_cons_succ]
    refine wpAnyH_ready (rs := [3]) (by kernel_rfl) (by simp) ?_
    refine AllReadyH.cons (o := { dst := some 9, op := Op.call { callee := Callee.value (Operand.func 28), args := #[Operand.tmp 8], argTypes := #[22] }, type := 27, pos := "node.go:94", after := #[{ on := 2, ground := Ground.data }], guard := none }) rfl (fun K hK => ?_) AllReadyH.nil
    go_simp
    refine (bytesVS_any _ _ _ _ _ _ HBS2.out HN.out).mono ?_; rintro e wq3 ⟨q3, rfl, hv3, hq3⟩; have HV3 : Hid (VR wq3 (fun k => w.heap.size + 2 ≤ k) q3 _) := Lib.hid (hv3.keep (fun _ _ _ => rfl) (fun j hj _ => Nat.le_trans (SE.z (Hid.out hHeld)) hj)); have HQ3 := Lib.hid hq3; clear hv3 hq3; obtain ⟨u3, m3, -, -, P1, P2, i1, i2, i3, i4, rfl, -⟩ := HV3.out.opens; dsimp only [Quad.agg]
    refine hK.out _ _ ((hHeld.out.after HQ3.out)) (fun hHeld => ?_)
    clear hK K
    try simp only [Act.put, List.setIfInBounds_toArray, List.set_cons_zero, List.set_cons_succ]
    refine wpAnyH_ready (rs := [5]) (by kernel_rfl) (by simp) ?_
    refine AllReadyH.cons (o := { dst := some 11, op := Op.call { callee := Callee.value (Operand.func 27), args := #[Operand.tmp 10], argTypes := #[24] }, type := 27, pos := "node.go:94", after := #[{ on := 4, ground := Ground.data }, { on := 3, ground := Ground.chain }], guard := none }) rfl (fun K hK => ?_) AllReadyH.nil
    go_simp
    refine (number_any _ _).mono ?_; rintro e wq5 ⟨rfl, hq5⟩; have HQ5 := Lib.hid hq5; have HV35 := Lib.hid (HV3.out.after hq5); clear hq5
    refine hK.out _ _ ((hHeld.out.after HQ5.out)) (fun hHeld => ?_)
    clear hK K
    try simp only [Act.put, List.setIfInBounds_toArray, List.set_cons_zero, List.set_cons_succ]
    refine wpAnyH_ready (rs := [8]) (by kernel_rfl) (by simp) ?_
    refine AllReadyH.cons (o := { dst := some 14, op := Op.call { callee := Callee.value (Operand.func 103), args := #[Operand.tmp 13], argTypes := #[107] }, type := 27, pos := "node.go:94", after := #[{ on := 7, ground := Ground.data }, { on := 5, ground := Ground.chain }], guard := none }) rfl (fun K hK => ?_) AllReadyH.nil
    go_simp
    refine (HVAL.out _).mono ?_; rintro e wq8 ⟨q8, rfl, hv8, hq8⟩; have HV8 : Hid (VR wq8 (fun k => w.heap.size + 2 ≤ k) q8 _) := Lib.hid (hv8.keep (fun _ _ _ => rfl) (fun j hj _ => Nat.le_trans (SE.z (Hid.out hHeld)) hj)); have HQ8 := Lib.hid hq8; have HV38 := Lib.hid (HV35.out.after hq8); clear hv8 hq8; have HZ8 : Hid (w.heap.size + 2 ≤ wq8.heap.size) := Lib.hid (Nat.le_trans (SE.z (Hid.out hHeld)) HQ8.out.size); obtain ⟨u8, m8, -, -, P5, P6, j1, j2, j3, j4, rfl, -⟩ := HV8.out.opens; dsimp only [Quad.agg]
    refine hK.out _ _ ((hHeld.out.after HQ8.out)) (fun hHeld => ?_)
    clear hK K
    try simp only [Act.put, List.setIfInBounds_toArray, List.set_cons_zero, List.set_cons_succ]
    refine wpAnyH_ready (rs := [9]) (by kernel_rfl) (by simp) ?_
    refine AllReadyH.cons (o := { dst := some 15, op := Op.buildSlice 25 3 #[(0, Operand.tmp 9), (1, Operand.tmp 11), (2, Operand.tmp 14)], type := 25, pos := "node.go:94", after := #[{ on := 3, ground := Ground.data }, { on := 5, ground := Ground.data }, { on := 8, ground := Ground.data }], guard := none }) rfl (fun K hK => ?_) AllReadyH.nil
    go_simp
    refine hK.out _ _ ((hHeld.out.after ((Below.refl _ _).alloc (Nat.le_refl _) _))) (fun hHeld => ?_)
    clear hK K
    try simp only [Act.put, List.setIfInBounds_toArray, List.set_cons_zero, List.set_cons_succ]
    refine wpAnyH_ready (rs := [10]) (by kernel_rfl) (by simp) ?_
    refine AllReadyH.cons (o := { dst := some 16, op := Op.call { callee := Callee.value (Operand.func 29), args := #[Operand.tmp 15], argTypes := #[25] }, type := 27, pos := "node.go:94", after := #[{ on := 9, ground := Ground.data }, { on := 8, ground := Ground.chain }], guard := none }) rfl (fun K hK => ?_) AllReadyH.nil
    go_simp
    refine (manyS_any _ (fun k => w.heap.size + 2 ≤ k) _ 3 3 _ (lr_three 27 (fun k => w.heap.size + 2 ≤ k) (fun k hk => Nat.le_trans (HZ8.out) hk) HV38.out (HV5.out _) HV8.out)).mono ?_; rintro e wq10 ⟨q10, rfl, hv10, hq10⟩; have HV10 : Hid (VR wq10 (fun k => w.heap.size + 2 ≤ k) q10 _) := Lib.hid (hv10.keep (fun _ _ _ => rfl) (fun j hj _ => by have h8 := HZ8.out; rcases hj with h | h; exact h; simp at h; omega)); have HQ10 := Lib.hid hq10; clear hv10 hq10; obtain ⟨u10, m10, -, -, P7, P8, k1, k2, k3, k4, rfl, -⟩ := HV10.out.opens; dsimp only [Quad.agg]
    refine hK.out _ _ ((hHeld.out.after HQ10.out)) (fun hHeld => ?_)
    clear hK K
    try simp only [Act.put, List.setIfInBounds_toArray, List.set_cons_zero, List.set_cons_succ]
    refine wpAnyH_ready (rs := [11]) (by kernel_rfl) (by simp) ?_
    refine AllReadyH.cons (o := { dst := none, op := Op.store 27 (Operand.tmp 2) (Operand.tmp 16), type := 0, pos := "node.go:94", after := #[{ on := 10, ground := Ground.data }, { on := 10, ground := Ground.chain }, { on := 0, ground := Ground.phase }, { on := 1, ground := Ground.phase }, { on := 2, ground := Ground.phase }, { on := 3, ground := Ground.phase }, { on := 4, ground := Ground.phase }, { on := 5, ground := Ground.phase }, { on := 6, ground := Ground.phase }, { on := 7, ground := Ground.phase }, { on := 8, ground := Ground.phase }, { on := 9, ground := Ground.phase }, { on := 10, ground := Ground.phase }], guard := none }) rfl (fun K hK => ?_) AllReadyH.nil
    (obtain ⟨g1, g2, g3, g4, hg⟩ := SE.r (Hid.out hHeld); have HG := Lib.hid hg; obtain ⟨s0, s1, s2, s3, f0, f1, f2, f3, -⟩ := hg.four; go_simp)
    refine hK.out _ _ ((hHeld.out.put _ _ _ _)) (fun hHeld => ?_)
    clear hK K
    try simp only [Act.put]
    refine wpAnyH_done (by kernel_rfl) ?_ _
    go_wp2_with fail
    refine bodyPost_ret (results_cell1 rfl rfl (load27 (set4_blk HG.out _ _ _ _))) rfl ⟨⟨.int .i64 u10, .int .u64 ((m10 : Nat) : Int), .slice P7 k1 k2, .slice P8 k3 k4⟩, rfl, ?_, hHeld.out.b⟩
    have h := HV10.out.keep (S' := fun k => w.heap.size ≤ k) (fun p hp _ => set4_other _ (w.heap.size + 1) (.int .i64 u10) (.int .u64 ((m10 : Nat) : Int)) (.slice P7 k1 k2) (.slice P8 k3 k4) p (by omega)) (fun k hk _ => by omega)
    have e : entT x = .mk 3 0 [] [.mk 2 0 x.name.data.toList [], .mk 1 0 [] [], hashT x.h] := by unfold entT; rw [hd]; rfl
    rw [e]
    exact h
end Go.Proofs.Ytaebmhbggbpnoaa
