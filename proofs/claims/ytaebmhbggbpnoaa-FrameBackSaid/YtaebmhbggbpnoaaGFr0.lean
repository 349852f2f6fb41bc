/- Records of a pack in memory: loads, stores, builds and the comparison of many cells at once. Conditions: each theorem's premises. -/
import Derived.Test.YtaebmhbggbpnoaaGTlv30
import Derived.Test.YtaebmhbggbpnoaaGCrc8
import Derived.Laws.StructEq
import Derived.Laws.Rows
import Derived.Laws.Tables
import Derived.Deep.MidRow
import Derived.Deep.WholeRow
import Derived.Stop.BytesEq
import Derived.Laws.CopyOwn
namespace Go.Proofs.Ytaebmhbggbpnoaa
open Go.RowKit
/-- A name's cells. -/
def NC (nm : List UInt8) : Array Value := (u8s nm).toArray
/-- A record's cells. -/
def RC (k : Int) (nm : List UInt8) (b : Value) : Array Value := (Value.int .i64 k :: (u8s nm ++ [b])).toArray
section
variable {k : Int} {nm : List UInt8} {b : Value}
theorem RC.size (h : nm.length = 32) : (RC k nm b).size = 34 := by simp [RC, u8s, h]
theorem RC.at0 : (RC k nm b)[0]? = some (.int .i64 k) := by simp [RC]
theorem RC.at33 (h : nm.length = 32) : (RC k nm b)[33]? = some b := by
  simp only [RC, List.getElem?_toArray, List.getElem?_cons_succ]
  rw [List.getElem?_append_right (by simp [u8s, h])]
  simp [u8s, h]
theorem RC.mid {W : World} {g t : Nat} (h : Blk W g t (RC k nm b)) : W.rangeAt g 1 (u8s nm) := by
  intro j v hv
  rw [h.cell]
  have hj : j < (u8s nm).length := (List.getElem?_eq_some_iff.1 hv).1
  rw [Nat.add_comm, RC, List.getElem?_toArray, List.getElem?_cons_succ, List.getElem?_append_left hj]
  exact hv
theorem NC.size (h : nm.length = 32) : (u8s nm).length = 32 := by simp [u8s, h]
theorem RC.one (hb : b.oneCell' = true) : (RC k nm b).all (·.oneCell') = true := by
  rw [Array.all_eq_true_iff_forall_mem]
  intro v hv
  simp only [RC, List.mem_toArray, List.mem_cons, List.mem_append] at hv
  rcases hv with e | e | e | e
  · subst e; rfl
  · simp only [u8s, List.mem_map] at e
    obtain ⟨x, -, rfl⟩ := e
    rfl
  · subst e; exact hb
  · cases e
end
theorem size107 : (Try.prog.info? 107).map (·.size) = some 32 := by kernel_rfl
theorem size109 : (Try.prog.info? 109).map (·.size) = some 34 := by kernel_rfl
theorem size112 : (Try.prog.info? 112).map (·.size) = some 34 := by kernel_rfl
section
variable {ops : Array Oper} {rest : List Oper} {o : Oper} {a : Act} {Q : Exit → Act → World → Prop} {w : World}
/-- A record's name is loaded. -/
theorem wl_name (hw : Region.wanted o (yielded ops a.tmps) = true) (x : Operand) (ho : o.op = .load 107 x) {g t : Nat} (hx : a.eval x = .pointer (some ⟨g, 1, none⟩)) {k : Int} {nm : List UInt8} {b : Value} (h : Blk w g t (RC k nm b)) (hn : nm.length = 32)
    (hk : wpList Try.prog ops Q rest (a.put o.dst (.agg (NC nm))) w) : wpList Try.prog ops Q (o :: rest) a w :=
  BigFrame.wpList_want hw fun _ hK => wp_load_mid 107 x ho g 1 hx (u8s nm) _ (RC.mid h) Try.underlying107 rfl (by rw [size107, NC.size hn]) (hK _ _ hk)
/-- A whole record is loaded. -/
theorem wl_rec (hw : Region.wanted o (yielded ops a.tmps) = true) (x : Operand) (ty : TypeId) (ho : o.op = .load ty x) (hty : ty = 109 ∨ ty = 112) {g t : Nat} (hx : a.eval x = .pointer (some ⟨g, 0, none⟩)) {k : Int} {nm : List UInt8} {b : Value} (h : Blk w g t (RC k nm b)) (hn : nm.length = 32)
    (hk : wpList Try.prog ops Q rest (a.put o.dst (.agg (RC k nm b))) w) : wpList Try.prog ops Q (o :: rest) a w := by
  rcases hty with e | e
  · subst e
    exact BigFrame.wpList_want hw fun _ hK => wp_load_row 109 x ho g hx t _ (0, 0) _ h Try.underlying109 rfl (by rw [size109, RC.size hn]) (hK _ _ hk)
  · subst e
    exact BigFrame.wpList_want hw fun _ hK => wp_load_row 112 x ho g hx t _ (0, 0) _ h Try.underlying112 rfl (by rw [size112, RC.size hn]) (hK _ _ hk)
/-- A whole record is stored. -/
theorem wl_store (hw : Region.wanted o (yielded ops a.tmps) = true) (x y : Operand) (ty : TypeId) (ho : o.op = .store ty x y) (hty : ty = 109 ∨ ty = 112) {g t : Nat} (hx : a.eval x = .pointer (some ⟨g, 0, none⟩)) {k : Int} {nm : List UInt8} {b : Value} (hy : a.eval y = .agg (RC k nm b)) {old : Array Value} (h : Blk w g t old) (hold : old.size = 34) (hn : nm.length = 32) (hb : b.oneCell' = true)
    (hk : ∀ w', Blk w' g t (RC k nm b) → (∀ B, B ≤ g → Below B w w') → wpList Try.prog ops Q rest (a.put o.dst undef) w') : wpList Try.prog ops Q (o :: rest) a w := by
  have hi : (Try.prog.info? ty).map (·.size) = some (RC k nm b).size := by
    rw [RC.size hn]
    rcases hty with e | e
    · subst e; exact size109
    · subst e; exact size112
  exact BigFrame.wpList_want hw fun _ hK => wp_store_row ty x y ho g _ hx hy t old h hi (by rw [hold, RC.size hn]) (RC.one hb) (hK _ _ (hk _ (setRow_heap w g old _ t (0, 0) h) (fun B hB => below_setRow (Below.refl _ _) hB _)))
/-- Two names are compared. -/
theorem wl_eq (hw : Region.wanted o (yielded ops a.tmps) = true) (x y : Operand) (t2 : TypeId) (ho : o.op = .binOp .eql 107 x y t2) {nm nm' : List UInt8} (hx : a.eval x = .agg (NC nm)) (hy : a.eval y = .agg (NC nm')) (hn : nm.length = 32) (hn' : nm'.length = 32)
    (hk : wpList Try.prog ops Q rest (a.put o.dst (.bool (decide (nm = nm')))) w) : wpList Try.prog ops Q (o :: rest) a w := by
  have h1 : (eqGuard .eql 107 x y (.agg (NC nm)) (.agg (NC nm'))).run Try.prog w = .ok () w := run_eqGuard_agg w .eql 107 x y _ _ (by kernel_rfl)
  have h2 : (binOp .eql 107 (.agg (NC nm)) (.agg (NC nm'))).run Try.prog w = .ok (.bool (decide (nm = nm'))) w := by
    obtain ⟨i0, hi0, hz0, hz1, hz2⟩ := info_parts Try.info5
    have h := run_eql_bytes (P := Try.prog) w 107 5 32 Try.underlying107 Try.underlying5 (fun w => by simp [sizeOf, typeInfo, hi0, hz1]) nm nm' hn hn'
    rw [show (nm == nm') = decide (nm = nm') by rw [Bool.eq_iff_iff]; simp] at h
    exact h
  refine BigFrame.wpList_want hw fun _ hK => ?_
  unfold Oper.wp execOp
  simp only [ho, hx, hy, Sem.run_bind, h1, h2, Result.andThen_ok, Sem.run_pure]
  exact hK _ _ hk
/-- A record is built. -/
theorem wl_build (hg : o.guard = none) (ty : TypeId) (parts : Array (Nat × Operand)) (ho : o.op = .build ty parts) {cs : Array Value} (hb : Try.prog.built ty (parts.map fun (i, x) => (i, a.eval x)).toList = some cs)
    (hk : wpList Try.prog ops Q rest (a.put o.dst (.agg cs)) w) : wpList Try.prog ops Q (o :: rest) a w :=
  wpList_build hg ty parts ho (by rw [hb]; rfl) (by rw [hb]; exact hk)
end
theorem list32 : ∀ (nm : List UInt8), nm.length = 32 → ∃ a0 a1 a2 a3 a4 a5 a6 a7 a8 a9 a10 a11 a12 a13 a14 a15 a16 a17 a18 a19 a20 a21 a22 a23 a24 a25 a26 a27 a28 a29 a30 a31, nm = [a0, a1, a2, a3, a4, a5, a6, a7, a8, a9, a10, a11, a12, a13, a14, a15, a16, a17, a18, a19, a20, a21, a22, a23, a24, a25, a26, a27, a28, a29, a30, a31]
  | [a0, a1, a2, a3, a4, a5, a6, a7, a8, a9, a10, a11, a12, a13, a14, a15, a16, a17, a18, a19, a20, a21, a22, a23, a24, a25, a26, a27, a28, a29, a30, a31], _ => ⟨a0, a1, a2, a3, a4, a5, a6, a7, a8, a9, a10, a11, a12, a13, a14, a15, a16, a17, a18, a19, a20, a21, a22, a23, a24, a25, a26, a27, a28, a29, a30, a31, rfl⟩
/-- 32 noughts. -/
def noName : List UInt8 := List.replicate 32 0
theorem noName_len : noName.length = 32 := by simp [noName]
theorem built109 (k : Int) (nm : List UInt8) (A : Option Addr) (n c : Nat) (hn : nm.length = 32) : Try.prog.built 109 [(0, .int .i64 k), (1, .agg (NC nm)), (2, .slice A n c)] = some (RC k nm (.slice A n c)) := by
  obtain ⟨a0, a1, a2, a3, a4, a5, a6, a7, a8, a9, a10, a11, a12, a13, a14, a15, a16, a17, a18, a19, a20, a21, a22, a23, a24, a25, a26, a27, a28, a29, a30, a31, rfl⟩ := list32 nm hn
  kernel_rfl
theorem built112 (k : Int) (nm : List UInt8) (A : Option Addr) (n c : Nat) (hn : nm.length = 32) : Try.prog.built 112 [(0, .int .i64 k), (1, .agg (NC nm)), (2, .slice A n c)] = some (RC k nm (.slice A n c)) := by
  obtain ⟨a0, a1, a2, a3, a4, a5, a6, a7, a8, a9, a10, a11, a12, a13, a14, a15, a16, a17, a18, a19, a20, a21, a22, a23, a24, a25, a26, a27, a28, a29, a30, a31, rfl⟩ := list32 nm hn
  kernel_rfl
theorem built109s (k : Int) (A : Option Addr) (n c : Nat) : Try.prog.built 109 [(0, .int .i64 k), (2, .slice A n c)] = some (RC k noName (.slice A n c)) := by kernel_rfl
theorem built112s (k : Int) (A : Option Addr) (n c : Nat) : Try.prog.built 112 [(0, .int .i64 k), (2, .slice A n c)] = some (RC k noName (.slice A n c)) := by kernel_rfl
theorem built109n : Try.prog.built 109 [] = some (RC 0 noName (.slice none 0 0)) := by kernel_rfl
theorem built112n : Try.prog.built 112 [] = some (RC 0 noName (.slice none 0 0)) := by kernel_rfl
/-- A block that was just made, under the number that it has. -/
theorem blk_new {W : World} {g t : Nat} {cs : Array Value} (h : g = W.heap.size) : Blk (W.alloc (.cells cs t)) g t cs := by
  subst h
  exact Blk.new W t cs
end Go.Proofs.Ytaebmhbggbpnoaa
namespace Go.Proofs.Ytaebmhbggbpnoaa
open Go.RowKit
def rcRight (k : Int) (n : Nat) : Bool := decide (0 < k ∧ k ≤ 9 ∧ n ≤ 5000)
/-- A record that a call was handed, in its box. -/
theorem rc_box (w : World) (t : Nat) (k : Int) (nm : List UInt8) (b : Value) : ∃ RV, RV = RC k nm b ∧ Hid (∀ w', Below (w.heap.size + 1) (w.alloc (.cells RV t)) w' → Blk w' w.heap.size t (RC k nm b) ∧ Below w.heap.size w w') :=
  ⟨_, rfl, Lib.hid fun _ hb => ⟨(Blk.new w t _).below hb (Nat.lt_succ_self _), ((Below.refl _ w).alloc (Nat.le_refl _) _).trans (hb.mono (Nat.le_succ _))⟩⟩
set_option maxRecDepth 100000 in
theorem fown_any (w : World) (k : Int) (nm : List UInt8) (A : Option Addr) (n c : Nat) (h : nm.length = 32) :
    Calls Try.prog 77 #[.agg (RC k nm (.slice A n c))] w fun e w' => e = .returned (.agg (RC k nm (.slice A n c))) ∧ Below w.heap.size w w' := by
  have e0 := @RC.at0 k nm (.slice A n c)
  have e33 := @RC.at33 k nm (.slice A n c) h
  obtain ⟨RV, hRV, HB⟩ := rc_box w 112 k nm (.slice A n c)
  have HR := Lib.hid hRV
  rw [← hRV] at e0 e33 ⊢
  clear hRV
  go_enter Try.func77, Try.ntmps77
  go_wp2_with (first | (refine wl_name rfl (.tmp 5) rfl rfl (HB.out _ ((Below.refl _ _).alloc (by simp) _)).1 h ?_) | (refine wl_build rfl 109 _ rfl (cs := RC k nm (.slice A n c)) (by simp only [List.map_toArray, List.map_cons, List.map_nil]; exact built109 k nm A n c h) ?_) | (refine wl_store rfl (.tmp 2) (.tmp 9) 109 rfl (.inl rfl) rfl rfl (blk_new (by simp)) rfl h rfl ?_; intro w2 hb2 hf2))
  refine bodyPost_ret (results_cell_row rfl _ _ (w.heap.size + 1) 109 (RC k nm (.slice A n c)) (0, 0) _ rfl hb2 Try.underlying109 rfl (by rw [size109, RC.size h])) rfl ⟨by rw [HR.out], (HB.out _ (((Below.refl _ _).alloc (by simp) _).trans (hf2 _ (Nat.le_refl _)))).2⟩
set_option maxRecDepth 100000 in
theorem fback_any (w : World) (k : Int) (nm : List UInt8) (A : Option Addr) (n c : Nat) (h : nm.length = 32) :
    Calls Try.prog 71 #[.agg (RC k nm (.slice A n c))] w fun e w' => e = .returned (.agg (RC k nm (.slice A n c))) ∧ Below w.heap.size w w' := by
  have e0 := @RC.at0 k nm (.slice A n c)
  have e33 := @RC.at33 k nm (.slice A n c) h
  obtain ⟨RV, hRV, HB⟩ := rc_box w 109 k nm (.slice A n c)
  have HR := Lib.hid hRV
  rw [← hRV] at e0 e33 ⊢
  clear hRV
  go_enter Try.func71, Try.ntmps71
  go_wp2_with (first | (refine wl_name rfl (.tmp 5) rfl rfl (HB.out _ ((Below.refl _ _).alloc (by simp) _)).1 h ?_) | (refine wl_build rfl 112 _ rfl (cs := RC k nm (.slice A n c)) (by simp only [List.map_toArray, List.map_cons, List.map_nil]; exact built112 k nm A n c h) ?_) | (refine wl_store rfl (.tmp 2) (.tmp 9) 112 rfl (.inr rfl) rfl rfl (blk_new (by simp)) rfl h rfl ?_; intro w2 hb2 hf2))
  refine bodyPost_ret (results_cell_row rfl _ _ (w.heap.size + 1) 112 (RC k nm (.slice A n c)) (0, 0) _ rfl hb2 Try.underlying112 rfl (by rw [size112, RC.size h])) rfl ⟨by rw [HR.out], (HB.out _ (((Below.refl _ _).alloc (by simp) _).trans (hf2 _ (Nat.le_refl _)))).2⟩
set_option maxRecDepth 100000 in
theorem fright_any (w : World) (k : Int) (nm : List UInt8) (A : Option Addr) (n c : Nat) (h : nm.length = 32) :
    Calls Try.prog 80 #[.agg (RC k nm (.slice A n c))] w fun e w' => e = .returned (.bool (rcRight k n)) ∧ Below w.heap.size w w' := by
  have e0 := @RC.at0 k nm (.slice A n c)
  have e33 := @RC.at33 k nm (.slice A n c) h
  obtain ⟨RV, hRV, HB⟩ := rc_box w 109 k nm (.slice A n c)
  rw [← hRV] at e0 e33 ⊢
  clear hRV
  have hB := (HB.out _ (Below.refl _ _)).2
  have HBB := Lib.hid hB
  clear hB HB
  rcases (show k < 1 ∨ (1 ≤ k ∧ 9 < k) ∨ (1 ≤ k ∧ k ≤ 9 ∧ 5000 < n) ∨ (1 ≤ k ∧ k ≤ 9 ∧ n ≤ 5000) by omega) with h1 | ⟨h1, h2⟩ | ⟨h1, h2, h3⟩ | ⟨h1, h2, h3⟩
  · have hr : rcRight k n = false := by unfold rcRight; simp; omega
    rw [hr]
    have d1 : decide (0 < k) = false := by simp; omega
    clear hr
    go_enter Try.func80, Try.ntmps80
    go_wp2_with fail
    go_ret
    exact ⟨rfl, HBB.out⟩
  · have hr : rcRight k n = false := by unfold rcRight; simp; omega
    rw [hr]
    have d1 : decide (0 < k) = true := by simp; omega
    have d2 : decide (k ≤ 9) = false := by simp; omega
    clear hr
    go_enter Try.func80, Try.ntmps80
    go_wp2_with fail
    go_ret
    exact ⟨rfl, HBB.out⟩
  · have hr : rcRight k n = false := by unfold rcRight; simp; omega
    rw [hr]
    have d1 : decide (0 < k) = true := by simp; omega
    have d2 : decide (k ≤ 9) = true := by simp; omega
    have d3 : decide ((n : Int) ≤ 5000) = false := by simp; omega
    clear hr
    go_enter Try.func80, Try.ntmps80
    go_wp2_with fail
    go_ret
    exact ⟨rfl, HBB.out⟩
  · have hr : rcRight k n = true := by unfold rcRight; simp; omega
    rw [hr]
    have d1 : decide (0 < k) = true := by simp; omega
    have d2 : decide (k ≤ 9) = true := by simp; omega
    have d3 : decide ((n : Int) ≤ 5000) = true := by simp; omega
    clear hr
    go_enter Try.func80, Try.ntmps80
    go_wp2_with fail
    go_ret
    exact ⟨rfl, HBB.out⟩
set_option maxRecDepth 100000 in
theorem frright_any (w : World) (k : Int) (nm : List UInt8) (A : Option Addr) (n c : Nat) (h : nm.length = 32) :
    Calls Try.prog 81 #[.agg (RC k nm (.slice A n c))] w fun e w' => e = .returned (.bool (rcRight k n)) ∧ Below w.heap.size w w' := by
  have e0 := @RC.at0 k nm (.slice A n c)
  have e33 := @RC.at33 k nm (.slice A n c) h
  obtain ⟨RV, hRV, HB⟩ := rc_box w 112 k nm (.slice A n c)
  rw [← hRV] at e0 e33 ⊢
  clear hRV
  have hB := (HB.out _ (Below.refl _ _)).2
  have HBB := Lib.hid hB
  clear hB HB
  rcases (show k < 1 ∨ (1 ≤ k ∧ 9 < k) ∨ (1 ≤ k ∧ k ≤ 9 ∧ 5000 < n) ∨ (1 ≤ k ∧ k ≤ 9 ∧ n ≤ 5000) by omega) with h1 | ⟨h1, h2⟩ | ⟨h1, h2, h3⟩ | ⟨h1, h2, h3⟩
  · have hr : rcRight k n = false := by unfold rcRight; simp; omega
    rw [hr]
    have d1 : decide (1 ≤ k) = false := by simp; omega
    clear hr
    go_enter Try.func81, Try.ntmps81
    go_wp2_with fail
    go_ret
    exact ⟨rfl, HBB.out⟩
  · have hr : rcRight k n = false := by unfold rcRight; simp; omega
    rw [hr]
    have d1 : decide (1 ≤ k) = true := by simp; omega
    have d2 : decide (k ≤ 9) = false := by simp; omega
    clear hr
    go_enter Try.func81, Try.ntmps81
    go_wp2_with fail
    go_ret
    exact ⟨rfl, HBB.out⟩
  · have hr : rcRight k n = false := by unfold rcRight; simp; omega
    rw [hr]
    have d1 : decide (1 ≤ k) = true := by simp; omega
    have d2 : decide (k ≤ 9) = true := by simp; omega
    have d3 : decide ((n : Int) ≤ 5000) = false := by simp; omega
    clear hr
    go_enter Try.func81, Try.ntmps81
    go_wp2_with fail
    go_ret
    exact ⟨rfl, HBB.out⟩
  · have hr : rcRight k n = true := by unfold rcRight; simp; omega
    rw [hr]
    have d1 : decide (1 ≤ k) = true := by simp; omega
    have d2 : decide (k ≤ 9) = true := by simp; omega
    have d3 : decide ((n : Int) ≤ 5000) = true := by simp; omega
    clear hr
    go_enter Try.func81, Try.ntmps81
    go_wp2_with fail
    go_ret
    exact ⟨rfl, HBB.out⟩
end Go.Proofs.Ytaebmhbggbpnoaa
namespace Go.Proofs.Ytaebmhbggbpnoaa
open Go.RowKit
theorem rc_boxes (w : World) (t : Nat) (k k' : Int) (nm nm' : List UInt8) (b b' : Value) : ∃ RV RV', RV = RC k nm b ∧ RV' = RC k' nm' b' ∧ Hid (Blk ((w.alloc (.cells RV t)).alloc (.cells RV' t)) w.heap.size t (RC k nm b)) ∧ Hid (Blk ((w.alloc (.cells RV t)).alloc (.cells RV' t)) (w.heap.size + 1) t (RC k' nm' b')) ∧ Hid (Below w.heap.size w ((w.alloc (.cells RV t)).alloc (.cells RV' t))) :=
  ⟨_, _, rfl, rfl, Lib.hid ((Blk.new w t _).alloc _), Lib.hid (blk_new (by simp)), Lib.hid (((Below.refl _ w).alloc (Nat.le_refl _) _).alloc (by simp) _)⟩
set_option maxRecDepth 100000 in
theorem fsame_any (w : World) (S S' : Nat → Prop) (k k' : Int) (nm nm' : List UInt8) (A A' : Option Addr) (n c n' c' : Nat) (xs ys : List UInt8) (h : nm.length = 32) (h' : nm'.length = 32) (hx : Bs w S A n c xs) (hy : Bs w S' A' n' c' ys) :
    Calls Try.prog 78 #[.agg (RC k nm (.slice A n c)), .agg (RC k' nm' (.slice A' n' c'))] w fun e w' => e = .returned (.bool (decide (k = k' ∧ nm = nm' ∧ xs = ys))) ∧ Below w.heap.size w w' := by
  have e0 := @RC.at0 k nm (.slice A n c)
  have e33 := @RC.at33 k nm (.slice A n c) h
  have e0' := @RC.at0 k' nm' (.slice A' n' c')
  have e33' := @RC.at33 k' nm' (.slice A' n' c') h'
  obtain ⟨RV, RV', hRV, hRV', HB1, HB2, HBB⟩ := rc_boxes w 109 k k' nm nm' (.slice A n c) (.slice A' n' c')
  rw [← hRV] at e0 e33 ⊢
  rw [← hRV'] at e0' e33' ⊢
  clear hRV hRV'
  have HX := Lib.hid (hx.after HBB.out)
  have HY := Lib.hid (hy.after HBB.out)
  clear hx hy
  by_cases hk : k = k'
  · subst hk
    by_cases hnm : nm = nm'
    · subst hnm
      have hr : decide (k = k ∧ nm = nm ∧ xs = ys) = decide (xs = ys) := by simp
      rw [hr]
      obtain ⟨d, hd⟩ : ∃ d, d = decide (xs = ys) := ⟨_, rfl⟩
      rw [← hd]
      have HD := Lib.hid hd
      clear hr hd
      go_enter Try.func78, Try.ntmps78
      go_wp2_with (first | (refine wl_name rfl (.tmp 11) rfl rfl HB1.out h ?_) | (refine wl_name rfl (.tmp 13) rfl rfl HB2.out h ?_) | (refine wl_eq rfl (.tmp 12) (.tmp 14) 107 rfl rfl rfl h h ?_; rw [show decide (nm = nm) = true from decide_eq_true rfl]))
      refine (bytesEq_any _ _ _ _ _ _ _ _ _ _ _ HX.out HY.out).mono ?_
      rintro e w' ⟨rfl, rfl⟩
      rw [← HD.out]
      go_wp2_with fail
      go_ret
      exact ⟨rfl, HBB.out⟩
    · have hr : decide (k = k ∧ nm = nm' ∧ xs = ys) = false := by simp [hnm]
      rw [hr]
      have HN : Hid (decide (nm = nm') = false) := Lib.hid (decide_eq_false hnm)
      clear hr hnm
      go_enter Try.func78, Try.ntmps78
      go_wp2_with (first | (refine wl_name rfl (.tmp 11) rfl rfl HB1.out h ?_) | (refine wl_name rfl (.tmp 13) rfl rfl HB2.out h' ?_) | (refine wl_eq rfl (.tmp 12) (.tmp 14) 107 rfl rfl rfl h h' ?_; rw [HN.out]))
      go_ret
      exact ⟨rfl, HBB.out⟩
  · have hr : decide (k = k' ∧ nm = nm' ∧ xs = ys) = false := by simp [hk]
    rw [hr]
    have hkb : (k == k') = false := by simpa using hk
    clear hr hk
    go_enter Try.func78, Try.ntmps78
    go_wp2_with fail
    go_ret
    exact ⟨rfl, HBB.out⟩
set_option maxRecDepth 100000 in
theorem frsame_any (w : World) (S S' : Nat → Prop) (k k' : Int) (nm nm' : List UInt8) (A A' : Option Addr) (n c n' c' : Nat) (xs ys : List UInt8) (h : nm.length = 32) (h' : nm'.length = 32) (hx : Bs w S A n c xs) (hy : Bs w S' A' n' c' ys) (hn : n ≤ 1000000000) (hn' : n' ≤ 1000000000) :
    Calls Try.prog 70 #[.agg (RC k nm (.slice A n c)), .agg (RC k' nm' (.slice A' n' c'))] w fun e w' => e = .returned (.bool (decide (k = k' ∧ nm = nm' ∧ xs = ys))) ∧ Below w.heap.size w w' := by
  have e0 := @RC.at0 k nm (.slice A n c)
  have e33 := @RC.at33 k nm (.slice A n c) h
  have e0' := @RC.at0 k' nm' (.slice A' n' c')
  have e33' := @RC.at33 k' nm' (.slice A' n' c') h'
  obtain ⟨RV, RV', hRV, hRV', HB1, HB2, HBB⟩ := rc_boxes w 112 k k' nm nm' (.slice A n c) (.slice A' n' c')
  rw [← hRV] at e0 e33 ⊢
  rw [← hRV'] at e0' e33' ⊢
  clear hRV hRV'
  have HX := Lib.hid (hx.after HBB.out)
  have HY := Lib.hid (hy.after HBB.out)
  clear hx hy
  by_cases hk : k = k'
  · subst hk
    by_cases hnm : nm = nm'
    · subst hnm
      have hr : decide (k = k ∧ nm = nm ∧ xs = ys) = decide (xs = ys) := by simp
      rw [hr]
      obtain ⟨d, hd⟩ : ∃ d, d = decide (xs = ys) := ⟨_, rfl⟩
      rw [← hd]
      have HD := Lib.hid hd
      clear hr hd
      go_enter Try.func70, Try.ntmps70
      go_wp2_with (first | (refine wl_name rfl (.tmp 11) rfl rfl HB1.out h ?_) | (refine wl_name rfl (.tmp 13) rfl rfl HB2.out h ?_) | (refine wl_eq rfl (.tmp 12) (.tmp 14) 107 rfl rfl rfl h h ?_; rw [show decide (nm = nm) = true from decide_eq_true rfl]))
      refine (bytes_any _ _ _ _ _ _ _ _ _ _ _ HX.out HY.out hn hn').mono ?_
      rintro e w' ⟨rfl, j, rfl⟩
      rw [← HD.out]
      go_wp2_with fail
      go_ret
      exact ⟨rfl, below_drewN HBB.out j⟩
    · have hr : decide (k = k ∧ nm = nm' ∧ xs = ys) = false := by simp [hnm]
      rw [hr]
      have HN : Hid (decide (nm = nm') = false) := Lib.hid (decide_eq_false hnm)
      clear hr hnm
      go_enter Try.func70, Try.ntmps70
      go_wp2_with (first | (refine wl_name rfl (.tmp 11) rfl rfl HB1.out h ?_) | (refine wl_name rfl (.tmp 13) rfl rfl HB2.out h' ?_) | (refine wl_eq rfl (.tmp 12) (.tmp 14) 107 rfl rfl rfl h h' ?_; rw [HN.out]))
      go_ret
      exact ⟨rfl, HBB.out⟩
  · have hr : decide (k = k' ∧ nm = nm' ∧ xs = ys) = false := by simp [hk]
    rw [hr]
    have hkb : (k == k') = false := by simpa using hk
    clear hr hk
    go_enter Try.func70, Try.ntmps70
    go_wp2_with fail
    go_ret
    exact ⟨rfl, HBB.out⟩
end Go.Proofs.Ytaebmhbggbpnoaa
