/- The walks of Do, begin, New, Blocks (sha). Conditions: each theorem's premises. -/
import Derived.Test.YtepcbnkhfiphdaaSha3
import Derived.Laws.Rows
import Derived.Laws.Tables
import Derived.Deep.MidRow
import Derived.Deep.WholeRow
namespace Go.Proofs.Ytepcbnkhfiphdaa
open Go.RowKit
theorem load_any (w : World) (a : Addr) (x : Int) (hc : w.cell? a = some (.int .u32 x)) :
    Calls Try.prog 53 #[.pointer (some a)] w fun e w' => e = .returned (.bool (x != 0)) ∧ w = w' := by
  have hl := run_call_load (P := Try.prog) Try.func59 (by kernel_rfl) (by kernel_rfl) (by kernel_rfl) .u32 (by kernel_rfl) hc
  go_enter Try.func53, Try.ntmps53
  go_wp2
  go_ret
  exact ⟨rfl, rfl⟩
set_option maxRecDepth 100000 in
theorem slow_any (w : World) (g : Nat) (f : Nat → Nat) (nb : Int) (h : En w g 0 0 f nb) :
    Calls Try.prog 54 #[.pointer (some ⟨g, 0, none⟩), .func (.func 38) #[.pointer (some ⟨g, 0, none⟩)] #[]] w fun e w' => e = .returned (.tuple #[]) ∧ En w' g 1 0 fillF nb ∧ w.grownBy w' (some g) := by
  have H := Lib.hid h
  have c1 := h.c1
  have f1 := h.free 1
  have hnot : ∀ (x : Bool) (w : World), (Op.unary .not (.bool x)).run Try.prog w = .ok (.bool (!x)) w := fun _ _ => rfl
  have hT1 := h.setLock 1
  have HT1 := Lib.hid hT1
  have q0 := hT1.c0
  clear h hT1
  go_enter_defers Try.func54, Try.ntmps54
  go_wp2_with fail
  refine (Once.lock_free ⟨g, 1, none⟩ _ c1 f1).mono ?_
  rintro e w' ⟨rfl, rfl⟩
  go_wp2_with fail
  refine (load_any _ _ _ q0).mono ?_
  rintro e w' ⟨rfl, rfl⟩
  go_wp2_with fail
  refine (fill_any _ g 0 1 nb f HT1.out).mono ?_
  rintro e w2 ⟨rfl, hT2, hg2⟩
  have HT2 := Lib.hid hT2
  have HG2 := Lib.hid hg2
  clear hT2 hg2 q0 c1 f1
  go_wp2
  refine leaves_cons (f := 62) (args := #[.pointer (some ⟨g, 0, none⟩), .bool true]) (by simp) (by simp [go_sem]) ?_
  refine (Once.store_deferred ⟨g, 0, none⟩ _ .returning _ HT2.out.c0 (HT2.out.free 0)).mono ?_
  rintro e u' w3 ⟨rfl, rfl, rfl⟩
  have HT3 := Lib.hid (HT2.out.drew.setDone 1)
  refine leaves_cons (f := 61) (args := #[.pointer (some ⟨g, 1, none⟩)]) (by simp [settle]) (by simp [go_sem]) ?_
  refine (Once.unlock_deferred ⟨g, 1, none⟩ _ _ HT3.out.c1 (HT3.out.free 1)).mono ?_
  rintro e u' w4 ⟨rfl, rfl, rfl⟩
  have hfin : En ((w2.drew.setCell ⟨g, 0, none⟩ (.int .u32 1)).setCell ⟨g, 1, none⟩ (.int .i32 0)) g 1 0 fillF nb := HT3.out.setLock 0
  have hG : w.grownBy ((w2.drew.setCell ⟨g, 0, none⟩ (.int .u32 1)).setCell ⟨g, 1, none⟩ (.int .i32 0)) (some g) :=
    only_setCell (p := ⟨g, 1, none⟩) (only_setCell (p := ⟨g, 0, none⟩) (only_drew (only_trans (only_setCell (World.grownBy.refl _ _) (p := ⟨g, 1, none⟩) (.inl rfl) _) HG2.out)) (.inl rfl) _) (.inl rfl) _
  have HF := Lib.hid (And.intro hfin hG)
  clear hfin hG
  simp only [Leaves, settle, results, Try.results54]
  exact ⟨.tuple #[], by simp, rfl, HF.out⟩
theorem do_first (w : World) (g : Nat) (f : Nat → Nat) (nb : Int) (h : En w g 0 0 f nb) :
    Calls Try.prog 39 #[.pointer (some ⟨g, 0, none⟩), .func (.func 38) #[.pointer (some ⟨g, 0, none⟩)] #[]] w fun e w' => e = .returned (.tuple #[]) ∧ En w' g 1 0 fillF nb ∧ w.grownBy w' (some g) := by
  have H := Lib.hid h
  clear h
  have hnot : ∀ (x : Bool) (w : World), (Op.unary .not (.bool x)).run Try.prog w = .ok (.bool (!x)) w := fun _ _ => rfl
  go_enter Try.func39, Try.ntmps39
  go_wp2_with fail
  refine (load_any _ _ _ H.out.c0).mono ?_
  rintro e w' ⟨rfl, rfl⟩
  go_wp2_with fail
  refine (slow_any _ g f nb H.out).mono ?_
  rintro e w2 ⟨rfl, hT2, hg2⟩
  have HF := Lib.hid (And.intro hT2 hg2)
  clear hT2 hg2
  go_wp2_with fail
  go_end0
  exact ⟨rfl, HF.out⟩
theorem do_done (w : World) (g : Nat) (f : Nat → Nat) (nb : Int) (fv : Value) (h : En w g 1 0 f nb) :
    Calls Try.prog 39 #[.pointer (some ⟨g, 0, none⟩), fv] w fun e w' => e = .returned (.tuple #[]) ∧ w = w' := by
  have H := Lib.hid h
  clear h
  have hnot : ∀ (x : Bool) (w : World), (Op.unary .not (.bool x)).run Try.prog w = .ok (.bool (!x)) w := fun _ _ => rfl
  go_enter Try.func39, Try.ntmps39
  go_wp2_with fail
  refine (load_any _ _ _ H.out.c0).mono ?_
  rintro e w' ⟨rfl, rfl⟩
  go_wp2_with fail
  go_end0
  exact ⟨rfl, rfl⟩
/-- An engine as a law meets it: filled or not. -/
def Eng (w : World) (g : Nat) (nb : Int) : Prop := En w g 1 0 fillF nb ∨ ∃ f, En w g 0 0 f nb
section
variable {w w' : World} {g B : Nat} {nb : Int}
theorem Eng.lt (h : Eng w g nb) : g < w.heap.size := by rcases h with h | ⟨f, h⟩ <;> exact h.lt
theorem Eng.below (h : Eng w g nb) (hb : Below B w w') (hg : g < B) : Eng w' g nb := by
  rcases h with h | ⟨f, h⟩
  · exact .inl (h.below hb hg)
  · exact .inr ⟨f, h.below hb hg⟩
theorem Eng.after (h : Eng w g nb) (hb : Below w.heap.size w w') : Eng w' g nb := h.below hb h.lt
theorem Eng.drewN (h : Eng w g nb) (m : Nat) : Eng (w.drewN m) g nb := by
  rcases h with h | ⟨f, h⟩
  · exact .inl (h.keep (fun _ => rfl) (fun _ => rfl))
  · exact .inr ⟨f, h.keep (fun _ => rfl) (fun _ => rfl)⟩
theorem Eng.far (h : Eng w g nb) {p : Addr} (hp : p.block ≠ g) (u : Value) : Eng (w.setCell p u) g nb := by
  rcases h with h | ⟨f, h⟩
  · exact .inl (h.far hp u)
  · exact .inr ⟨f, h.far hp u⟩
theorem Eng.cb (h : Eng w g nb) : w.cell? ⟨g, 75, none⟩ = some (.int .i64 nb) := by
  rcases h with h | ⟨f, h⟩ <;> exact h.cb
theorem Eng.c0 (h : Eng w g nb) : ∃ x : Nat, w.cell? ⟨g, 0, none⟩ = some (.int .u32 (x : Int)) := by
  rcases h with h | ⟨f, h⟩
  · exact ⟨_, h.c0⟩
  · exact ⟨_, h.c0⟩
end
theorem do_any (w : World) (g : Nat) (nb : Int) (h : Eng w g nb) :
    Calls Try.prog 39 #[.pointer (some ⟨g, 0, none⟩), .func (.func 38) #[.pointer (some ⟨g, 0, none⟩)] #[]] w fun e w' => e = .returned (.tuple #[]) ∧ En w' g 1 0 fillF nb ∧ w.grownBy w' (some g) := by
  rcases h with h | ⟨f, h⟩
  · refine (do_done w g _ nb _ h).mono ?_
    rintro e w' ⟨rfl, rfl⟩
    exact ⟨rfl, h, World.grownBy.refl _ _⟩
  · exact do_first w g f nb h
/-- A list of words as cells. -/
def U32 (l : List Nat) : List Value := l.map fun (x : Nat) => .int .u32 (x : Int)
theorem U32.len (l : List Nat) : (U32 l).length = l.length := by simp [U32]
theorem U32.at_ (l : List Nat) (j : Nat) (h : j < l.length) : (U32 l)[j]? = some (.int .u32 ((l.getD j 0 : Nat) : Int)) := by
  simp [U32, List.getElem?_eq_getElem h, List.getD_eq_getElem?_getD]
theorem U32.one (l : List Nat) : ∀ u ∈ U32 l, u.oneCell' = true := by
  intro u hu
  simp only [U32, List.mem_map] at hu
  obtain ⟨b, _, rfl⟩ := hu
  rfl
/-- A state's cells. -/
def SV (s : Sha.St) : Array Value := (U32 s.list).toArray
theorem SV.size (s : Sha.St) : (SV s).size = 8 := rfl
theorem SV.one (s : Sha.St) : (SV s).all (·.oneCell') = true := by
  rw [Array.all_eq_true_iff_forall_mem]
  intro v hv
  exact U32.one _ v (by simpa [SV] using hv)
theorem H_range {w : World} {g : Nat} {nb : Int} (h : En w g 1 0 fillF nb) : w.rangeAt g 3 (U32 Sha.H0.list) := by
  intro j v hv
  have hj : j < 8 := by have := (List.getElem?_eq_some_iff.1 hv).1; simpa [U32, Sha.St.list] using this
  have hr := h.row j (by omega)
  rw [U32.at_ _ _ hj] at hv
  rw [← hv]
  have e : fillF j = Sha.H0.list.getD j 0 := by unfold fillF; rw [if_pos hj]; rfl
  rw [← e]
  exact hr
theorem En.grown {w w' : World} {g o : Nat} {m nb : Int} {f : Nat → Nat} {row : Option Nat} (h : En w g o m f nb) (hb : w.grownBy w' row) (hg : some g ≠ row) : En w' g o m f nb := by
  have hB := hb.block g h.lt hg
  exact h.keep (fun i => World.cell?_of_block (a := ⟨g, i, none⟩) hB) (fun i => by simp [World.frozen?, hB])
theorem only_new {w w2 w3 : World} {row : Option Nat} {b : Nat} (h : w.grownBy w2 row) (k : w2.grownBy w3 (some b)) (hb : w.heap.size ≤ b) : w.grownBy w3 row :=
  ⟨k.os.trans h.os, k.tape.trans h.tape, k.output.trans h.output, Nat.le_trans h.size k.size, fun i hi hne => (k.block i (Nat.lt_of_lt_of_le hi h.size) (by intro e; injection e with e; omega)).trans (h.block i hi hne)⟩
theorem size62 : (Try.prog.info? 62).map (·.size) = some 8 := by kernel_rfl
theorem size74 : (Try.prog.info? 74).map (·.size) = some 8 := by kernel_rfl
section
variable {ops : Array Oper} {rest : List Oper} {o : Oper} {a : Act} {Q : Exit → Act → World → Prop} {w : World}
theorem wl_mid62 (hw : Region.wanted o (yielded ops a.tmps) = true) (x : Operand) (ho : o.op = .load 62 x) {g k : Nat} (hx : a.eval x = .pointer (some ⟨g, k, none⟩)) {s : Sha.St} (h : w.rangeAt g k (U32 s.list))
    (hk : wpList Try.prog ops Q rest (a.put o.dst (.agg (SV s))) w) : wpList Try.prog ops Q (o :: rest) a w :=
  BigFrame.wpList_want hw fun _ hK => wp_load_mid 62 x ho g k hx (U32 s.list) _ h Try.underlying62 rfl (by rw [size62]; rfl) (hK _ _ hk)
theorem wl_st (hw : Region.wanted o (yielded ops a.tmps) = true) (x : Operand) (ho : o.op = .load 74 x) {g t : Nat} (hx : a.eval x = .pointer (some ⟨g, 0, none⟩)) {s : Sha.St} (h : Blk w g t (SV s))
    (hk : wpList Try.prog ops Q rest (a.put o.dst (.agg (SV s))) w) : wpList Try.prog ops Q (o :: rest) a w :=
  BigFrame.wpList_want hw fun _ hK => wp_load_row 74 x ho g hx t _ (0, 0) _ h Try.underlying74 rfl (by rw [size74]; rfl) (hK _ _ hk)
theorem wl_stmid (hw : Region.wanted o (yielded ops a.tmps) = true) (x : Operand) (ho : o.op = .load 74 x) {g k : Nat} (hx : a.eval x = .pointer (some ⟨g, k, none⟩)) {s : Sha.St} (h : w.rangeAt g k (U32 s.list))
    (hk : wpList Try.prog ops Q rest (a.put o.dst (.agg (SV s))) w) : wpList Try.prog ops Q (o :: rest) a w :=
  BigFrame.wpList_want hw fun _ hK => wp_load_mid 74 x ho g k hx (U32 s.list) _ h Try.underlying74 rfl (by rw [size74]; rfl) (hK _ _ hk)
theorem wl_stStore (hw : Region.wanted o (yielded ops a.tmps) = true) (x y : Operand) (ho : o.op = .store 74 x y) {g t : Nat} (hx : a.eval x = .pointer (some ⟨g, 0, none⟩)) {s : Sha.St} (hy : a.eval y = .agg (SV s)) {old : Array Value} (h : Blk w g t old) (hold : old.size = 8)
    (hk : ∀ w', Blk w' g t (SV s) → w.grownBy w' (some g) → wpList Try.prog ops Q rest (a.put o.dst undef) w') : wpList Try.prog ops Q (o :: rest) a w := by
  have hi : (Try.prog.info? 74).map (·.size) = some (SV s).size := by rw [size74]; rfl
  exact BigFrame.wpList_want hw fun _ hK => wp_store_row 74 x y ho g _ hx hy t old h hi (by rw [hold]; rfl) (SV.one s) (hK _ _ (hk _ (setRow_heap w g old _ t (0, 0) h) ⟨rfl, rfl, rfl, by simp, fun i _ hne => setRow_other w g i _ (fun e => hne (by rw [e]))⟩))
end
set_option maxRecDepth 100000 in
/-- begin. -/
theorem begin_any (w : World) (g : Nat) (nb : Int) (h : Eng w g nb) :
    Calls Try.prog 28 #[.pointer (some ⟨g, 0, none⟩)] w fun e w' => e = .returned (.agg (SV Sha.H0)) ∧ En w' g 1 0 fillF nb ∧ w.grownBy w' (some g) := by
  have HH := Lib.hid h
  have c0 := h.c0
  clear h
  have hmf : ∀ (fn : Fn) (first cap : Array Value) (w : World), (Instr.makeFunc fn first cap).run Try.prog w = .ok (.func fn first cap) w := fun _ _ _ _ => rfl
  obtain ⟨x0, c0⟩ := c0
  go_enter Try.func28, Try.ntmps28
  go_wp2_with fail
  obtain ⟨W, hW⟩ : ∃ W, W = w.alloc (.cells #[.int .u32 0, .int .u32 0, .int .u32 0, .int .u32 0, .int .u32 0, .int .u32 0, .int .u32 0, .int .u32 0] 74) := ⟨_, rfl⟩
  rw [← hW]
  have HB0 := Lib.hid (show Blk W w.heap.size 74 #[.int .u32 0, .int .u32 0, .int .u32 0, .int .u32 0, .int .u32 0, .int .u32 0, .int .u32 0, .int .u32 0] by rw [hW]; exact Blk.new _ _ _)
  have HBW := Lib.hid (show Below w.heap.size w W by rw [hW]; exact (Below.refl _ _).alloc (Nat.le_refl _) _)
  clear hW c0
  refine (do_any _ g nb (HH.out.after HBW.out)).mono ?_
  rintro e w2 ⟨rfl, hE, hG⟩
  have HE := Lib.hid hE
  have HG := Lib.hid hG
  have hgw : g < w.heap.size := HH.out.lt
  have HB2 := Lib.hid (HB0.out.grown hG (fun e => by injection e with e; omega))
  have e0 := hE.c0
  have e3 := hE.row 0 (by omega)
  have e3' : w2.cell? ⟨g, 3, none⟩ = some (.int .u32 ((fillF 0 : Nat) : Int)) := e3
  clear hE hG e3
  go_wp2_with (first | (refine wl_mid62 rfl (.tmp 13) rfl rfl (H_range HE.out) ?_) | (refine wl_stStore rfl (.tmp 2) (.tmp 14) rfl rfl rfl HB2.out rfl ?_; intro w3 hb3 hg3))
  refine bodyPost_ret (results_cell_row rfl _ _ w.heap.size 74 (SV Sha.H0) (0, 0) _ rfl hb3 Try.underlying74 rfl (by rw [size74]; rfl)) rfl ⟨rfl, ?_, ?_⟩
  · exact HE.out.grown hg3 (fun e => by injection e with e; omega)
  · exact only_new (only_trans (only_of_below HBW.out _) HG.out) hg3 (Nat.le_refl _)
/-! ### The count, a new engine -/
theorem loadCnt_any (w : World) (g : Nat) (x : Int) (hc : w.cell? ⟨g, 75, none⟩ = some (.int .i64 x)) :
    Calls Try.prog 31 #[.pointer (some ⟨g, 75, none⟩)] w fun e w' => e = .returned (.int .i64 x) ∧ w = w' := by
  have hl := run_call_load (P := Try.prog) Try.func43 (by kernel_rfl) (by kernel_rfl) (by kernel_rfl) .i64 (by kernel_rfl) hc
  go_enter Try.func31, Try.ntmps31
  go_wp2
  go_ret
  exact ⟨rfl, rfl⟩
theorem add_any (w : World) (a : Addr) (x y : Int) (hc : w.cell? a = some (.int .i64 x)) (hf : w.frozen? a = false) (hx : -9223372036854775808 ≤ x + y) (hy : x + y ≤ 9223372036854775807) :
    Calls Try.prog 42 #[.pointer (some a), .int .i64 y] w fun e w' => e = .returned (.int .i64 (x + y)) ∧ w' = w.setCell a (.int .i64 (x + y)) := by
  have hadd := run_call_add (P := Try.prog) Try.func55 (by kernel_rfl) (by kernel_rfl) (by kernel_rfl) .i64 (by kernel_rfl) (y := y) (s := x + y) hc hf (by
    have e : IntKind.i64.wrap (x + y) = x + y := by rw [IntKind.wrap_i64]; omega
    show Sem.run Try.prog (pure (Value.int .i64 (IntKind.i64.wrap (x + y)))) w = _
    rw [e]; rfl)
  go_enter Try.func42, Try.ntmps42
  go_wp2
  go_ret
  exact ⟨rfl, rfl⟩
theorem blocks_any (w : World) (g : Nat) (nb : Int) (h : Eng w g nb) :
    Calls Try.prog 17 #[.pointer (some ⟨g, 0, none⟩)] w fun e w' => e = .returned (.int .i64 nb) ∧ w = w' := by
  have H := Lib.hid h.cb
  obtain ⟨x0, c0⟩ := h.c0
  clear h
  go_enter Try.func17, Try.ntmps17
  go_wp2_with fail
  refine (loadCnt_any _ g nb H.out).mono ?_
  rintro e w' ⟨rfl, rfl⟩
  go_wp2_with fail
  go_ret
  exact ⟨rfl, rfl⟩
theorem blocks_nil (w : World) : Calls Try.prog 17 #[.pointer none] w fun e w' => e = .returned (.int .i64 0) ∧ w = w' := by
  go_enter Try.func17, Try.ntmps17
  go_wp2_with fail
  go_ret
  exact ⟨rfl, rfl⟩
theorem zero68 : Try.zeroCells68.toList = [.int .u32 0, .int .i32 0, .int .u32 0] ++ (List.replicate 72 (.int .u32 0) ++ [.int .i64 0]) := by kernel_rfl
set_option maxRecDepth 100000 in
theorem zero68_at (i : Nat) : Try.zeroCells68[i]? = ([.int .u32 0, .int .i32 0, .int .u32 0] ++ (List.replicate 72 (.int .u32 0) ++ [.int .i64 0]) : List Value)[i]? := by
  rw [← zero68, Array.getElem?_toList]
set_option maxRecDepth 100000 in
theorem en_new (w : World) : Eng (w.alloc (.cells Try.zeroCells68 68)) w.heap.size 0 := by
  have hB := Blk.new w 68 Try.zeroCells68
  refine .inr ⟨fun _ => 0, ?_, ?_, fun i hi => ?_, ?_, fun i => hB.frozen i⟩
  · rw [hB.cell, zero68_at]; rfl
  · rw [hB.cell, zero68_at]; rfl
  · rw [hB.cell, zero68_at, List.getElem?_append_right (by simp), List.getElem?_append_left (by simp; omega), List.getElem?_replicate, if_pos (by simp; omega)]
    rfl
  · rw [hB.cell, zero68_at]; rfl
theorem new_any (w : World) :
    Calls Try.prog 8 #[] w fun e w' => e = .returned (.pointer (some ⟨w.heap.size, 0, none⟩)) ∧ Eng w' w.heap.size 0 ∧ Below w.heap.size w w' := by
  go_enter Try.func8, Try.ntmps8
  go_wp2_with fail
  go_ret
  exact ⟨rfl, en_new w, (Below.refl _ _).alloc (Nat.le_refl _) _⟩
end Go.Proofs.Ytepcbnkhfiphdaa
