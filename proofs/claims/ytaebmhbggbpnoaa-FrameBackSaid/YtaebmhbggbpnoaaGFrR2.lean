/- The walk of frames' closure (frame). Conditions: each theorem's premises. -/
import Derived.Test.YtaebmhbggbpnoaaGFr7
import Derived.Test.YtaebmhbggbpnoaaFrR1
import Derived.Shelf.RegionOpen
import Derived.OwnWalkIn
import Derived.TacticsInMore
import Derived.LoopNIn
import Derived.LoopIn
namespace Go.Proofs.Ytaebmhbggbpnoaa
open Go.RowKit Go.Shelf
attribute [local go_sem] Oper.semAt_some
/-- What stands one behind the other, with its place. -/
def turnsF : Nat → List UInt8 → Nat → List (Nat × FrR)
  | 0, _, _ => []
  | fuel + 1, bs, z => if z < bs.length then (z, frT (bs.drop z)) :: (match frT (bs.drop z) with
    | .bad _ => []
    | .good _ _ _ m => turnsF fuel bs (z + m)) else []
/-- A placed record's cells. -/
def PC (z m : Int) (k : Int) (nm : List UInt8) (b : Value) : Array Value := (Value.int .i64 z :: Value.int .i64 m :: Value.int .i64 k :: (u8s nm ++ [b])).toArray
theorem PC.size {z m k : Int} {nm : List UInt8} {b : Value} (h : nm.length = 32) : (PC z m k nm b).size = 36 := by simp [PC, u8s, h]
theorem built134 (z m k : Int) (nm : List UInt8) (A : Option Addr) (n c : Nat) (hn : nm.length = 32) : Try.prog.built 134 [(0, .int .i64 z), (1, .int .i64 m), (2, .agg (RC k nm (.slice A n c)))] = some (PC z m k nm (.slice A n c)) := by
  obtain ⟨a0, a1, a2, a3, a4, a5, a6, a7, a8, a9, a10, a11, a12, a13, a14, a15, a16, a17, a18, a19, a20, a21, a22, a23, a24, a25, a26, a27, a28, a29, a30, a31, rfl⟩ := list32 nm hn
  kernel_rfl
theorem size134 : (Try.prog.info? 134).map (·.size) = some 36 := by kernel_rfl
/-- What a round is handed. -/
def frEnc (g : Nat) (Gd : World → Prop) (bs : List UInt8) (k : Nat) (W0 W : World) (x : Array Value) : Prop :=
  ∃ z K nm A n c m f, (turnsF (bs.length + 1) bs 0)[k]? = some (z, frT (bs.drop z)) ∧ x = #[.agg (PC (z : Nat) m K nm (.slice A n c)), .int .i64 f] ∧ nm.length = 32 ∧ FRes W W0.heap.size (frT (bs.drop z)) K nm (.slice A n c) m f ∧ W0.grownBy W (some g) ∧ Gd W
section
variable {F : Fence} {n : Nat} {P : Program} {ops : Array Oper} {rest : List Oper} {o : Oper} {a : Act} {Q : Exit → Act → World → Prop} {w : World}
theorem opIn_wide {K : Act → World → Prop} (h : o.wp P a w K Q) : o.wpIn Fence.wide n P a w K Q := by
  unfold Oper.wp at h
  unfold Oper.wpIn
  refine ⟨fun _ _ => trivial, ?_⟩
  show o.uponIn Fence.wide n P a K Q ((execOp a.eval o).run P w)
  generalize (execOp a.eval o).run P w = r at *
  cases r with
  | ok x w' =>
    cases x <;> first
      | exact h
      | exact ⟨(fun h0 => by exact absurd h0 (by simp [Fence.wide])), callsIn_wide (n := n - 1) |>.2 h⟩
      | exact ⟨(fun h0 => by exact absurd h0 (by simp [Fence.wide])), fun c cs _ => let ⟨v, w', r, s⟩ := h c cs; ⟨v, w', r, stepsIn_wide.2 s⟩⟩
      | exact h.elim
  | halt x w' => cases x <;> exact h
/-- A whole record is loaded, in a fence. -/
theorem wlIn_rec (hw : Region.wanted o (yielded ops a.tmps) = true) (x : Operand) (ho : o.op = .load 109 x) {g t : Nat} (hx : a.eval x = .pointer (some ⟨g, 0, none⟩)) {k : Int} {nm : List UInt8} {b : Value} (h : Blk w g t (RC k nm b)) (hn : nm.length = 32)
    (hk : wpListIn Fence.wide n Try.prog ops Q rest (a.put o.dst (.agg (RC k nm b))) w) : wpListIn Fence.wide n Try.prog ops Q (o :: rest) a w := by
  unfold wpListIn
  rw [if_pos hw]
  exact opIn_wide (wp_load_row 109 x ho g hx t _ (0, 0) _ h Try.underlying109 rfl (by rw [size109, RC.size hn]) hk)
/-- A placed record is built, in a fence. -/
theorem wlIn_build (hw : Region.wanted o (yielded ops a.tmps) = true) (ty : TypeId) (parts : Array (Nat × Operand)) (ho : o.op = .build ty parts) {cs : Array Value} (hb : Try.prog.built ty (parts.map fun (i, x) => (i, a.eval x)).toList = some cs)
    (hk : wpListIn Fence.wide n Try.prog ops Q rest (a.put o.dst (.agg cs)) w) : wpListIn Fence.wide n Try.prog ops Q (o :: rest) a w := by
  unfold wpListIn
  rw [if_pos hw]
  exact opIn_wide (wp_build ty parts ho (by rw [hb]; rfl) (by rw [hb]; exact hk))
end
theorem turns_at {fuel : Nat} {bs : List UInt8} {z : Nat} (h : z < bs.length) : turnsF (fuel + 1) bs z = (z, frT (bs.drop z)) :: (match frT (bs.drop z) with
    | .bad _ => []
    | .good _ _ _ m => turnsF fuel bs (z + m)) := by
  rw [turnsF, if_pos h]
theorem turns_end {fuel : Nat} {bs : List UInt8} {z : Nat} (h : ¬ z < bs.length) : turnsF fuel bs z = [] := by
  cases fuel with
  | zero => rfl
  | succ f => rw [turnsF, if_neg h]
theorem turn_next {T : List (Nat × FrR)} {fuel k z B : Nat} {bs : List UInt8} {W : World} {K : Int} {nm : List UInt8} {b : Value} {m f : Int} (hT : T.drop k = (z, frT (bs.drop z)) :: (match frT (bs.drop z) with
    | .bad _ => []
    | .good _ _ _ m => turnsF fuel bs (z + m))) (hr : FRes W B (frT (bs.drop z)) K nm b m f) :
    (f ≠ 0 ∧ T.length = k + 1) ∨ (f = 0 ∧ ∃ M : Nat, m = (M : Int) ∧ 4 ≤ M ∧ M ≤ (bs.drop z).length ∧ T.drop (k + 1) = turnsF fuel bs (z + M) ∧ ∀ N, frN (frT (bs.drop z)) N = M) := by
  have hl := congrArg List.length hT
  have hd : T.drop (k + 1) = (T.drop k).tail := by rw [List.tail_drop]
  rw [hT] at hd
  cases hR : frT (bs.drop z) with
  | bad F =>
    rw [hR] at hr hl
    refine .inl ⟨by rw [hr.2.2.2.2]; exact frT_bad hR, ?_⟩
    simp at hl
    omega
  | good K' NM bs' M =>
    rw [hR] at hr hd
    obtain ⟨A, c, -, -, -, h4, h5, -⟩ := hr
    exact .inr ⟨h5, M, h4, (frT_size hR).1, (frT_size hR).2, hd, fun N => rfl⟩
def KpB (B b1 b2 : Nat) (W W' : World) : Prop := Below B W W' ∧ W'.heap[b1]? = W.heap[b1]? ∧ W'.heap[b2]? = W.heap[b2]?
theorem store_rc {W : World} {g t : Nat} {old : Array Value} {k : Int} {nm : List UInt8} {b : Value} (h : Blk W g t old) (ho : old.size = 34) (hn : nm.length = 32) (hb : b.oneCell' = true) : (storeCells ⟨g, 0, none⟩ (RC k nm b).toList).run Try.prog W = .ok () (W.setRow g (RC k nm b)) := by
  have := run_storeCells_from (P := Try.prog) g t (RC k nm b).toList 0 old W h (by simp [RC.size hn, ho]) (fun v hv => (Array.all_eq_true_iff_forall_mem.1 (RC.one hb)) v (by simpa using hv))
  simpa using this
/-- Behind a round's Take and its store. -/
def Aft (wr : World) (g B : Nat) (d : Int) (N : Nat) (R : FrR) (K : Int) (nm : List UInt8) (b : Value) (m f : Int) (wF : World) (T5 : Nat) : Prop := Blk wF T5 109 (RC K nm b) ∧ wr.grownBy wF (some g) ∧ FRes wF B R K nm b m f ∧ ∃ d'', Tbl wF g d'' ∧ d ≤ d'' ∧ d'' ≤ d + (frN R N : Int)
theorem FTakeEnd.sliced {w w' : World} {g n : Nat} {d : Int} {bs : List UInt8} {e : Ending} (h : FTakeEnd w g d n (frT bs) e w') : ∃ k nm A n' c m f, e = .returned (.tuple #[.agg (RC k nm (.slice A n' c)), .int .i64 m, .int .i64 f]) ∧ nm.length = 32 ∧ FRes w' w.heap.size (frT bs) k nm (.slice A n' c) m f ∧ ∃ d', Tbl w' g d' ∧ d ≤ d' ∧ d' ≤ d + (frN (frT bs) n : Int) ∧ w.grownBy w' (some g) := by
  obtain ⟨k, nm, b, m, f, he, hn, -, hr, hd⟩ := h.one
  have hb : ∃ A n' c, b = .slice A n' c := by
    cases hR : frT bs with
    | bad F => rw [hR] at hr; exact ⟨_, _, _, hr.2.2.1⟩
    | good K NM bs M => rw [hR] at hr; obtain ⟨A, c, -, -, h, -⟩ := hr; exact ⟨_, _, _, h⟩
  obtain ⟨A, n', c, rfl⟩ := hb
  exact ⟨k, nm, A, n', c, m, f, he, hn, hr, hd⟩
theorem FRes.store {w : World} {B B' T : Nat} {R : FrR} {k : Int} {nm : List UInt8} {b : Value} {m f : Int} (h : FRes w B R k nm b m f) (cs : Array Value) (hT : ∀ j, B ≤ j → j < w.heap.size → j ≠ T) (hB : B' ≤ B) : FRes (w.setRow T cs) B' R k nm b m f := by
  cases R with
  | bad F => exact h
  | good K NM bs M =>
    obtain ⟨A, c, h1, h2, h3, h4, h5, hb⟩ := h
    exact ⟨A, c, h1, h2, h3, h4, h5, (hb.keep (fun p hp hlt => World.cell?_of_block (setRow_other w T p.block cs (hT _ hp hlt))) (fun _ h _ => h)).mono (fun j hj => by omega)⟩
theorem aft_A {wr w2 : World} {g B N : Nat} {d : Int} {bs : List UInt8} {e : Ending} (he : FTakeEnd (wr.alloc (.cells #[Value.int .i64 0, .int .u8 0, .int .u8 0, .int .u8 0, .int .u8 0, .int .u8 0, .int .u8 0, .int .u8 0, .int .u8 0, .int .u8 0, .int .u8 0, .int .u8 0, .int .u8 0, .int .u8 0, .int .u8 0, .int .u8 0, .int .u8 0, .int .u8 0, .int .u8 0, .int .u8 0, .int .u8 0, .int .u8 0, .int .u8 0, .int .u8 0, .int .u8 0, .int .u8 0, .int .u8 0, .int .u8 0, .int .u8 0, .int .u8 0, .int .u8 0, .int .u8 0, .int .u8 0, .slice none 0 0] 109)).drew g d N (frT bs) e w2) (hg : g < B) (hB : B ≤ wr.heap.size) : ∃ k nm A n' c m f, e = .returned (.tuple #[.agg (RC k nm (.slice A n' c)), .int .i64 m, .int .i64 f]) ∧ nm.length = 32 ∧ (RC k nm (.slice A n' c)).size = 34 ∧
    (storeCells ⟨wr.heap.size, 0, none⟩ (RC k nm (.slice A n' c)).toList).run Try.prog w2 = .ok () (w2.setRow wr.heap.size (RC k nm (.slice A n' c))) ∧ Hid (wr.grownBy w2 (some g)) ∧ Hid (wr.grownBy (w2.setRow wr.heap.size (RC k nm (.slice A n' c))) (some g)) ∧ Hid (Aft wr g B d N (frT bs) k nm (.slice A n' c) m f (w2.setRow wr.heap.size (RC k nm (.slice A n' c))) wr.heap.size) := by
  obtain ⟨k, nm, A, n', c, m, f, he, hn, hr, d', ht, hd1, hd2, hG⟩ := he.sliced
  have hb0 : Blk (wr.alloc (.cells #[Value.int .i64 0, .int .u8 0, .int .u8 0, .int .u8 0, .int .u8 0, .int .u8 0, .int .u8 0, .int .u8 0, .int .u8 0, .int .u8 0, .int .u8 0, .int .u8 0, .int .u8 0, .int .u8 0, .int .u8 0, .int .u8 0, .int .u8 0, .int .u8 0, .int .u8 0, .int .u8 0, .int .u8 0, .int .u8 0, .int .u8 0, .int .u8 0, .int .u8 0, .int .u8 0, .int .u8 0, .int .u8 0, .int .u8 0, .int .u8 0, .int .u8 0, .int .u8 0, .int .u8 0, .slice none 0 0] 109)).drew wr.heap.size 109 (RC 0 noName (.slice none 0 0)) := by rw [← zero_rec]; exact (blk_new rfl).drew
  have hb2 := hb0.grown hG (fun e => by injection e with e; omega)
  have h0 : Below wr.heap.size wr (wr.alloc (.cells #[Value.int .i64 0, .int .u8 0, .int .u8 0, .int .u8 0, .int .u8 0, .int .u8 0, .int .u8 0, .int .u8 0, .int .u8 0, .int .u8 0, .int .u8 0, .int .u8 0, .int .u8 0, .int .u8 0, .int .u8 0, .int .u8 0, .int .u8 0, .int .u8 0, .int .u8 0, .int .u8 0, .int .u8 0, .int .u8 0, .int .u8 0, .int .u8 0, .int .u8 0, .int .u8 0, .int .u8 0, .int .u8 0, .int .u8 0, .int .u8 0, .int .u8 0, .int .u8 0, .int .u8 0, .slice none 0 0] 109)).drew := ((Below.refl _ _).alloc (Nat.le_refl _) _).drew
  have hG2 : wr.grownBy w2 (some g) := only_trans (only_of_below h0 _) hG
  have hbs : Below wr.heap.size w2 (w2.setRow wr.heap.size (RC k nm (.slice A n' c))) := below_setRow (Below.refl _ _) (Nat.le_refl _) _
  have hG3 : wr.grownBy (w2.setRow wr.heap.size (RC k nm (.slice A n' c))) (some g) := grown_below hG2 hbs
  have hs : (wr.alloc (.cells #[Value.int .i64 0, .int .u8 0, .int .u8 0, .int .u8 0, .int .u8 0, .int .u8 0, .int .u8 0, .int .u8 0, .int .u8 0, .int .u8 0, .int .u8 0, .int .u8 0, .int .u8 0, .int .u8 0, .int .u8 0, .int .u8 0, .int .u8 0, .int .u8 0, .int .u8 0, .int .u8 0, .int .u8 0, .int .u8 0, .int .u8 0, .int .u8 0, .int .u8 0, .int .u8 0, .int .u8 0, .int .u8 0, .int .u8 0, .int .u8 0, .int .u8 0, .int .u8 0, .int .u8 0, .slice none 0 0] 109)).drew.heap.size = wr.heap.size + 1 := by simp
  refine ⟨k, nm, A, n', c, m, f, he, hn, RC.size hn, store_rc hb2 (RC.size noName_len) hn rfl, Lib.hid hG2, Lib.hid hG3, Lib.hid ⟨setRow_heap w2 _ _ _ 109 (0, 0) hb2, hG3, hr.store _ (fun j hj _ => by omega) (by omega), d', tblB ht hbs (by omega), hd1, hd2⟩⟩
theorem aft_B {wr w2 : World} {g B N : Nat} {d : Int} {bs : List UInt8} {e : Ending} (he : FTakeEnd wr.drew g d N (frT bs) e w2) (hg : g < B) (hB : B ≤ wr.heap.size) : ∃ k nm A n' c m f, e = .returned (.tuple #[.agg (RC k nm (.slice A n' c)), .int .i64 m, .int .i64 f]) ∧ nm.length = 32 ∧ (RC k nm (.slice A n' c)).size = 34 ∧
    (storeCells ⟨w2.heap.size, 0, none⟩ (RC k nm (.slice A n' c)).toList).run Try.prog (w2.alloc (.cells #[Value.int .i64 0, .int .u8 0, .int .u8 0, .int .u8 0, .int .u8 0, .int .u8 0, .int .u8 0, .int .u8 0, .int .u8 0, .int .u8 0, .int .u8 0, .int .u8 0, .int .u8 0, .int .u8 0, .int .u8 0, .int .u8 0, .int .u8 0, .int .u8 0, .int .u8 0, .int .u8 0, .int .u8 0, .int .u8 0, .int .u8 0, .int .u8 0, .int .u8 0, .int .u8 0, .int .u8 0, .int .u8 0, .int .u8 0, .int .u8 0, .int .u8 0, .int .u8 0, .int .u8 0, .slice none 0 0] 109)) = .ok () ((w2.alloc (.cells #[Value.int .i64 0, .int .u8 0, .int .u8 0, .int .u8 0, .int .u8 0, .int .u8 0, .int .u8 0, .int .u8 0, .int .u8 0, .int .u8 0, .int .u8 0, .int .u8 0, .int .u8 0, .int .u8 0, .int .u8 0, .int .u8 0, .int .u8 0, .int .u8 0, .int .u8 0, .int .u8 0, .int .u8 0, .int .u8 0, .int .u8 0, .int .u8 0, .int .u8 0, .int .u8 0, .int .u8 0, .int .u8 0, .int .u8 0, .int .u8 0, .int .u8 0, .int .u8 0, .int .u8 0, .slice none 0 0] 109)).setRow w2.heap.size (RC k nm (.slice A n' c))) ∧ Hid (wr.grownBy w2 (some g)) ∧ Hid (wr.grownBy (w2.alloc (.cells #[Value.int .i64 0, .int .u8 0, .int .u8 0, .int .u8 0, .int .u8 0, .int .u8 0, .int .u8 0, .int .u8 0, .int .u8 0, .int .u8 0, .int .u8 0, .int .u8 0, .int .u8 0, .int .u8 0, .int .u8 0, .int .u8 0, .int .u8 0, .int .u8 0, .int .u8 0, .int .u8 0, .int .u8 0, .int .u8 0, .int .u8 0, .int .u8 0, .int .u8 0, .int .u8 0, .int .u8 0, .int .u8 0, .int .u8 0, .int .u8 0, .int .u8 0, .int .u8 0, .int .u8 0, .slice none 0 0] 109)) (some g)) ∧ Hid (wr.grownBy ((w2.alloc (.cells #[Value.int .i64 0, .int .u8 0, .int .u8 0, .int .u8 0, .int .u8 0, .int .u8 0, .int .u8 0, .int .u8 0, .int .u8 0, .int .u8 0, .int .u8 0, .int .u8 0, .int .u8 0, .int .u8 0, .int .u8 0, .int .u8 0, .int .u8 0, .int .u8 0, .int .u8 0, .int .u8 0, .int .u8 0, .int .u8 0, .int .u8 0, .int .u8 0, .int .u8 0, .int .u8 0, .int .u8 0, .int .u8 0, .int .u8 0, .int .u8 0, .int .u8 0, .int .u8 0, .int .u8 0, .slice none 0 0] 109)).setRow w2.heap.size (RC k nm (.slice A n' c))) (some g)) ∧ Hid (Aft wr g B d N (frT bs) k nm (.slice A n' c) m f ((w2.alloc (.cells #[Value.int .i64 0, .int .u8 0, .int .u8 0, .int .u8 0, .int .u8 0, .int .u8 0, .int .u8 0, .int .u8 0, .int .u8 0, .int .u8 0, .int .u8 0, .int .u8 0, .int .u8 0, .int .u8 0, .int .u8 0, .int .u8 0, .int .u8 0, .int .u8 0, .int .u8 0, .int .u8 0, .int .u8 0, .int .u8 0, .int .u8 0, .int .u8 0, .int .u8 0, .int .u8 0, .int .u8 0, .int .u8 0, .int .u8 0, .int .u8 0, .int .u8 0, .int .u8 0, .int .u8 0, .slice none 0 0] 109)).setRow w2.heap.size (RC k nm (.slice A n' c))) w2.heap.size) := by
  obtain ⟨k, nm, A, n', c, m, f, he, hn, hr, d', ht, hd1, hd2, hG⟩ := he.sliced
  have hb2 : Blk (w2.alloc (.cells #[Value.int .i64 0, .int .u8 0, .int .u8 0, .int .u8 0, .int .u8 0, .int .u8 0, .int .u8 0, .int .u8 0, .int .u8 0, .int .u8 0, .int .u8 0, .int .u8 0, .int .u8 0, .int .u8 0, .int .u8 0, .int .u8 0, .int .u8 0, .int .u8 0, .int .u8 0, .int .u8 0, .int .u8 0, .int .u8 0, .int .u8 0, .int .u8 0, .int .u8 0, .int .u8 0, .int .u8 0, .int .u8 0, .int .u8 0, .int .u8 0, .int .u8 0, .int .u8 0, .int .u8 0, .slice none 0 0] 109)) w2.heap.size 109 (RC 0 noName (.slice none 0 0)) := by rw [← zero_rec]; exact blk_new rfl
  have h0 : Below wr.heap.size wr wr.drew := (Below.refl _ _).drew
  have hG2 : wr.grownBy w2 (some g) := only_trans (only_of_below h0 _) hG
  have hba : Below w2.heap.size w2 (w2.alloc (.cells #[Value.int .i64 0, .int .u8 0, .int .u8 0, .int .u8 0, .int .u8 0, .int .u8 0, .int .u8 0, .int .u8 0, .int .u8 0, .int .u8 0, .int .u8 0, .int .u8 0, .int .u8 0, .int .u8 0, .int .u8 0, .int .u8 0, .int .u8 0, .int .u8 0, .int .u8 0, .int .u8 0, .int .u8 0, .int .u8 0, .int .u8 0, .int .u8 0, .int .u8 0, .int .u8 0, .int .u8 0, .int .u8 0, .int .u8 0, .int .u8 0, .int .u8 0, .int .u8 0, .int .u8 0, .slice none 0 0] 109)) := (Below.refl _ _).alloc (Nat.le_refl _) _
  have hbs : Below w2.heap.size w2 ((w2.alloc (.cells #[Value.int .i64 0, .int .u8 0, .int .u8 0, .int .u8 0, .int .u8 0, .int .u8 0, .int .u8 0, .int .u8 0, .int .u8 0, .int .u8 0, .int .u8 0, .int .u8 0, .int .u8 0, .int .u8 0, .int .u8 0, .int .u8 0, .int .u8 0, .int .u8 0, .int .u8 0, .int .u8 0, .int .u8 0, .int .u8 0, .int .u8 0, .int .u8 0, .int .u8 0, .int .u8 0, .int .u8 0, .int .u8 0, .int .u8 0, .int .u8 0, .int .u8 0, .int .u8 0, .int .u8 0, .slice none 0 0] 109)).setRow w2.heap.size (RC k nm (.slice A n' c))) := below_setRow hba (Nat.le_refl _) _
  have hs2 := hG2.size
  have hGa : wr.grownBy (w2.alloc (.cells #[Value.int .i64 0, .int .u8 0, .int .u8 0, .int .u8 0, .int .u8 0, .int .u8 0, .int .u8 0, .int .u8 0, .int .u8 0, .int .u8 0, .int .u8 0, .int .u8 0, .int .u8 0, .int .u8 0, .int .u8 0, .int .u8 0, .int .u8 0, .int .u8 0, .int .u8 0, .int .u8 0, .int .u8 0, .int .u8 0, .int .u8 0, .int .u8 0, .int .u8 0, .int .u8 0, .int .u8 0, .int .u8 0, .int .u8 0, .int .u8 0, .int .u8 0, .int .u8 0, .int .u8 0, .slice none 0 0] 109)) (some g) := grown_below hG2 (hba.mono hs2)
  have hG3 : wr.grownBy ((w2.alloc (.cells #[Value.int .i64 0, .int .u8 0, .int .u8 0, .int .u8 0, .int .u8 0, .int .u8 0, .int .u8 0, .int .u8 0, .int .u8 0, .int .u8 0, .int .u8 0, .int .u8 0, .int .u8 0, .int .u8 0, .int .u8 0, .int .u8 0, .int .u8 0, .int .u8 0, .int .u8 0, .int .u8 0, .int .u8 0, .int .u8 0, .int .u8 0, .int .u8 0, .int .u8 0, .int .u8 0, .int .u8 0, .int .u8 0, .int .u8 0, .int .u8 0, .int .u8 0, .int .u8 0, .int .u8 0, .slice none 0 0] 109)).setRow w2.heap.size (RC k nm (.slice A n' c))) (some g) := grown_below hG2 (hbs.mono hs2)
  have hrr : FRes ((w2.alloc (.cells #[Value.int .i64 0, .int .u8 0, .int .u8 0, .int .u8 0, .int .u8 0, .int .u8 0, .int .u8 0, .int .u8 0, .int .u8 0, .int .u8 0, .int .u8 0, .int .u8 0, .int .u8 0, .int .u8 0, .int .u8 0, .int .u8 0, .int .u8 0, .int .u8 0, .int .u8 0, .int .u8 0, .int .u8 0, .int .u8 0, .int .u8 0, .int .u8 0, .int .u8 0, .int .u8 0, .int .u8 0, .int .u8 0, .int .u8 0, .int .u8 0, .int .u8 0, .int .u8 0, .int .u8 0, .slice none 0 0] 109)).setRow w2.heap.size (RC k nm (.slice A n' c))) B (frT bs) k nm (.slice A n' c) m f := by
    cases hR : frT bs with
    | bad F => rw [hR] at hr; exact hr
    | good K NM bs M =>
      rw [hR] at hr
      obtain ⟨A, c, h1, h2, h3, h4, h5, hb⟩ := hr
      exact ⟨A, c, h1, h2, h3, h4, h5, (hb.after hbs).mono (fun j hj => Nat.le_trans hB hj)⟩
  exact ⟨k, nm, A, n', c, m, f, he, hn, RC.size hn, store_rc hb2 (RC.size noName_len) hn rfl, Lib.hid hG2, Lib.hid hGa, Lib.hid hG3, Lib.hid ⟨setRow_heap _ _ _ _ 109 (0, 0) hb2, hG3, hrr, d', tblB ht hbs (by omega), hd1, hd2⟩⟩
set_option maxRecDepth 100000 in
set_option maxHeartbeats 4000000 in
theorem frames1_hands (n : Nat) (hn : 1 ≤ n) (w : World) (n₀ g b1 b2 : Nat) (d : Int) (S : Nat → Prop) (A : Option Addr) (m c : Nat) (bs : List UInt8) (h1 : w.cell? ⟨b1, 0, none⟩ = some (.slice A m c)) (h2 : w.cell? ⟨b2, 0, none⟩ = some (.pointer (some ⟨g, 0, none⟩)))
    (hg1 : b1 ≠ g) (hg2 : b2 ≠ g) (ht : Tbl w g d) (hd : 0 ≤ d ∧ d ≤ 500000000) (hx : Bs w S A m c bs) (hm : m ≤ 100000000) (hS : ∀ k, S k → k < n₀ ∧ k ≠ g) (hgn : g < n₀) (hn₀ : n₀ ≤ w.heap.size) :
    Hands Fence.wide n Try.prog 133 #[.pointer (some ⟨b1, 0, none⟩), .pointer (some ⟨b2, 0, none⟩)] (frEnc g (fun W' => ∃ d', Tbl W' g d' ∧ d ≤ d' ∧ d' ≤ d + (2 * m : Nat)) bs) (KpB n₀ b1 b2) (turnsF (bs.length + 1) bs 0).length g (fun W' => ∃ d', Tbl W' g d' ∧ d ≤ d' ∧ d' ≤ d + (2 * m : Nat)) w := by
  intro l J Jx W hW hJ hJx hY h0
  have hb1 : b1 < w.heap.size := World.block_lt_of_cell? w _ h1
  have hb2 : b2 < w.heap.size := World.block_lt_of_cell? w _ h2
  have k1 := (hW.cell (p := ⟨b1, 0, none⟩) hb1).trans h1
  have k2 := (hW.cell (p := ⟨b2, 0, none⟩) hb2).trans h2
  obtain ⟨T, hTT⟩ : ∃ T, T = turnsF (bs.length + 1) bs 0 := ⟨_, rfl⟩
  have HTT := Lib.hid hTT
  have HL := Lib.hid hx.len
  rw [← hTT]
  have HST : Hid (∃ (k z : Nat) (d' : Int), z = 0 ∧ k ≤ T.length ∧ J k W ∧ W.cell? ⟨b1, 0, none⟩ = some (.slice A m c) ∧ W.cell? ⟨b2, 0, none⟩ = some (.pointer (some ⟨g, 0, none⟩)) ∧ Bs W S A m c bs ∧ Tbl W g d' ∧ d ≤ d' ∧ d' ≤ d + (z : Int) ∧ T.drop k = turnsF (bs.length + 1 - k) bs z ∧ k ≤ z ∧ w.heap.size ≤ W.heap.size) := Lib.hid
    ⟨0, 0, d, rfl, Nat.zero_le _, h0, k1, k2, hx.under (fun k hk => Nat.lt_of_lt_of_le (hS k hk).1 hn₀) hW, ht.after hW, by omega, by omega, by rw [hTT]; rfl, Nat.le_refl _, hW.size⟩
  have HY := Lib.hid hY
  have HJ := Lib.hid hJ
  have HS := Lib.hid hS
  clear hW h1 h2 ht hx hY hJ h0 hS hJx k1 k2 hTT
  refine callsIn_of_wp Try.func133 rfl trivial ?_ rfl
  simp only [Try.ntmps133, List.size_toArray, List.length_cons, List.length_nil, Nat.reduceAdd, Nat.reduceSub, Array.replicate_succ, Array.replicate_zero, List.push_toArray, List.append_toArray, List.nil_append, List.cons_append]
  gi_wp2_with fail
  gi_loopw [4] (fun v4 wr => ∃ z : Nat, z ≤ m ∧ v4 = .int .i64 (z : Int) ∧ Hid (∃ (k : Nat) (d' : Int), k ≤ T.length ∧ J k wr ∧ wr.cell? ⟨b1, 0, none⟩ = some (.slice A m c) ∧ wr.cell? ⟨b2, 0, none⟩ = some (.pointer (some ⟨g, 0, none⟩)) ∧ Bs wr S A m c bs ∧ Tbl wr g d' ∧ d ≤ d' ∧ d' ≤ d + (z : Int) ∧ T.drop k = turnsF (bs.length + 1 - k) bs z ∧ k ≤ z ∧ w.heap.size ≤ wr.heap.size)) (fun v4 _ => m - (intOf v4).toNat)
  case atStart =>
    obtain ⟨k, z, d', rfl, h⟩ := HST.out
    exact ⟨0, Nat.zero_le _, rfl, Lib.hid ⟨k, d', h⟩⟩
  case round =>
    obtain ⟨z, hz, rfl, HR⟩ := hrel
    obtain ⟨c1, c2⟩ : wr.cell? ⟨b1, 0, none⟩ = some (.slice A m c) ∧ wr.cell? ⟨b2, 0, none⟩ = some (.pointer (some ⟨g, 0, none⟩)) := by
      obtain ⟨k, d', -, -, c1, c2, -⟩ := HR.out
      exact ⟨c1, c2⟩
    by_cases hlt : z < m
    · have hlt' : (z : Int) < (m : Int) := by omega
      obtain ⟨k, d', hk, hJk, -, -, hb, ht, hd1, hd2, hT, hkz, hsz⟩ := HR.out
      obtain ⟨A7, c7, hcut, hx7⟩ := hb.oldS.from_ (z : Int) z (m - z) rfl (by omega)
      have HC : Hid (∀ w', Below wr.heap.size wr w' → Calls Try.prog 66 #[.pointer (some ⟨g, 0, none⟩), .slice A7 (m - z) c7] w' (FTakeEnd w' g d' (m - z) (frT (bs.drop z)))) := Lib.hid fun w' hw =>
        ftake_any w' g d' _ A7 (m - z) c7 (bs.drop z) (ht.after hw) ⟨by omega, by omega⟩ (hx7.after hw) (fun j hj _ => (HS.out j hj.1).2) (by omega)
      have hf1 : bs.length + 1 - k = (bs.length - k) + 1 := by have := HL.out; omega
      rw [hf1, turns_at (by rw [HL.out]; exact hlt)] at hT
      have hkT : k < T.length := by
        rcases Nat.lt_or_ge k T.length with h | h
        · exact h
        · rw [List.drop_eq_nil_of_le h] at hT; cases hT
      have HK := Lib.hid (And.intro hT (And.intro hkz (And.intro hJk (And.intro hsz (And.intro hb (And.intro hd1 hd2))))))
      have hgr : g < wr.heap.size := tbl_lt ht
      clear hT hkz hJk hsz hx7 hb ht hk HR
      have hS : Hid (∀ w', Hid (wr.grownBy w' (some g)) → w'.cell? ⟨b1, 0, none⟩ = some (.slice A m c) ∧ w'.cell? ⟨b2, 0, none⟩ = some (.pointer (some ⟨g, 0, none⟩)) ∧ Hid (wr.grownBy w' (some g))) := Lib.hid fun w' hw => ⟨(World.cell?_of_block (hw.out.block b1 (World.block_lt_of_cell? _ _ c1) (fun e => by injection e with e; exact hg1 e))).trans c1, (World.cell?_of_block (hw.out.block b2 (World.block_lt_of_cell? _ _ c2) (fun e => by injection e with e; exact hg2 e))).trans c2, hw⟩
      have hB0 : Hid (wr.grownBy wr.drew (some g)) := Lib.hid (only_of_below ((Below.refl _ _).drew) _)
      have hB1 : ∀ o, Hid (wr.grownBy (wr.alloc o).drew (some g)) := fun o => Lib.hid (only_of_below (((Below.refl _ _).alloc (Nat.le_refl _) o).drew) _)
      have hn0r : n₀ ≤ wr.heap.size := by have := HK.out.2.2.2.1; omega
      gi_wp2_with fail
      refine wpIn_wide.2 ?_
      go_region_held3 (fun w' => w'.cell? ⟨b1, 0, none⟩ = some (.slice A m c) ∧ w'.cell? ⟨b2, 0, none⟩ = some (.pointer (some ⟨g, 0, none⟩)) ∧ Hid (wr.grownBy w' (some g))) (first | (with_reducible exact hS.out _ (by assumption)) | (with_reducible exact hS.out _ (hB1 _))) (first | (go_at_call 66; refine (HC.out _ ((Below.refl _ _).drew)).mono ?_; intro e w2 he; obtain ⟨K9, nm9, A9, n9, c9, m9, f9, rfl, hnm9, hsz9, hst9, hG9, hG9a, hG9b, HA9⟩ := aft_B he hgr (Nat.le_refl _); clear he) | (go_at_call 66; refine (HC.out _ (((Below.refl _ _).alloc (Nat.le_refl _) _).drew)).mono ?_; intro e w2 he; obtain ⟨K9, nm9, A9, n9, c9, m9, f9, rfl, hnm9, hsz9, hst9, hG9, hG9b, HA9⟩ := aft_A he hgr (Nat.le_refl _); clear he))
      all_goals
        obtain ⟨hbF, hGF, hrF, d9, ht9, hd91, hd92⟩ := HA9.out
        have hd93 : d9 ≤ d + (m : Int) := by
          have := frN_le (bs := bs.drop z) (n := m - z) (by rw [List.length_drop, HL.out])
          have := HK.out.2.2.2.2.2.2
          omega
        have hJF := HJ.out k _ _ HK.out.2.2.1 hGF ⟨d9, ht9, by have := HK.out.2.2.2.2.2.1; omega, by omega⟩
        have hTk : T[k]? = some (z, frT (bs.drop z)) := by
          have h := congrArg (fun l => l[0]?) HK.out.1
          simpa using h
        obtain ⟨fn, tmps, assign, body, hy, hR⟩ := HY.out k wr _ #[.agg (PC (z : Nat) m9 K9 nm9 (.slice A9 n9 c9)), .int .i64 f9] HK.out.2.2.1 hJF (by rw [← HTT.out]; exact hkT) ⟨z, K9, nm9, A9, n9, c9, m9, f9, by rw [← HTT.out]; exact hTk, rfl, hnm9, hrF, hGF, d9, ht9, by have := HK.out.2.2.2.2.2.1; omega, by omega⟩
        have HRR := Lib.hid hR
        have HF9 := Lib.hid (And.intro hbF (And.intro hGF (And.intro hrF (And.intro ht9 (And.intro hd91 hd92)))))
        clear hbF hGF hrF ht9 hJF hTk hR hst9 hd91 hd92
        gi_wp2_with (first | (refine wlIn_rec rfl (.tmp 5) rfl rfl HF9.out.1 hnm9 ?_) | (refine wlIn_build rfl 134 _ rfl (cs := PC (z : Nat) m9 K9 nm9 (.slice A9 n9 c9)) (by simp only [List.map_toArray, List.map_cons, List.map_nil]; exact built134 _ _ _ _ _ _ _ hnm9) ?_))
        refine (HRR.out).mono ?_
        rintro e W3 (⟨rfl, hJ3, hk3⟩ | ⟨rfl, hJx3⟩)
        · have HJ3 := Lib.hid (And.intro hJ3 hk3)
          clear hJ3 hk3
          rcases turn_next HK.out.1 HF9.out.2.2.1 with ⟨hf9, hlen⟩ | ⟨rfl, M, rfl, hM4, hMl, hTn, hfr⟩
          · have d1 : (f9 != 0) = true := by simpa using hf9
            have HLN := Lib.hid hlen
            clear hf9 hlen
            gi_wp2_with fail
            refine bodyPost_ret (results_none rfl _ _ _) rfl ?_
            exact ⟨⟨_, rfl⟩, .inl (by rw [HLN.out]; exact HJ3.out.1)⟩
          · have hMm : z + M ≤ m := by rw [List.length_drop, HL.out] at hMl; omega
            have HTn := Lib.hid hTn
            have HFR := Lib.hid hfr
            clear hMl hTn hfr
            gi_wp2_with fail
            go_roundw
            case rel =>
              obtain ⟨hbF, hGF, hrF, ht9, hd91, hd92⟩ := HF9.out
              obtain ⟨hKb, hKp⟩ := HJ3.out
              obtain ⟨q1, q2, q3⟩ := hKp
              refine ⟨z + M, hMm, by go_num, Lib.hid ⟨k + 1, d9, hkT, hKb, ?_, ?_, ?_, tblB ht9 q1 hgn, ?_, ?_, ?_, ?_, ?_⟩⟩
              · exact (World.cell?_of_block q2).trans ((World.cell?_of_block (hGF.block b1 (World.block_lt_of_cell? _ _ c1) (fun e => by injection e with e; exact hg1 e))).trans c1)
              · exact (World.cell?_of_block q3).trans ((World.cell?_of_block (hGF.block b2 (World.block_lt_of_cell? _ _ c2) (fun e => by injection e with e; exact hg2 e))).trans c2)
              · exact ((HK.out.2.2.2.2.1).keep (fun p hp hlt => World.cell?_of_block (hGF.block p.block hlt (fun e => by injection e with e; exact (HS.out _ hp).2 e))) (fun _ h _ => h)).under (fun j hj => (HS.out j hj).1) q1
              · have := HK.out.2.2.2.2.2.1; omega
              · have := HK.out.2.2.2.2.2.2; rw [HFR.out] at hd92; omega
              · rw [HTn.out]; congr 1; omega
              · have := HK.out.2.1; omega
              · have h1 := q1.size; have h2 := hGF.size; have h3 := HK.out.2.2.2.1; omega
            case measure => simp [intOf]; omega
        · have HJ3 := Lib.hid hJx3
          clear hJx3
          gi_wp2_with fail
          refine bodyPost_ret (results_none rfl _ _ _) rfl ?_
          exact ⟨⟨_, rfl⟩, .inr ⟨k + 1, by omega, by omega, HJ3.out⟩⟩
    · obtain rfl : z = m := by omega
      have hfin : ∃ k, k = T.length ∧ J k wr := by
        obtain ⟨k, d', hk, hj, -, -, -, -, -, -, hT, -⟩ := HR.out
        rw [turns_end (by rw [HL.out]; exact hlt)] at hT
        exact ⟨k, Nat.le_antisymm hk (List.drop_eq_nil_iff.1 hT), hj⟩
      have HF := Lib.hid hfin
      clear hfin
      gi_wp2_with fail
      go_end0
      obtain ⟨k, rfl, hj⟩ := HF.out
      exact ⟨⟨_, rfl⟩, .inl hj⟩
end Go.Proofs.Ytaebmhbggbpnoaa
