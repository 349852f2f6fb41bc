/- The walk of build (hayloftlaw01). Conditions: each theorem's premises. -/
import Derived.Test.YtaebmhbggbpnoaaGTlv17
import Derived.Test.YtaebmhbggbpnoaaGTlv11
import Derived.Deep.DeepCutAuto
import Derived.BigRegion
import Derived.Test.YtaebmhbggbpnoaaGTlv15
import Derived.Test.YtaebmhbggbpnoaaGPut
namespace Go.Proofs.Ytaebmhbggbpnoaa
open Go.RowKit
/-- It is kept while another row grows. -/
theorem LO.aside {w w' : World} {T : Nat → Prop} {base n : Nat} {e : TypeId} {v : Value} {l : List TV} {r r' : Option Nat} (h : LO w (fun k => T k ∧ some k ≠ r) base e v n l) (hg : w.grownBy w' r) (hne : v.ownBlock = none ∨ v.ownBlock ≠ r) (hr : r' = r ∨ r' = some w.heap.size) :
    LO w' (fun k => T k ∧ some k ≠ r') base e v n l := by
  obtain ⟨hl, hf, qs, hq, hown, hv⟩ := h
  refine ⟨hl, hf, qs, hq, hown.kept hg hne, fun i q x h1 h2 => (hv i q x h1 h2).keep (fun p hp hlt => World.cell?_of_block (hg.block p.block hlt hp.1.2)) (fun k hk hlt => ⟨⟨hk.1.1, ?_⟩, hk.2⟩)⟩
  rcases hr with e | e
  · rw [e]; exact hk.1.2
  · rw [e]; intro h; injection h with h; omega
def Diff (a b : Option Nat) : Prop := a = none ∨ a ≠ b
theorem Diff.symm {a b : Option Nat} (h : Diff a b) : Diff b a := by
  unfold Diff at *
  rcases b with _ | b
  · exact .inl rfl
  · rcases h with rfl | h
    · exact .inr (by simp)
    · exact .inr (fun e => h e.symm)
theorem NR.oldS {w : World} {S : Nat → Prop} {A : Option Addr} {n c : Nat} {l : List ND} (h : NR w S A n c l) : NR w (fun k => S k ∧ k < w.heap.size) A n c l := h.keep (fun _ _ _ => rfl) (fun _ h h' => ⟨h, h'⟩)
theorem VR.aside {w w' : World} {S : Nat → Prop} {q : Quad} {x : TV} {r : Option Nat} (h : VR w S q x) (hg : w.grownBy w' r) (hS : ∀ k, S k → k < w.heap.size → some k ≠ r) : VR w' S q x :=
  h.keep (fun p hp hlt => World.cell?_of_block (hg.block p.block hlt (hS _ hp hlt))) (fun _ h _ => h)
def BuildSaid (d : Nat) : Prop := ∀ (w : World) (S : Nat → Prop) (A : Option Addr) (n c : Nat) (l : List ND), NR w S A n c l → n ≤ 40 → (∀ x ∈ l, x.bytes.length ≤ 3000) →
    Calls Try.prog 44 #[.slice A n c, .int .i64 (d : Int)] w fun e w' => ∃ qa qb v m, e = .returned (.tuple #[qa.agg, qb.agg, .int .i64 ((m : Nat) : Int)]) ∧ VR w' (fun k => (S k ∧ k < w.heap.size) ∨ w.heap.size ≤ k) qa v ∧ VR w' (fun k => (S k ∧ k < w.heap.size) ∨ w.heap.size ≤ k) qb v ∧ m ≤ n ∧ Below w.heap.size w w'
theorem results_cct {fn : Func} {i j T U : Nat} {k : Nat} {W : World} {a b : Addr} {u v : Value} {tmps : Array Value} {P : Program} (h : fn.results = #[.cell i T, .cell j U, .tmp k]) (hi : tmps.getD i undef = .pointer (some a)) (hj : tmps.getD j undef = .pointer (some b))
    (hl : (loadVar T a).run P W = .ok u W) (hm : (loadVar U b).run P W = .ok v W) : (results fn tmps).run P W = .ok (.tuple #[u, v, tmps.getD k undef]) W := by
  simp only [Array.getD_eq_getD_getElem?] at hi hj
  simp [results, h, hi, hj, asAddr, hl, hm]
set_option maxRecDepth 10000 in
set_option maxHeartbeats 4000000 in
theorem build_out (d : Nat) (hd : d ≤ 1000000) (w : World) (S : Nat → Prop) (A : Option Addr) (n c : Nat) (hn : n ≤ 40) (h0 : n = 0 ∨ d = 0) :
    Calls Try.prog 44 #[.slice A n c, .int .i64 (d : Int)] w fun e w' => ∃ qa qb v m, e = .returned (.tuple #[qa.agg, qb.agg, .int .i64 ((m : Nat) : Int)]) ∧ VR w' (fun k => (S k ∧ k < w.heap.size) ∨ w.heap.size ≤ k) qa v ∧ VR w' (fun k => (S k ∧ k < w.heap.size) ∨ w.heap.size ≤ k) qb v ∧ m ≤ n ∧ Below w.heap.size w w' := by
  obtain ⟨W, hW⟩ : ∃ W, W = (w.alloc (.cells #[.int .i64 0, .int .u64 0, .slice none 0 0, .slice none 0 0] 27)).alloc (.cells #[.int .i64 0, .int .u64 0, .slice none 0 0, .slice none 0 0] 33) := ⟨_, rfl⟩
  have hbW : Below w.heap.size w W := by rw [hW]; exact ((Below.refl _ _).alloc (Nat.le_refl _) _).alloc (by simp) _
  have hX1 : Blk W w.heap.size 27 #[.int .i64 0, .int .u64 0, .slice none 0 0, .slice none 0 0] := by rw [hW]; exact (Blk.new w 27 _).alloc _
  have hX2 : Blk W (w.heap.size + 1) 33 #[.int .i64 0, .int .u64 0, .slice none 0 0, .slice none 0 0] := by
    rw [hW]
    have := Blk.new (w.alloc (.cells #[.int .i64 0, .int .u64 0, .slice none 0 0, .slice none 0 0] 27)) 33 #[.int .i64 0, .int .u64 0, .slice none 0 0, .slice none 0 0]
    simpa only [World.size_alloc] using this
  obtain ⟨z0, z1, z2, z3, f0, f1, f2, f3, hz⟩ := hX1.four
  obtain ⟨y0, y1, y2, y3, g0, g1, g2, g3, hy⟩ := hX2.four
  have HW := Lib.hid hW
  clear hW
  have hzero : VR W (fun k => (S k ∧ k < w.heap.size) ∨ w.heap.size ≤ k) ⟨.int .i64 0, .int .u64 ((0 : Nat) : Int), .slice none 0 0, .slice none 0 0⟩ (.mk 0 0 [] []) := VR.shut (by simp [u64ok]) (Bs.nil _ _ _) (by omega) (LR.nil _ _ _)
  by_cases hn0 : n = 0
  · subst hn0
    clear h0
    go_enter Try.func44, Try.ntmps44
    go_wp2_with fail
    have hW := HW.out
    rw [← hW]
    refine bodyPost_ret (results_cct rfl rfl rfl (load27 hX1) (load33 hX2)) rfl ?_
    exact ⟨⟨.int .i64 0, .int .u64 ((0 : Nat) : Int), .slice none 0 0, .slice none 0 0⟩, ⟨.int .i64 0, .int .u64 ((0 : Nat) : Int), .slice none 0 0, .slice none 0 0⟩, .mk 0 0 [] [], 0, rfl, hzero, hzero, by omega, hbW⟩
  · have hd0 : d = 0 := by omega
    subst hd0
    have hne : ((n : Int) == 0) = false := by simp; omega
    clear h0
    go_enter Try.func44, Try.ntmps44
    go_wp2_with fail
    have hW := HW.out
    rw [← hW]
    refine bodyPost_ret (results_cct rfl rfl rfl (load27 hX1) (load33 hX2)) rfl ?_
    exact ⟨⟨.int .i64 0, .int .u64 ((0 : Nat) : Int), .slice none 0 0, .slice none 0 0⟩, ⟨.int .i64 0, .int .u64 ((0 : Nat) : Int), .slice none 0 0, .slice none 0 0⟩, .mk 0 0 [] [], 0, rfl, hzero, hzero, by omega, hbW⟩
/-- What the loop keeps: the two boxes, the two lists that grow side by side. -/
def BInv (w W4 : World) (S : Nat → Prop) (t : Int) (m : Nat) (A2 : Option Addr) (n2 c2 k : Nat) (wr : World) : Prop := ∃ (Aa Ab : Option Addr) (ca cb : Nat) (ls : List TV),
    Blk wr (w.heap.size + 2) 27 #[.int .i64 t, .int .u64 (m : Int), .slice A2 n2 c2, .slice Aa k ca] ∧ Blk wr (w.heap.size + 3) 33 #[.int .i64 t, .int .u64 (m : Int), .slice A2 n2 c2, .slice Ab k cb] ∧
    LO wr (fun j => ((S j ∧ j < w.heap.size) ∨ w.heap.size + 4 ≤ j) ∧ some j ≠ (Value.slice Ab k cb).ownBlock) (w.heap.size + 4) 27 (.slice Aa k ca) k ls ∧
    LO wr (fun j => ((S j ∧ j < w.heap.size) ∨ w.heap.size + 4 ≤ j) ∧ some j ≠ (Value.slice Aa k ca).ownBlock) (w.heap.size + 4) 33 (.slice Ab k cb) k ls ∧
    Diff (Value.slice Aa k ca).ownBlock (Value.slice Ab k cb).ownBlock ∧ Below (w.heap.size + 2) W4 wr
/-- The world behind the last statement: both boxes are copied. -/
def finW (w wr : World) (y : ND) (A2 : Option Addr) (n2 c2 : Nat) (Aa : Option Addr) (ka ca : Nat) (Ab : Option Addr) (kb cb : Nat) : World :=
  ((((((((wr.setCell ⟨w.heap.size, 0, none⟩ (.int .i64 y.tag)).setCell ⟨w.heap.size, 1, none⟩ (.int .u64 (y.num : Int))).setCell ⟨w.heap.size, 2, none⟩ (.slice A2 n2 c2)).setCell ⟨w.heap.size, 3, none⟩ (.slice Aa ka ca)).setCell ⟨w.heap.size + 1, 0, none⟩ (.int .i64 y.tag)).setCell ⟨w.heap.size + 1, 1, none⟩ (.int .u64 (y.num : Int))).setCell ⟨w.heap.size + 1, 2, none⟩ (.slice A2 n2 c2)).setCell ⟨w.heap.size + 1, 3, none⟩ (.slice Ab kb cb)).drew
theorem build_fin {w wr : World} {S T : Nat → Prop} {y : ND} {A2 Aa Ab : Option Addr} {n2 c2 k ca cb : Nat} {ls : List TV} (hbw : Below w.heap.size w wr) (h27 : Blk wr w.heap.size 27 #[.int .i64 0, .int .u64 0, .slice none 0 0, .slice none 0 0]) (h33 : Blk wr (w.heap.size + 1) 33 #[.int .i64 0, .int .u64 0, .slice none 0 0, .slice none 0 0])
    (hu : u64ok y.num) (hbs : Bs w (fun j => S j ∧ j < w.heap.size) A2 n2 c2 y.bytes) (hn2 : n2 ≤ 1000000000) (hT : ∀ j, T j → (S j ∧ j < w.heap.size) ∨ w.heap.size + 4 ≤ j) (hLa : LR wr T Aa k ca ls) (hLb : LR wr T Ab k cb ls) :
    Blk (finW w wr y A2 n2 c2 Aa k ca Ab k cb) w.heap.size 27 #[.int .i64 y.tag, .int .u64 (y.num : Int), .slice A2 n2 c2, .slice Aa k ca] ∧ Blk (finW w wr y A2 n2 c2 Aa k ca Ab k cb) (w.heap.size + 1) 33 #[.int .i64 y.tag, .int .u64 (y.num : Int), .slice A2 n2 c2, .slice Ab k cb] ∧
    VR (finW w wr y A2 n2 c2 Aa k ca Ab k cb) (fun j => (S j ∧ j < w.heap.size) ∨ w.heap.size ≤ j) ⟨.int .i64 y.tag, .int .u64 (y.num : Int), .slice A2 n2 c2, .slice Aa k ca⟩ (.mk y.tag y.num y.bytes ls) ∧
    VR (finW w wr y A2 n2 c2 Aa k ca Ab k cb) (fun j => (S j ∧ j < w.heap.size) ∨ w.heap.size ≤ j) ⟨.int .i64 y.tag, .int .u64 (y.num : Int), .slice A2 n2 c2, .slice Ab k cb⟩ (.mk y.tag y.num y.bytes ls) ∧ Below w.heap.size w (finW w wr y A2 n2 c2 Aa k ca Ab k cb) := by
  have hk : ∀ p : Addr, ((S p.block ∧ p.block < w.heap.size) ∨ w.heap.size + 4 ≤ p.block) → (finW w wr y A2 n2 c2 Aa k ca Ab k cb).cell? p = wr.cell? p := fun p hp => by
    have h1 : p.block ≠ w.heap.size := by omega
    have h2 : p.block ≠ w.heap.size + 1 := by omega
    unfold finW
    rw [World.cell?_drew, set4_other _ _ _ _ _ _ p h2, set4_other _ _ _ _ _ _ p h1]
  have hB := hbs.under (fun j h => h.2) hbw
  have hS : ∀ j, ((S j ∧ j < w.heap.size) ∨ w.heap.size + 4 ≤ j) → ((S j ∧ j < w.heap.size) ∨ w.heap.size ≤ j) := fun j h => h.elim .inl (fun h => .inr (by omega))
  have v1 : VR (finW w wr y A2 n2 c2 Aa k ca Ab k cb) (fun j => (S j ∧ j < w.heap.size) ∨ w.heap.size ≤ j) ⟨.int .i64 y.tag, .int .u64 (y.num : Int), .slice A2 n2 c2, .slice Aa k ca⟩ (.mk y.tag y.num y.bytes ls) :=
    VR.shut hu (hB.keep (fun p hp _ => hk p (.inl hp)) (fun j hj _ => .inl hj)) hn2 (hLa.keep (fun p hp _ => hk p (hT _ hp)) (fun j hj _ => hS _ (hT _ hj)))
  have v2 : VR (finW w wr y A2 n2 c2 Aa k ca Ab k cb) (fun j => (S j ∧ j < w.heap.size) ∨ w.heap.size ≤ j) ⟨.int .i64 y.tag, .int .u64 (y.num : Int), .slice A2 n2 c2, .slice Ab k cb⟩ (.mk y.tag y.num y.bytes ls) :=
    VR.shut hu (hB.keep (fun p hp _ => hk p (.inl hp)) (fun j hj _ => .inl hj)) hn2 (hLb.keep (fun p hp _ => hk p (hT _ hp)) (fun j hj _ => hS _ (hT _ hj)))
  refine ⟨?_, ?_, v1, v2, ?_⟩
  · unfold finW
    have := set4_blk h27 (.int .i64 y.tag) (.int .u64 (y.num : Int)) (.slice A2 n2 c2) (.slice Aa k ca)
    exact ((((this.far (p := ⟨w.heap.size + 1, 0, none⟩) (by simp) _).far (p := ⟨w.heap.size + 1, 1, none⟩) (by simp) _).far (p := ⟨w.heap.size + 1, 2, none⟩) (by simp) _).far (p := ⟨w.heap.size + 1, 3, none⟩) (by simp) _).drew
  · unfold finW
    have h := ((((h33.far (p := ⟨w.heap.size, 0, none⟩) (by simp) (.int .i64 y.tag)).far (p := ⟨w.heap.size, 1, none⟩) (by simp) (.int .u64 (y.num : Int))).far (p := ⟨w.heap.size, 2, none⟩) (by simp) (.slice A2 n2 c2)).far (p := ⟨w.heap.size, 3, none⟩) (by simp) (.slice Aa k ca))
    exact (set4_blk h (.int .i64 y.tag) (.int .u64 (y.num : Int)) (.slice A2 n2 c2) (.slice Ab k cb)).drew
  · unfold finW
    exact (set4_below (set4_below hbw w.heap.size (Nat.le_refl _) _ _ _ _) (w.heap.size + 1) (by omega) _ _ _ _).drew
/-- One list grows, the other one stands. -/
theorem two_grow {W5 w7 : World} {T : Nat → Prop} {base na nb : Nat} {ea eb e' : TypeId} {va va' vb : Value} {la lb : List TV} {q : Quad} {x : TV} {qs : List Quad}
    (hA : LO W5 (fun j => T j ∧ some j ≠ vb.ownBlock) base ea va na la) (hB : LO W5 (fun j => T j ∧ some j ≠ va.ownBlock) base eb vb nb lb) (hD : Diff va.ownBlock vb.ownBlock) (hf : na + 1 ≤ 1000000000)
    (hq : qs.length = la.length) (hv : ∀ (i : Nat) (p : Quad) (y : TV), qs[i]? = some p → la[i]? = some y → VR (W5.alloc (.cells #[q.a, q.b, q.c, q.d] e')) (fun k => (T k ∧ some k ≠ vb.ownBlock) ∧ some k ≠ va.ownBlock) p y)
    (hx : VR (W5.alloc (.cells #[q.a, q.b, q.c, q.d] e')) (fun k => (T k ∧ some k ≠ vb.ownBlock) ∧ some k ≠ va.ownBlock) q x)
    (hown : w7.ownsRow base ea 4 va' (na + 1) (flat qs ++ flat [q])) (hg : (W5.alloc (.cells #[q.a, q.b, q.c, q.d] e')).grownBy w7 va.ownBlock) (hat : va'.ownBlock = va.ownBlock ∨ va'.ownBlock = some (W5.alloc (.cells #[q.a, q.b, q.c, q.d] e')).heap.size) :
    LO w7 (fun j => T j ∧ some j ≠ vb.ownBlock) base ea va' (na + 1) (la ++ [x]) ∧ LO w7 (fun j => T j ∧ some j ≠ va'.ownBlock) base eb vb nb lb ∧ Diff va'.ownBlock vb.ownBlock := by
  refine ⟨LO.snoc hq hA.len hf hown hg hat hv hx, (hB.after ((Below.refl _ _).alloc (Nat.le_refl _) _)).aside hg hD.symm hat, ?_⟩
  rcases hat with h | h
  · rw [h]; exact hD
  · right
    rw [h]
    intro e
    obtain ⟨_, _, _, _, ho, _⟩ := hB
    have := (ho.lt _ e.symm).2
    simp at this
    omega
theorem LO.base_lt {w : World} {T : Nat → Prop} {base n : Nat} {e : TypeId} {v : Value} {l : List TV} (h : LO w T base e v n l) : ∀ k, v.ownBlock = some k → base ≤ k ∧ k < w.heap.size := by
  obtain ⟨_, _, _, _, ho, _⟩ := h
  exact fun k hk => ho.lt k hk
theorem vr_aside {W5 w6 : World} {T : Nat → Prop} {va va' vb : Value} {q : Quad} {x : TV} {o : Obj} {ga : Nat} (hx : VR W5 (fun j => (T j ∧ some j ≠ vb.ownBlock) ∧ some j ≠ va.ownBlock) q x) (hg : (W5.alloc o).grownBy w6 va.ownBlock)
    (hat : va'.ownBlock = va.ownBlock ∨ va'.ownBlock = some (W5.alloc o).heap.size) (hT : ∀ j, T j → j ≠ ga) (i : Nat) (u : Value) : VR (w6.setCell ⟨ga, i, none⟩ u) (fun j => (T j ∧ some j ≠ va'.ownBlock) ∧ some j ≠ vb.ownBlock) q x :=
  hx.keep (fun p hp hlt => by
    rw [World.cell?_setCell_other _ _ _ _ (fun e => hT _ hp.1.1 (by rw [← e])), World.cell?_of_block (hg.block p.block (by simp; omega) hp.2), World.cell?_alloc_lt _ _ _ hlt]) (fun j hj hlt => ⟨⟨hj.1.1, by
    rcases hat with h | h
    · rw [h]; exact hj.2
    · rw [h]; intro e; injection e with e; simp at e; omega⟩, hj.1.2⟩)
theorem LO.store {w : World} {T : Nat → Prop} {base n : Nat} {e : TypeId} {v vb : Value} {l : List TV} {ga : Nat} (h : LO w (fun j => T j ∧ some j ≠ vb.ownBlock) base e v n l) (hT : ∀ j, T j → j ≠ ga) (hb : ga < base) (i : Nat) (u : Value) : LO (w.setCell ⟨ga, i, none⟩ u) (fun j => T j ∧ some j ≠ vb.ownBlock) base e v n l :=
  h.setCell (p := ⟨ga, i, none⟩) (fun e => by have := (h.base_lt _ e).1; dsimp only at this; omega) (fun k hk => hT k hk.1) u
theorem in_both {S : Nat → Prop} {B R j : Nat} {va vb : Value} (ha : ∀ k, va.ownBlock = some k → B + 4 ≤ k ∧ k < R) (hb : ∀ k, vb.ownBlock = some k → B + 4 ≤ k ∧ k < R) (hR : B + 4 ≤ R) (hj : ((S j ∧ j < B) ∧ j < R) ∨ R ≤ j) :
    (((S j ∧ j < B) ∨ B + 4 ≤ j) ∧ some j ≠ vb.ownBlock) ∧ some j ≠ va.ownBlock := by
  rcases hj with hj | hj
  · exact ⟨⟨.inl hj.1, fun e => by have := (hb _ e.symm).1; omega⟩, fun e => by have := (ha _ e.symm).1; omega⟩
  · exact ⟨⟨.inr (by omega), fun e => by have := (hb _ e.symm).2; omega⟩, fun e => by have := (ha _ e.symm).2; omega⟩
theorem BInv.after {w W4 wr w' : World} {S : Nat → Prop} {t : Int} {m : Nat} {A2 : Option Addr} {n2 c2 k : Nat} (h : BInv w W4 S t m A2 n2 c2 k wr) (hb : Below wr.heap.size wr w') : BInv w W4 S t m A2 n2 c2 k w' := by
  obtain ⟨Aa, Ab, ca, cb, ls, h1, h2, h3, h4, h5, h6⟩ := h
  exact ⟨Aa, Ab, ca, cb, ls, h1.after hb, h2.after hb, h3.after hb, h4.after hb, h5, h6.trans (hb.mono (Nat.le_of_lt (Nat.lt_of_lt_of_le (by omega) h1.lt)))⟩
end Go.Proofs.Ytaebmhbggbpnoaa
namespace Go.Proofs.Ytaebmhbggbpnoaa
open Go.RowKit
set_option maxRecDepth 10000 in
set_option maxHeartbeats 8000000 in
theorem build_in (d : Nat) (hd : d ≤ 1000000) (ih : BuildSaid d) (w : World) (S : Nat → Prop) (A : Option Addr) (n c : Nat) (l : List ND) (h : NR w S A n c l) (hn : n ≤ 40) (hsh : ∀ x ∈ l, x.bytes.length ≤ 3000) (hpos : 0 < n) :
    Calls Try.prog 44 #[.slice A n c, .int .i64 ((d + 1 : Nat) : Int)] w fun e w' => ∃ qa qb v m, e = .returned (.tuple #[qa.agg, qb.agg, .int .i64 ((m : Nat) : Int)]) ∧ VR w' (fun k => (S k ∧ k < w.heap.size) ∨ w.heap.size ≤ k) qa v ∧ VR w' (fun k => (S k ∧ k < w.heap.size) ∨ w.heap.size ≤ k) qb v ∧ m ≤ n ∧ Below w.heap.size w w' := by
  have IH := Lib.hid ih
  have HSH := Lib.hid hsh
  obtain ⟨W, hW⟩ : ∃ W, W = (w.alloc (.cells #[.int .i64 0, .int .u64 0, .slice none 0 0, .slice none 0 0] 27)).alloc (.cells #[.int .i64 0, .int .u64 0, .slice none 0 0, .slice none 0 0] 33) := ⟨_, rfl⟩
  have hbW : Below w.heap.size w W := by rw [hW]; exact ((Below.refl _ _).alloc (Nat.le_refl _) _).alloc (by simp) _
  have hsz : W.heap.size = w.heap.size + 2 := by rw [hW]; simp
  have hX1 : Blk W w.heap.size 27 #[.int .i64 0, .int .u64 0, .slice none 0 0, .slice none 0 0] := by rw [hW]; exact (Blk.new w 27 _).alloc _
  have hX2 : Blk W (w.heap.size + 1) 33 #[.int .i64 0, .int .u64 0, .slice none 0 0, .slice none 0 0] := by
    rw [hW]
    have := Blk.new (w.alloc (.cells #[.int .i64 0, .int .u64 0, .slice none 0 0, .slice none 0 0] 27)) 33 #[.int .i64 0, .int .u64 0, .slice none 0 0, .slice none 0 0]
    simpa only [World.size_alloc] using this
  have D0 : (((d + 1 : Nat) : Int) == 0) = false := by simp; omega
  have D1 : ((d + 1 : Nat) : Int) - 1 = (d : Int) := by omega
  have D2 : ((d + 1 : Nat) : Int) ≤ 1000001 := by omega
  have D3 : (0 : Int) ≤ ((d + 1 : Nat) : Int) := by omega
  generalize ((d + 1 : Nat) : Int) = dd at *
  have N0 : ((n : Int) == 0) = false := by simp; omega
  have hpos' : (0 : Int) < (n : Int) := by omega
  obtain ⟨ad, px, A2, n2, c2, y, rfl, hpx, hy, hu, hm, hbs, hn2, x0, x1, x2, x3⟩ := h.at_ (k := 0) hpos
  obtain rfl : px = ad := by rw [← hpx]; simp [Addr.add]
  have hplw := World.block_lt_of_cell? w _ x0
  have y0 := (hbW.cell hplw).trans x0
  have y1 := (hbW.cell (p := ⟨px.block, px.off + 1, none⟩) hplw).trans x1
  have y2 := (hbW.cell (p := ⟨px.block, px.off + 2, none⟩) hplw).trans x2
  have y3 := (hbW.cell (p := ⟨px.block, px.off + 3, none⟩) hplw).trans x3
  have hy2 : n2 ≤ 3000 := by rw [← hbs.len]; exact HSH.out y (List.mem_of_getElem? hy.out)
  have hHX1 := Lib.hid hX1
  have hHX2 := Lib.hid hX2
  have HW := Lib.hid hW
  clear ih hW hX1 hX2
  go_enter Try.func44, Try.ntmps44
  go_wp2_with fail
  have hW := HW.out
  rw [← hW]
  clear hW HW
  have hpl := World.block_lt_of_cell? W _ y0
  have p0 : ∀ o, (W.alloc o).cell? px = some (.int .i64 y.tag) := fun o => (World.cell?_alloc_lt _ _ _ hpl).trans y0
  have p2 : ∀ o, (W.alloc o).cell? ⟨px.block, px.off + 2, none⟩ = some (.int .u64 (y.num : Int)) := fun o => (World.cell?_alloc_lt W o ⟨px.block, px.off + 2, none⟩ hpl).trans y2
  have p3 : ∀ o, (W.alloc o).cell? ⟨px.block, px.off + 3, none⟩ = some (.slice A2 n2 c2) := fun o => (World.cell?_alloc_lt W o ⟨px.block, px.off + 3, none⟩ hpl).trans y3
  go_region
  go_wp2_with fail
  obtain ⟨W3, hW3⟩ : ∃ W3, W3 = (W.alloc (.cells #[.int .i64 y.tag, .int .u64 (y.num : Int), .slice A2 n2 c2, .slice none 0 0] 27)).drew := ⟨_, rfl⟩
  have hb3 : Below W.heap.size W W3 := by rw [hW3]; exact ((Below.refl _ _).alloc (Nat.le_refl _) _).drew
  have hs3 : W3.heap.size = w.heap.size + 3 := by rw [hW3]; simp; omega
  have hBa3 : Blk W3 (w.heap.size + 2) 27 #[.int .i64 y.tag, .int .u64 (y.num : Int), .slice A2 n2 c2, .slice none 0 0] := by rw [hW3, ← hsz]; exact (Blk.new W 27 _).drew
  rw [← hW3]
  have q0 := (hb3.cell hpl).trans y0
  have q1 := (hb3.cell (p := ⟨px.block, px.off + 1, none⟩) hpl).trans y1
  have q2 := (hb3.cell (p := ⟨px.block, px.off + 2, none⟩) hpl).trans y2
  have q3 := (hb3.cell (p := ⟨px.block, px.off + 3, none⟩) hpl).trans y3
  have hpl3 := World.block_lt_of_cell? W3 _ q0
  have p0' : ∀ o, (W3.alloc o).cell? px = some (.int .i64 y.tag) := fun o => (World.cell?_alloc_lt _ _ _ hpl3).trans q0
  have p2' : ∀ o, (W3.alloc o).cell? ⟨px.block, px.off + 2, none⟩ = some (.int .u64 (y.num : Int)) := fun o => (World.cell?_alloc_lt W3 o ⟨px.block, px.off + 2, none⟩ hpl3).trans q2
  have p3' : ∀ o, (W3.alloc o).cell? ⟨px.block, px.off + 3, none⟩ = some (.slice A2 n2 c2) := fun o => (World.cell?_alloc_lt W3 o ⟨px.block, px.off + 3, none⟩ hpl3).trans q3
  clear p0 p2 p3 hW3
  go_cut [8] (fun s8 wx => s8 = .pointer (some ⟨w.heap.size + 3, 0, none⟩) ∧ Hid (Below W3.heap.size W3 wx ∧ wx.heap.size = w.heap.size + 4 ∧ Blk wx (w.heap.size + 3) 33 #[.int .i64 y.tag, .int .u64 (y.num : Int), .slice A2 n2 c2, .slice none 0 0]))
  case first =>
    go_region
    go_wp2_with fail
    go_meet
    refine ⟨rfl, Lib.hid ⟨((Below.refl _ _).alloc (Nat.le_refl _) _).drew, by simp; omega, ?_⟩⟩
    rw [← hs3]; exact (Blk.new W3 33 _).drew
  obtain ⟨rfl, hcc⟩ := hcut
  rename World => W4
  have hb4 := hcc.out.1
  have hs4 := hcc.out.2.1
  have hBb4 := hcc.out.2.2
  have hBa4 := hBa3.after hb4
  have hb24 : Below W.heap.size W W4 := hb3.trans (hb4.mono hb3.size)
  have hbl4 : Below w.heap.size w W4 := hbW.trans (hb24.mono hbW.size)
  clear p0' p2' p3' q0 q1 q2 q3 hb3 hb4 hBa3 hcc
  have HNR := Lib.hid h.oldS
  have HBS := Lib.hid (And.intro hu (hbs.oldS))
  clear h hbs y0 y1 y2 y3 x0 x2 x3 hsh hpl hpl3
  go_wp2_with fail
  have hst : BInv w W4 S y.tag y.num A2 n2 c2 0 W4 := ⟨none, none, 0, 0, [], hBa4, hBb4, LO.nil _ _ _ _, LO.nil _ _ _ _, .inl rfl, Below.refl _ _⟩
  have HST := Lib.hid hst
  clear hst hBa4 hBb4
  go_loopw [9, 10] (fun av iv wr => ∃ a i k : Nat, 1 ≤ a ∧ a ≤ n ∧ i + 1 ≤ a ∧ k + 1 ≤ a ∧ av = .int .i64 (a : Int) ∧ iv = .int .i64 (i : Int) ∧ Hid (BInv w W4 S y.tag y.num A2 n2 c2 k wr)) (fun av _ _ => n - (intOf av).toNat)
  case atStart => exact ⟨1, 0, 0, by omega, by omega, by omega, by omega, rfl, rfl, HST⟩
  case round =>
    obtain ⟨a, i, k, ha1, han, hia, hka, rfl, rfl, HI⟩ := hrel
    clear HST
    have hbr : Below (w.heap.size + 2) W4 wr := by obtain ⟨_, _, _, _, _, _, _, _, _, _, h⟩ := HI.out; exact h
    have hbw : Below w.heap.size w wr := hbl4.trans (hbr.mono (by omega))
    have hsr : w.heap.size + 4 ≤ wr.heap.size := by have := hbr.size; omega
    have r1 : wr.cell? ⟨px.block, px.off + 1, none⟩ = some (.int .i64 y.many) := (hbw.cell (p := ⟨px.block, px.off + 1, none⟩) hplw).trans x1
    have HBR := Lib.hid hbr
    clear hs3 hs4 hbr
    by_cases h1 : (i : Int) < y.many
    · by_cases h2 : a < n
      · have h2' : (a : Int) < (n : Int) := by omega
        obtain ⟨A', c', hsl, hNs⟩ := HNR.out.from_ (a : Int) a (n - a) rfl (by omega)
        have HC := Lib.hid (IH.out wr _ A' (n - a) c' (l.drop a) (hNs.after hbw) (by omega) (fun x hx => HSH.out x (List.mem_of_mem_drop hx)))
        clear hNs
        go_wp2_with fail
        refine (HC.out).mono ?_
        rintro e w1 ⟨qa, qb, v, m, rfl, hva, hvb, hmn, hb1⟩
        obtain ⟨t1, m1, bb1, ll1, E2, E3, e2, f2, e3, f3, rfl, hvv1, -⟩ := hva.opens
        obtain ⟨t2, m2, bb2, ll2, G2, G3, g2, k2, g3, k3, rfl, hvv2, -⟩ := hvb.opens
        dsimp only [Quad.agg]
        obtain ⟨W5, hW5⟩ : ∃ W5, W5 = (w1.alloc (.cells #[.int .i64 t1, .int .u64 (m1 : Int), .slice E2 e2 f2, .slice E3 e3 f3] 27)).alloc (.cells #[.int .i64 t2, .int .u64 (m2 : Int), .slice G2 g2 k2, .slice G3 g3 k3] 33) := ⟨_, rfl⟩
        have hb5 : Below wr.heap.size wr W5 := by rw [hW5]; exact (hb1.alloc hb1.size _).alloc (by have := hb1.size; simp; omega) _
        have hb15 : Below w1.heap.size w1 W5 := by rw [hW5]; exact ((Below.refl _ _).alloc (Nat.le_refl _) _).alloc (by simp) _
        have hX5 : Blk W5 w1.heap.size 27 #[.int .i64 t1, .int .u64 (m1 : Int), .slice E2 e2 f2, .slice E3 e3 f3] := by rw [hW5]; exact (Blk.new w1 27 _).alloc _
        have hY5 : Blk W5 (w1.heap.size + 1) 33 #[.int .i64 t2, .int .u64 (m2 : Int), .slice G2 g2 k2, .slice G3 g3 k3] := by
          rw [hW5]
          have := Blk.new (w1.alloc (.cells #[.int .i64 t1, .int .u64 (m1 : Int), .slice E2 e2 f2, .slice E3 e3 f3] 27)) 33 #[.int .i64 t2, .int .u64 (m2 : Int), .slice G2 g2 k2, .slice G3 g3 k3]
          simpa only [World.size_alloc] using this
        have HV := Lib.hid (And.intro (hva.after hb15) (And.intro (hvb.after hb15) (And.intro hvv1 hvv2)))
        have HI5 := Lib.hid (HI.out.after hb5)
        have HX5 := Lib.hid hX5
        have HY5 := Lib.hid hY5
        have HB5 := Lib.hid hb5
        have HW5 := Lib.hid hW5
        have hs1 := hb1.size
        have HI0 := HI
        clear hva hvb hb1 hvv1 hvv2 hX5 hY5 hb5 hb15 hW5 HI HC
        have HI := HI5
        clear HI5
        by_cases hm0 : m = 0
        · have m0 : ((m : Int) == 0) = true := by simp [hm0]
          clear hm0
          obtain ⟨Ya, Yb, ya, yb, ms, yBa, yBb, yLa, yLb, -, ybr⟩ := HI.out
          have HYa := Lib.hid yLa
          have HYb := Lib.hid yLb
          obtain ⟨za0, za1, za2, za3, fa0, fa1, fa2, fa3, hza⟩ := yBa.four
          obtain ⟨zb0, zb1, zb2, zb3, fb0, fb1, fb2, fb3, hzb⟩ := yBb.four
          have HO1 := Lib.hid ((hHX1.out.below hb24 (by omega)).below ybr (by omega))
          have HO2 := Lib.hid ((hHX2.out.below hb24 (by omega)).below ybr (by omega))
          obtain ⟨g0, g1, g2, g3, e0, e1, e2, e3, hg⟩ := HO1.out.four
          obtain ⟨k0, k1, k2, k3, d0, d1, d2, d3, hk⟩ := HO2.out.four
          have HBW := Lib.hid (hbw.trans (HB5.out.mono (by omega)))
          clear yLa yLb yBa yBb ybr
          go_wp2_with fail
          rw [← HW5.out]
          clear HW5
          go_region
          go_wp2_with fail
          obtain ⟨f1, f2, f3, f4, f5⟩ := build_fin (S := S) (T := fun j => (S j ∧ j < w.heap.size) ∨ w.heap.size + 4 ≤ j) HBW.out HO1.out HO2.out HBS.out.1 HBS.out.2 (by omega) (fun j h => h) (HYa.out.reads.keep (fun _ _ _ => rfl) (fun j hj _ => by rcases hj with hj | hj; exact hj.1; exact .inr hj)) (HYb.out.reads.keep (fun _ _ _ => rfl) (fun j hj _ => by rcases hj with hj | hj; exact hj.1; exact .inr hj))
          refine bodyPost_ret (results_cct rfl rfl rfl (load27 f1) (load33 f2)) rfl ?_
          exact ⟨⟨.int .i64 y.tag, .int .u64 (y.num : Int), .slice A2 n2 c2, .slice Ya k ya⟩, ⟨.int .i64 y.tag, .int .u64 (y.num : Int), .slice A2 n2 c2, .slice Yb k yb⟩, _, a, rfl, f3, f4, han, f5⟩
        · have m0 : ((m : Int) == 0) = false := by simp [hm0]
          have hm1 : 1 ≤ m := by omega
          clear hm0
          obtain ⟨Ya, Yb, ya, yb, ms, yBa, yBb, yLa, yLb, yD, ybr⟩ := HI0.out
          clear HI HI0
          have hla := yLa.base_lt
          have hlb := yLb.base_lt
          have yBa := yBa.after HB5.out
          have yBb := yBb.after HB5.out
          have yLa := yLa.after HB5.out
          have yLb := yLb.after HB5.out
          have ybr := ybr.trans (HB5.out.mono (by omega))
          have hkl := yLa.len
          have HVQ := Lib.hid (And.intro (HV.out.1.keep (w' := W5) (S' := fun j => (((S j ∧ j < w.heap.size) ∨ w.heap.size + 4 ≤ j) ∧ some j ≠ (Value.slice Yb k yb).ownBlock) ∧ some j ≠ (Value.slice Ya k ya).ownBlock) (fun _ _ _ => rfl) (fun j hj _ => in_both hla hlb hsr hj)) (HV.out.2.1.keep (w' := W5) (S' := fun j => (((S j ∧ j < w.heap.size) ∨ w.heap.size + 4 ≤ j) ∧ some j ≠ (Value.slice Yb k yb).ownBlock) ∧ some j ≠ (Value.slice Ya k ya).ownBlock) (fun _ _ _ => rfl) (fun j hj _ => in_both hla hlb hsr hj)))
          obtain ⟨qs, hq, hown, hch, hvn, hrn⟩ := yLa.ready (e' := 27) (Below.refl _ W5) HVQ.out.1 (fun j hj _ => hj)
          obtain ⟨i0, hi0, hj0, hj1, hj2⟩ := info_parts Try.info27
          obtain ⟨za0, za1, za2, za3, fa0, fa1, fa2, fa3, hza⟩ := yBa.four
          obtain ⟨x0, x1', x2, x3, fx0, fx1, fx2, fx3, hzx⟩ := HX5.out.four
          have HA := Lib.hid (And.intro yLa (And.intro yLb (And.intro yD (And.intro ybr (And.intro yBa (And.intro yBb (And.intro hq (And.intro hch hvn))))))))
          have HLB := Lib.hid (And.intro hla hlb)
          clear yLa yLb yD ybr yBa yBb hla hlb hq hch
          have hsz5 : wr.heap.size ≤ W5.heap.size := HB5.out.size
          have e1 : ¬ W5.heap.size = w.heap.size + 2 := by omega
          have hkn : k + 1 ≤ 1000000000 := by omega
          go_upto_region 11 with (fail)
          rw [← HW5.out]
          clear HW5
          go_upto_region 12 with (at_builtin; go_must (refine wpList_append_any _ rfl (.tmp 76) (.tmp 78) 25 rfl (w.heap.size + 4) 27 i0 _ 4 64 Try.underlying25 hi0 hj0 hj1 hj2 rfl (by omega) (.slice Ya k ya) k (flat qs) rfl hown AnyB _ 1 1 (flat [⟨.int .i64 t1, .int .u64 (m1 : Int), .slice E2 e2 f2, .slice E3 e3 f3⟩]) rfl hrn hvn.cells_one' (by simp only [maxLen]; omega) (by omega) (by simp; omega) ?_); intro v6 w6 hown6 hg6 hat6; obtain ⟨Pa, pa, rfl, hpa⟩ := own_shape hown6; have hB6 := (HA.out.2.2.2.2.1.alloc (.cells #[.int .i64 t1, .int .u64 (m1 : Int), .slice E2 e2 f2, .slice E3 e3 f3] 27)).grown hg6 (fun e => by have := (HLB.out.1 _ e.symm).1; omega); obtain ⟨k0, k1', k2', k3', l0, l1, l2, l3, hz6⟩ := hB6.four)
          have hT2 : ∀ j, ((S j ∧ j < w.heap.size) ∨ w.heap.size + 4 ≤ j) → j ≠ w.heap.size + 2 := fun j hj => by rcases hj with hj | hj <;> omega
          have hT3 : ∀ j, ((S j ∧ j < w.heap.size) ∨ w.heap.size + 4 ≤ j) → j ≠ w.heap.size + 3 := fun j hj => by rcases hj with hj | hj <;> omega
          obtain ⟨nLa, nLb, nD⟩ := two_grow HA.out.1 HA.out.2.1 HA.out.2.2.1 hkn HA.out.2.2.2.2.2.2.1 HA.out.2.2.2.2.2.2.2.1 HA.out.2.2.2.2.2.2.2.2 hown6 hg6 hat6
          have nVb := vr_aside (ga := w.heap.size + 2) HVQ.out.2 hg6 hat6 hT2 3 (.slice Pa (k + 1) pa)
          have nBb : Blk (w6.setCell ⟨w.heap.size + 2, 3, none⟩ (.slice Pa (k + 1) pa)) (w.heap.size + 3) 33 #[.int .i64 y.tag, .int .u64 (y.num : Int), .slice A2 n2 c2, .slice Yb k yb] := ((HA.out.2.2.2.2.2.1.alloc _).grown hg6 (fun e => by have := (HLB.out.1 _ e.symm).1; omega)).far (p := ⟨w.heap.size + 2, 3, none⟩) (by simp) _
          have nBa : Blk (w6.setCell ⟨w.heap.size + 2, 3, none⟩ (.slice Pa (k + 1) pa)) (w.heap.size + 2) 27 #[.int .i64 y.tag, .int .u64 (y.num : Int), .slice A2 n2 c2, .slice Pa (k + 1) pa] := by simpa using hB6.set_ 3 (.slice Pa (k + 1) pa)
          have nY : Blk (w6.setCell ⟨w.heap.size + 2, 3, none⟩ (.slice Pa (k + 1) pa)) (w1.heap.size + 1) 33 #[.int .i64 t2, .int .u64 (m2 : Int), .slice G2 g2 k2, .slice G3 g3 k3] := ((HY5.out.alloc _).grown hg6 (fun e => by have := (HLB.out.1 _ e.symm).2; omega)).far (p := ⟨w.heap.size + 2, 3, none⟩) (by simp; omega) _
          have nbr : Below (w.heap.size + 2) W4 (w6.setCell ⟨w.heap.size + 2, 3, none⟩ (.slice Pa (k + 1) pa)) := ((HA.out.2.2.2.1.alloc (by omega) _).grown hg6 (by simp; omega) (fun j e => by have := (HLB.out.1 _ e).1; omega)).setCell (p := ⟨w.heap.size + 2, 3, none⟩) (Nat.le_refl _) _
          have hsz7 : W5.heap.size < (w6.setCell ⟨w.heap.size + 2, 3, none⟩ (.slice Pa (k + 1) pa)).heap.size := by have := hg6.size; simp at this ⊢; omega
          have HLa := Lib.hid (nLa.store hT2 (by omega) 3 (.slice Pa (k + 1) pa))
          have HLb := Lib.hid (nLb.store hT2 (by omega) 3 (.slice Pa (k + 1) pa))
          clear nLa nLb hB6 hown6 hg6 hat6 k0 k1' k2' k3' l0 l1 l2 l3 hz6 za0 za1 za2 za3 fa0 fa1 fa2 fa3 hza x0 x1' x2 x3 fx0 fx1 fx2 fx3 hzx hown hrn hvn
          obtain ⟨W7, hW7⟩ : ∃ W7, W7 = w6.setCell ⟨w.heap.size + 2, 3, none⟩ (.slice Pa (k + 1) pa) := ⟨_, rfl⟩
          rw [← hW7] at HLa HLb nVb nBb nBa nY nbr hsz7 ⊢
          clear hW7
          obtain ⟨rs, hq', hown', hch', hvn', hrn'⟩ := HLb.out.ready (e' := 33) (Below.refl _ W7) nVb (fun j hj _ => hj)
          obtain ⟨i1, hi1, hj3, hj4, hj5⟩ := info_parts Try.info33
          have HLB7 := Lib.hid (And.intro HLa.out.base_lt HLb.out.base_lt)
          have HA7 := Lib.hid (And.intro nD (And.intro nbr (And.intro nBa (And.intro nBb (And.intro hq' (And.intro hch' hvn'))))))
          obtain ⟨zb0, zb1, zb2, zb3, fb0, fb1, fb2, fb3, hzb⟩ := nBb.four
          obtain ⟨x0, x1', x2, x3, fx0, fx1, fx2, fx3, hzx⟩ := nY.four
          clear nD nbr nBa nBb nY hq' hch' nVb
          have e2' : ¬ W7.heap.size = w.heap.size + 3 := by omega
          go_upto_region 13 with (at_builtin; go_must (refine wpList_append_any _ rfl (.tmp 82) (.tmp 84) 31 rfl (w.heap.size + 4) 33 i1 _ 4 64 Try.underlying31 hi1 hj3 hj4 hj5 rfl (by omega) (.slice Yb k yb) k (flat rs) rfl hown' AnyB _ 1 1 (flat [⟨.int .i64 t2, .int .u64 (m2 : Int), .slice G2 g2 k2, .slice G3 g3 k3⟩]) rfl hrn' hvn'.cells_one' (by simp only [maxLen]; omega) (by omega) (by simp; omega) ?_); intro v8 w8 hown8 hg8 hat8; obtain ⟨Pb, pb, rfl, hpb⟩ := own_shape hown8; have hB8 := (HA7.out.2.2.2.1.alloc (.cells #[.int .i64 t2, .int .u64 (m2 : Int), .slice G2 g2 k2, .slice G3 g3 k3] 33)).grown hg8 (fun e => by have := (HLB7.out.2 _ e.symm).1; omega); obtain ⟨k0, k1', k2', k3', l0, l1, l2, l3, hz6⟩ := hB8.four)
          obtain ⟨oLb, oLa, oD⟩ := two_grow HLb.out HLa.out HA7.out.1.symm hkn HA7.out.2.2.2.2.1 HA7.out.2.2.2.2.2.1 HA7.out.2.2.2.2.2.2 hown8 hg8 hat8
          have oBa : Blk (w8.setCell ⟨w.heap.size + 3, 3, none⟩ (.slice Pb (k + 1) pb)) (w.heap.size + 2) 27 #[.int .i64 y.tag, .int .u64 (y.num : Int), .slice A2 n2 c2, .slice Pa (k + 1) pa] := ((HA7.out.2.2.1.alloc _).grown hg8 (fun e => by have := (HLB7.out.2 _ e.symm).1; omega)).far (p := ⟨w.heap.size + 3, 3, none⟩) (by simp) _
          have oBb : Blk (w8.setCell ⟨w.heap.size + 3, 3, none⟩ (.slice Pb (k + 1) pb)) (w.heap.size + 3) 33 #[.int .i64 y.tag, .int .u64 (y.num : Int), .slice A2 n2 c2, .slice Pb (k + 1) pb] := by simpa using hB8.set_ 3 (.slice Pb (k + 1) pb)
          have obr : Below (w.heap.size + 2) W4 (w8.setCell ⟨w.heap.size + 3, 3, none⟩ (.slice Pb (k + 1) pb)) := ((HA7.out.2.1.alloc (by omega) _).grown hg8 (by simp; omega) (fun j e => by have := (HLB7.out.2 _ e).1; omega)).setCell (p := ⟨w.heap.size + 3, 3, none⟩) (by simp) _
          have HEND : Hid (BInv w W4 S y.tag y.num A2 n2 c2 (k + 1) (w8.setCell ⟨w.heap.size + 3, 3, none⟩ (.slice Pb (k + 1) pb))) := Lib.hid ⟨Pa, Pb, pa, pb, ms ++ [v], oBa, oBb, oLa.store hT3 (by omega) 3 _, oLb.store hT3 (by omega) 3 _, oD.symm, obr⟩
          clear oLb oLa oD oBa oBb obr hB8 hown8 hg8 hat8 hown' hrn' hvn' HLa HLb HA7 HLB7
          go_wp2_with fail
          go_roundw
          case rel => exact ⟨a + m, i + 1, k + 1, by omega, by omega, by omega, by omega, by go_num, by go_num, HEND⟩
          case measure => simp [intOf]; omega
      · have h2' : ¬ (a : Int) < (n : Int) := by omega
        obtain ⟨Ya, Yb, ya, yb, ms, yBa, yBb, yLa, yLb, -, ybr⟩ := HI.out
        have HYa := Lib.hid yLa
        have HYb := Lib.hid yLb
        obtain ⟨za0, za1, za2, za3, fa0, fa1, fa2, fa3, hza⟩ := yBa.four
        obtain ⟨zb0, zb1, zb2, zb3, fb0, fb1, fb2, fb3, hzb⟩ := yBb.four
        have HO1 := Lib.hid ((hHX1.out.below hb24 (by omega)).below ybr (by omega))
        have HO2 := Lib.hid ((hHX2.out.below hb24 (by omega)).below ybr (by omega))
        obtain ⟨g0, g1, g2, g3, e0, e1, e2, e3, hg⟩ := HO1.out.four
        obtain ⟨k0, k1, k2, k3, d0, d1, d2, d3, hk⟩ := HO2.out.four
        have HBW := Lib.hid (hbw)
        clear yLa yLb yBa yBb ybr
        go_wp2_with fail
        go_region
        go_wp2_with fail
        obtain ⟨f1, f2, f3, f4, f5⟩ := build_fin (S := S) (T := fun j => (S j ∧ j < w.heap.size) ∨ w.heap.size + 4 ≤ j) HBW.out HO1.out HO2.out HBS.out.1 HBS.out.2 (by omega) (fun j h => h) (HYa.out.reads.keep (fun _ _ _ => rfl) (fun j hj _ => by rcases hj with hj | hj; exact hj.1; exact .inr hj)) (HYb.out.reads.keep (fun _ _ _ => rfl) (fun j hj _ => by rcases hj with hj | hj; exact hj.1; exact .inr hj))
        refine bodyPost_ret (results_cct rfl rfl rfl (load27 f1) (load33 f2)) rfl ?_
        exact ⟨⟨.int .i64 y.tag, .int .u64 (y.num : Int), .slice A2 n2 c2, .slice Ya k ya⟩, ⟨.int .i64 y.tag, .int .u64 (y.num : Int), .slice A2 n2 c2, .slice Yb k yb⟩, _, a, rfl, f3, f4, han, f5⟩
    · have h1' : ¬ (i : Int) < y.many := h1
      obtain ⟨Ya, Yb, ya, yb, ms, yBa, yBb, yLa, yLb, -, ybr⟩ := HI.out
      have HYa := Lib.hid yLa
      have HYb := Lib.hid yLb
      obtain ⟨za0, za1, za2, za3, fa0, fa1, fa2, fa3, hza⟩ := yBa.four
      obtain ⟨zb0, zb1, zb2, zb3, fb0, fb1, fb2, fb3, hzb⟩ := yBb.four
      have HO1 := Lib.hid ((hHX1.out.below hb24 (by omega)).below ybr (by omega))
      have HO2 := Lib.hid ((hHX2.out.below hb24 (by omega)).below ybr (by omega))
      obtain ⟨g0, g1, g2, g3, e0, e1, e2, e3, hg⟩ := HO1.out.four
      obtain ⟨k0, k1, k2, k3, d0, d1, d2, d3, hk⟩ := HO2.out.four
      have HBW := Lib.hid (hbw)
      clear yLa yLb yBa yBb ybr
      go_wp2_with fail
      go_region
      go_wp2_with fail
      obtain ⟨f1, f2, f3, f4, f5⟩ := build_fin (S := S) (T := fun j => (S j ∧ j < w.heap.size) ∨ w.heap.size + 4 ≤ j) HBW.out HO1.out HO2.out HBS.out.1 HBS.out.2 (by omega) (fun j h => h) (HYa.out.reads.keep (fun _ _ _ => rfl) (fun j hj _ => by rcases hj with hj | hj; exact hj.1; exact .inr hj)) (HYb.out.reads.keep (fun _ _ _ => rfl) (fun j hj _ => by rcases hj with hj | hj; exact hj.1; exact .inr hj))
      refine bodyPost_ret (results_cct rfl rfl rfl (load27 f1) (load33 f2)) rfl ?_
      exact ⟨⟨.int .i64 y.tag, .int .u64 (y.num : Int), .slice A2 n2 c2, .slice Ya k ya⟩, ⟨.int .i64 y.tag, .int .u64 (y.num : Int), .slice A2 n2 c2, .slice Yb k yb⟩, _, a, rfl, f3, f4, han, f5⟩
end Go.Proofs.Ytaebmhbggbpnoaa
namespace Go.Proofs.Ytaebmhbggbpnoaa
open Go.RowKit
theorem VR.okT {w : World} {S : Nat → Prop} {q : Quad} {v : TV} (h : VR w S q v) : OkT v := by
  induction h with
  | mk hu hb h2 hq hl hc h3 hr hv ih =>
    refine .mk hu (fun i x hx => ?_)
    have hi : i < _ := (List.getElem?_eq_some_iff.1 hx).1
    exact ih i _ x (List.getElem?_eq_getElem (by omega)) hx
theorem build_any (d : Nat) (hd : d ≤ 1000000) : BuildSaid d := by
  induction d with
  | zero => intro w S A n c l h hn hsh; exact build_out 0 hd w S A n c hn (.inr rfl)
  | succ d ih =>
    intro w S A n c l h hn hsh
    rcases Nat.eq_zero_or_pos n with h0 | h0
    · exact build_out (d + 1) hd w S A n c hn (.inl h0)
    · exact build_in d (by omega) (ih (by omega)) w S A n c l h hn hsh h0
/-- build of light nodes. -/
theorem buildL_any (w : World) (S : Nat → Prop) (A : Option Addr) (n c : Nat) (l : List ND) (h : NR w S A n c l) (hl : lightB l = true) :
    Calls Try.prog 44 #[.slice A n c, .int .i64 12] w fun e w' => ∃ t1 m1 P1 i1 i2 P2 i3 i4 t2 m2 Q1 j1 j2 Q2 j3 j4 v m, e = .returned (.tuple #[.agg #[.int .i64 t1, .int .u64 ((m1 : Nat) : Int), .slice P1 i1 i2, .slice P2 i3 i4], .agg #[.int .i64 t2, .int .u64 ((m2 : Nat) : Int), .slice Q1 j1 j2, .slice Q2 j3 j4], .int .i64 ((m : Nat) : Int)]) ∧
      VR w' AnyB ⟨.int .i64 t1, .int .u64 (m1 : Int), .slice P1 i1 i2, .slice P2 i3 i4⟩ v ∧ VR w' AnyB ⟨.int .i64 t2, .int .u64 (m2 : Int), .slice Q1 j1 j2, .slice Q2 j3 j4⟩ v ∧ OkT v ∧ Below w.heap.size w w' := by
  have hn : n ≤ 40 := by
    have := h.len
    simp only [lightB, Bool.and_eq_true, decide_eq_true_eq] at hl
    omega
  have hsh : ∀ x ∈ l, x.bytes.length ≤ 3000 := fun x hx => by
    simp only [lightB, Bool.and_eq_true, decide_eq_true_eq, List.all_eq_true] at hl
    exact hl.2 x hx
  refine (build_any 12 (by omega) w S A n c l h hn hsh).mono ?_
  rintro e w' ⟨qa, qb, v, m, rfl, ha, hb, -, hbe⟩
  obtain ⟨t1, m1, x1, y1, P1, P2, i1, i2, i3, i4, rfl, -⟩ := ha.opens
  obtain ⟨t2, m2, x2, y2, Q1, Q2, j1, j2, j3, j4, rfl, -⟩ := hb.opens
  exact ⟨t1, m1, P1, i1, i2, P2, i3, i4, t2, m2, Q1, j1, j2, Q2, j3, j4, v, m, rfl, ha.any, hb.any, ha.okT, hbe⟩
def putB (v : TV) : List UInt8 := (putT 8 v).getD []
def putF (v : TV) : Int := if (putT 8 v).isSome then 0 else 1
theorem put_one (v : TV) (q : Quad) (w : World) (S : Nat → Prop) (h : VR w S q v) : Calls Try.prog 45 #[q.agg] w fun e w' => ∃ A n c, e = .returned (.tuple #[.slice A n c, .int .i64 (putF v)]) ∧ Bs w' (fun k => w.heap.size ≤ k) A n c (putB v) ∧ n ≤ 70000 ∧ Below w.heap.size w w' := by
  refine (put_any v q w S h).mono ?_
  intro e w' hp
  unfold putB putF
  cases hv : putT 8 v with
  | none =>
    rw [hv] at hp
    obtain ⟨rfl, hb⟩ := hp
    exact ⟨none, 0, 0, rfl, Bs.nil _ _ _, by omega, hb⟩
  | some xs =>
    rw [hv] at hp
    obtain ⟨A, c, rfl, hx, hl, hb⟩ := hp
    exact ⟨A, _, c, rfl, hx, hl, hb⟩
theorem rput_one (v : TV) (q : Quad) (w : World) (S : Nat → Prop) (h : VR w S q v) : Calls Try.prog 46 #[q.agg] w fun e w' => ∃ A n c, e = .returned (.tuple #[.slice A n c, .int .i64 (putF v)]) ∧ Bs w' (fun k => w.heap.size ≤ k) A n c (putB v) ∧ n ≤ 70000 ∧ Below w.heap.size w w' := by
  refine (rput_any v q w S h).mono ?_
  intro e w' hp
  unfold putB putF
  cases hv : putT 8 v with
  | none =>
    rw [hv] at hp
    obtain ⟨rfl, hb⟩ := hp
    exact ⟨none, 0, 0, rfl, Bs.nil _ _ _, by omega, hb⟩
  | some xs =>
    rw [hv] at hp
    obtain ⟨A, c, rfl, hx, hl, hb⟩ := hp
    exact ⟨A, _, c, rfl, hx, hl, hb⟩
theorem right_put (v : TV) : rightB v = (putF v == 0) := by
  unfold rightB putF putT
  cases bodyT 8 v <;> simp
theorem size_put (v : TV) : sizeT v = (putB v).length := by
  unfold sizeT putB putT
  cases bodyT 8 v <;> simp [headT]
theorem VR.low' {w w' : World} {S : Nat → Prop} {q : Quad} {v : TV} (h : VR w S q v) (hb : Below w.heap.size w w') : VR w' AnyB q v := (h.after hb).any
/-- Two boxes laid one behind the other. -/
theorem two_boxes (w : World) (q p : Quad) (t u : TypeId) : Blk ((w.alloc (.cells #[q.a, q.b, q.c, q.d] t)).alloc (.cells #[p.a, p.b, p.c, p.d] u)) w.heap.size t #[q.a, q.b, q.c, q.d] ∧
    Blk ((w.alloc (.cells #[q.a, q.b, q.c, q.d] t)).alloc (.cells #[p.a, p.b, p.c, p.d] u)) (w.heap.size + 1) u #[p.a, p.b, p.c, p.d] ∧
    Below w.heap.size w ((w.alloc (.cells #[q.a, q.b, q.c, q.d] t)).alloc (.cells #[p.a, p.b, p.c, p.d] u)) := by
  refine ⟨(Blk.new w t _).alloc _, ?_, ((Below.refl _ _).alloc (Nat.le_refl _) _).alloc (by simp) _⟩
  have := Blk.new (w.alloc (.cells #[q.a, q.b, q.c, q.d] t)) u #[p.a, p.b, p.c, p.d]
  simpa only [World.size_alloc] using this
end Go.Proofs.Ytaebmhbggbpnoaa
