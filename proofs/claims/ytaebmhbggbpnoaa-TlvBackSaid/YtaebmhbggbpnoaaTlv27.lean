/- The walk of build (hayloftlaw01). Conditions: each theorem's premises. -/
import Derived.Test.YtaebmhbggbpnoaaTlv26
import Derived.Test.YtaebmhbggbpnoaaTlv11
import Derived.Deep.DeepCutAuto
import Derived.BigRegion
namespace Go.Proofs.Ytaebmhbggbpnoaa
open Go.RowKit
/-- It is kept while another row grows. -/
theorem LO.aside {w w' : World} {T : Nat → Prop} {base n : Nat} {e : TypeId} {v : Value} {l : List TV} {r r' : Option Nat} (h : LO w (fun k => T k ∧ some k ≠ r) base e v n l) (hg : w.grownBy w' r) (hne : v.ownBlock = none ∨ v.ownBlock ≠ r) (hr : r' = r ∨ r' = some w.heap.size) :
    LO w' (fun k => T k ∧ some k ≠ r') base e v n l := by
  obtain ⟨hl, hf, qs, hq, hown, hv⟩ := h
  refine ⟨hl, hf, qs, hq, hown.kept hg hne, fun i q x h1 h2 => (hv i q x h1 h2).keep (fun p hp hlt => World.cell?_of_block (hg.block p.block hlt hp.1.2)) (fun k hk hlt => ⟨⟨hk.1.1, ?_⟩, hk.2⟩)⟩
  rcases hr with e | e
  · rw [e]; exact hk.1.2
  · rw [e]; intro h; injection h with h; omega
def Diff (a b : Option Nat) : Prop := a = none ∨ a ≠ b
theorem Diff.symm {a b : Option Nat} (h : Diff a b) : Diff b a := by
  unfold Diff at *
  rcases b with _ | b
  · exact .inl rfl
  · rcases h with rfl | h
    · exact .inr (by simp)
    · exact .inr (fun e => h e.symm)
theorem NR.oldS {w : World} {S : Nat → Prop} {A : Option Addr} {n c : Nat} {l : List ND} (h : NR w S A n c l) : NR w (fun k => S k ∧ k < w.heap.size) A n c l := h.keep (fun _ _ _ => rfl) (fun _ h h' => ⟨h, h'⟩)
theorem VR.aside {w w' : World} {S : Nat → Prop} {q : Quad} {x : TV} {r : Option Nat} (h : VR w S q x) (hg : w.grownBy w' r) (hS : ∀ k, S k → k < w.heap.size → some k ≠ r) : VR w' S q x :=
  h.keep (fun p hp hlt => World.cell?_of_block (hg.block p.block hlt (hS _ hp hlt))) (fun _ h _ => h)
def BuildSaid (d : Nat) : Prop := ∀ (w : World) (S : Nat → Prop) (A : Option Addr) (n c : Nat) (l : List ND), NR w S A n c l → n ≤ 40 → (∀ x ∈ l, x.bytes.length ≤ 3000) →
    Calls Try.prog 44 #[.slice A n c, .int .i64 (d : Int)] w fun e w' => ∃ qa qb v m, e = .returned (.tuple #[qa.agg, qb.agg, .int .i64 ((m : Nat) : Int)]) ∧ VR w' (fun k => (S k ∧ k < w.heap.size) ∨ w.heap.size ≤ k) qa v ∧ VR w' (fun k => (S k ∧ k < w.heap.size) ∨ w.heap.size ≤ k) qb v ∧ m ≤ n ∧ Below w.heap.size w w'
theorem results_cct {fn : Func} {i j T U : Nat} {k : Nat} {W : World} {a b : Addr} {u v : Value} {tmps : Array Value} {P : Program} (h : fn.results = #[.cell i T, .cell j U, .tmp k]) (hi : tmps.getD i undef = .pointer (some a)) (hj : tmps.getD j undef = .pointer (some b))
    (hl : (loadVar T a).run P W = .ok u W) (hm : (loadVar U b).run P W = .ok v W) : (results fn tmps).run P W = .ok (.tuple #[u, v, tmps.getD k undef]) W := by
  simp only [Array.getD_eq_getD_getElem?] at hi hj
  simp [results, h, hi, hj, asAddr, hl, hm]
set_option maxRecDepth 10000 in
set_option maxHeartbeats 4000000 in
theorem build_out (d : Nat) (hd : d ≤ 1000000) (w : World) (S : Nat → Prop) (A : Option Addr) (n c : Nat) (hn : n ≤ 40) (h0 : n = 0 ∨ d = 0) :
    Calls Try.prog 44 #[.slice A n c, .int .i64 (d : Int)] w fun e w' => ∃ qa qb v m, e = .returned (.tuple #[qa.agg, qb.agg, .int .i64 ((m : Nat) : Int)]) ∧ VR w' (fun k => (S k ∧ k < w.heap.size) ∨ w.heap.size ≤ k) qa v ∧ VR w' (fun k => (S k ∧ k < w.heap.size) ∨ w.heap.size ≤ k) qb v ∧ m ≤ n ∧ Below w.heap.size w w' := by
  obtain ⟨W, hW⟩ : ∃ W, W = (w.alloc (.cells #[.int .i64 0, .int .u64 0, .slice none 0 0, .slice none 0 0] 27)).alloc (.cells #[.int .i64 0, .int .u64 0, .slice none 0 0, .slice none 0 0] 33) := ⟨_, rfl⟩
  have hbW : Below w.heap.size w W := by rw [hW]; exact ((Below.refl _ _).alloc (Nat.le_refl _) _).alloc (by simp) _
  have hX1 : Blk W w.heap.size 27 #[.int .i64 0, .int .u64 0, .slice none 0 0, .slice none 0 0] := by rw [hW]; exact (Blk.new w 27 _).alloc _
  have hX2 : Blk W (w.heap.size + 1) 33 #[.int .i64 0, .int .u64 0, .slice none 0 0, .slice none 0 0] := by
    rw [hW]
    have := Blk.new (w.alloc (.cells #[.int .i64 0, .int .u64 0, .slice none 0 0, .slice none 0 0] 27)) 33 #[.int .i64 0, .int .u64 0, .slice none 0 0, .slice none 0 0]
    simpa only [World.size_alloc] using this
  obtain ⟨z0, z1, z2, z3, f0, f1, f2, f3, hz⟩ := hX1.four
  obtain ⟨y0, y1, y2, y3, g0, g1, g2, g3, hy⟩ := hX2.four
  have HW := Lib.hid hW
  clear hW
  have hzero : VR W (fun k => (S k ∧ k < w.heap.size) ∨ w.heap.size ≤ k) ⟨.int .i64 0, .int .u64 ((0 : Nat) : Int), .slice none 0 0, .slice none 0 0⟩ (.mk 0 0 [] []) := VR.shut (by simp [u64ok]) (Bs.nil _ _ _) (by omega) (LR.nil _ _ _)
  by_cases hn0 : n = 0
  · subst hn0
    clear h0
    go_enter Try.func44, Try.ntmps44
    go_wp2_with fail
    have hW := HW.out
    rw [← hW]
    refine bodyPost_ret (results_cct rfl rfl rfl (load27 hX1) (load33 hX2)) rfl ?_
    exact ⟨⟨.int .i64 0, .int .u64 ((0 : Nat) : Int), .slice none 0 0, .slice none 0 0⟩, ⟨.int .i64 0, .int .u64 ((0 : Nat) : Int), .slice none 0 0, .slice none 0 0⟩, .mk 0 0 [] [], 0, rfl, hzero, hzero, by omega, hbW⟩
  · have hd0 : d = 0 := by omega
    subst hd0
    have hne : ((n : Int) == 0) = false := by simp; omega
    clear h0
    go_enter Try.func44, Try.ntmps44
    go_wp2_with fail
    have hW := HW.out
    rw [← hW]
    refine bodyPost_ret (results_cct rfl rfl rfl (load27 hX1) (load33 hX2)) rfl ?_
    exact ⟨⟨.int .i64 0, .int .u64 ((0 : Nat) : Int), .slice none 0 0, .slice none 0 0⟩, ⟨.int .i64 0, .int .u64 ((0 : Nat) : Int), .slice none 0 0, .slice none 0 0⟩, .mk 0 0 [] [], 0, rfl, hzero, hzero, by omega, hbW⟩
/-- What the loop keeps: the two boxes, the two lists that grow side by side. -/
def BInv (w W4 : World) (S : Nat → Prop) (t : Int) (m : Nat) (A2 : Option Addr) (n2 c2 k : Nat) (wr : World) : Prop := ∃ (Aa Ab : Option Addr) (ca cb : Nat) (ls : List TV),
    Blk wr (w.heap.size + 2) 27 #[.int .i64 t, .int .u64 (m : Int), .slice A2 n2 c2, .slice Aa k ca] ∧ Blk wr (w.heap.size + 3) 33 #[.int .i64 t, .int .u64 (m : Int), .slice A2 n2 c2, .slice Ab k cb] ∧
    LO wr (fun j => ((S j ∧ j < w.heap.size) ∨ w.heap.size + 4 ≤ j) ∧ some j ≠ (Value.slice Ab k cb).ownBlock) (w.heap.size + 4) 27 (.slice Aa k ca) k ls ∧
    LO wr (fun j => ((S j ∧ j < w.heap.size) ∨ w.heap.size + 4 ≤ j) ∧ some j ≠ (Value.slice Aa k ca).ownBlock) (w.heap.size + 4) 33 (.slice Ab k cb) k ls ∧
    Diff (Value.slice Aa k ca).ownBlock (Value.slice Ab k cb).ownBlock ∧ Below (w.heap.size + 2) W4 wr
/-- The world behind the last statement: both boxes are copied. -/
def finW (w wr : World) (y : ND) (A2 : Option Addr) (n2 c2 : Nat) (Aa : Option Addr) (ka ca : Nat) (Ab : Option Addr) (kb cb : Nat) : World :=
  ((((((((wr.setCell ⟨w.heap.size, 0, none⟩ (.int .i64 y.tag)).setCell ⟨w.heap.size, 1, none⟩ (.int .u64 (y.num : Int))).setCell ⟨w.heap.size, 2, none⟩ (.slice A2 n2 c2)).setCell ⟨w.heap.size, 3, none⟩ (.slice Aa ka ca)).setCell ⟨w.heap.size + 1, 0, none⟩ (.int .i64 y.tag)).setCell ⟨w.heap.size + 1, 1, none⟩ (.int .u64 (y.num : Int))).setCell ⟨w.heap.size + 1, 2, none⟩ (.slice A2 n2 c2)).setCell ⟨w.heap.size + 1, 3, none⟩ (.slice Ab kb cb)).drew
theorem build_fin {w wr : World} {S T : Nat → Prop} {y : ND} {A2 Aa Ab : Option Addr} {n2 c2 k ca cb : Nat} {ls : List TV} (hbw : Below w.heap.size w wr) (h27 : Blk wr w.heap.size 27 #[.int .i64 0, .int .u64 0, .slice none 0 0, .slice none 0 0]) (h33 : Blk wr (w.heap.size + 1) 33 #[.int .i64 0, .int .u64 0, .slice none 0 0, .slice none 0 0])
    (hu : u64ok y.num) (hbs : Bs w (fun j => S j ∧ j < w.heap.size) A2 n2 c2 y.bytes) (hn2 : n2 ≤ 1000000000) (hT : ∀ j, T j → (S j ∧ j < w.heap.size) ∨ w.heap.size + 4 ≤ j) (hLa : LR wr T Aa k ca ls) (hLb : LR wr T Ab k cb ls) :
    Blk (finW w wr y A2 n2 c2 Aa k ca Ab k cb) w.heap.size 27 #[.int .i64 y.tag, .int .u64 (y.num : Int), .slice A2 n2 c2, .slice Aa k ca] ∧ Blk (finW w wr y A2 n2 c2 Aa k ca Ab k cb) (w.heap.size + 1) 33 #[.int .i64 y.tag, .int .u64 (y.num : Int), .slice A2 n2 c2, .slice Ab k cb] ∧
    VR (finW w wr y A2 n2 c2 Aa k ca Ab k cb) (fun j => (S j ∧ j < w.heap.size) ∨ w.heap.size ≤ j) ⟨.int .i64 y.tag, .int .u64 (y.num : Int), .slice A2 n2 c2, .slice Aa k ca⟩ (.mk y.tag y.num y.bytes ls) ∧
    VR (finW w wr y A2 n2 c2 Aa k ca Ab k cb) (fun j => (S j ∧ j < w.heap.size) ∨ w.heap.size ≤ j) ⟨.int .i64 y.tag, .int .u64 (y.num : Int), .slice A2 n2 c2, .slice Ab k cb⟩ (.mk y.tag y.num y.bytes ls) ∧ Below w.heap.size w (finW w wr y A2 n2 c2 Aa k ca Ab k cb) := by
  have hk : ∀ p : Addr, ((S p.block ∧ p.block < w.heap.size) ∨ w.heap.size + 4 ≤ p.block) → (finW w wr y A2 n2 c2 Aa k ca Ab k cb).cell? p = wr.cell? p := fun p hp => by
    have h1 : p.block ≠ w.heap.size := by omega
    have h2 : p.block ≠ w.heap.size + 1 := by omega
    unfold finW
    rw [World.cell?_drew, set4_other _ _ _ _ _ _ p h2, set4_other _ _ _ _ _ _ p h1]
  have hB := hbs.under (fun j h => h.2) hbw
  have hS : ∀ j, ((S j ∧ j < w.heap.size) ∨ w.heap.size + 4 ≤ j) → ((S j ∧ j < w.heap.size) ∨ w.heap.size ≤ j) := fun j h => h.elim .inl (fun h => .inr (by omega))
  have v1 : VR (finW w wr y A2 n2 c2 Aa k ca Ab k cb) (fun j => (S j ∧ j < w.heap.size) ∨ w.heap.size ≤ j) ⟨.int .i64 y.tag, .int .u64 (y.num : Int), .slice A2 n2 c2, .slice Aa k ca⟩ (.mk y.tag y.num y.bytes ls) :=
    VR.shut hu (hB.keep (fun p hp _ => hk p (.inl hp)) (fun j hj _ => .inl hj)) hn2 (hLa.keep (fun p hp _ => hk p (hT _ hp)) (fun j hj _ => hS _ (hT _ hj)))
  have v2 : VR (finW w wr y A2 n2 c2 Aa k ca Ab k cb) (fun j => (S j ∧ j < w.heap.size) ∨ w.heap.size ≤ j) ⟨.int .i64 y.tag, .int .u64 (y.num : Int), .slice A2 n2 c2, .slice Ab k cb⟩ (.mk y.tag y.num y.bytes ls) :=
    VR.shut hu (hB.keep (fun p hp _ => hk p (.inl hp)) (fun j hj _ => .inl hj)) hn2 (hLb.keep (fun p hp _ => hk p (hT _ hp)) (fun j hj _ => hS _ (hT _ hj)))
  refine ⟨?_, ?_, v1, v2, ?_⟩
  · unfold finW
    have := set4_blk h27 (.int .i64 y.tag) (.int .u64 (y.num : Int)) (.slice A2 n2 c2) (.slice Aa k ca)
    exact ((((this.far (p := ⟨w.heap.size + 1, 0, none⟩) (by simp) _).far (p := ⟨w.heap.size + 1, 1, none⟩) (by simp) _).far (p := ⟨w.heap.size + 1, 2, none⟩) (by simp) _).far (p := ⟨w.heap.size + 1, 3, none⟩) (by simp) _).drew
  · unfold finW
    have h := ((((h33.far (p := ⟨w.heap.size, 0, none⟩) (by simp) (.int .i64 y.tag)).far (p := ⟨w.heap.size, 1, none⟩) (by simp) (.int .u64 (y.num : Int))).far (p := ⟨w.heap.size, 2, none⟩) (by simp) (.slice A2 n2 c2)).far (p := ⟨w.heap.size, 3, none⟩) (by simp) (.slice Aa k ca))
    exact (set4_blk h (.int .i64 y.tag) (.int .u64 (y.num : Int)) (.slice A2 n2 c2) (.slice Ab k cb)).drew
  · unfold finW
    exact (set4_below (set4_below hbw w.heap.size (Nat.le_refl _) _ _ _ _) (w.heap.size + 1) (by omega) _ _ _ _).drew
/-- One list grows, the other one stands. -/
theorem two_grow {W5 w7 : World} {T : Nat → Prop} {base na nb : Nat} {ea eb e' : TypeId} {va va' vb : Value} {la lb : List TV} {q : Quad} {x : TV} {qs : List Quad}
    (hA : LO W5 (fun j => T j ∧ some j ≠ vb.ownBlock) base ea va na la) (hB : LO W5 (fun j => T j ∧ some j ≠ va.ownBlock) base eb vb nb lb) (hD : Diff va.ownBlock vb.ownBlock) (hf : na + 1 ≤ 1000000000)
    (hq : qs.length = la.length) (hv : ∀ (i : Nat) (p : Quad) (y : TV), qs[i]? = some p → la[i]? = some y → VR (W5.alloc (.cells #[q.a, q.b, q.c, q.d] e')) (fun k => (T k ∧ some k ≠ vb.ownBlock) ∧ some k ≠ va.ownBlock) p y)
    (hx : VR (W5.alloc (.cells #[q.a, q.b, q.c, q.d] e')) (fun k => (T k ∧ some k ≠ vb.ownBlock) ∧ some k ≠ va.ownBlock) q x)
    (hown : w7.ownsRow base ea 4 va' (na + 1) (flat qs ++ flat [q])) (hg : (W5.alloc (.cells #[q.a, q.b, q.c, q.d] e')).grownBy w7 va.ownBlock) (hat : va'.ownBlock = va.ownBlock ∨ va'.ownBlock = some (W5.alloc (.cells #[q.a, q.b, q.c, q.d] e')).heap.size) :
    LO w7 (fun j => T j ∧ some j ≠ vb.ownBlock) base ea va' (na + 1) (la ++ [x]) ∧ LO w7 (fun j => T j ∧ some j ≠ va'.ownBlock) base eb vb nb lb ∧ Diff va'.ownBlock vb.ownBlock := by
  refine ⟨LO.snoc hq hA.len hf hown hg hat hv hx, (hB.after ((Below.refl _ _).alloc (Nat.le_refl _) _)).aside hg hD.symm hat, ?_⟩
  rcases hat with h | h
  · rw [h]; exact hD
  · right
    rw [h]
    intro e
    obtain ⟨_, _, _, _, ho, _⟩ := hB
    have := (ho.lt _ e.symm).2
    simp at this
    omega
theorem LO.base_lt {w : World} {T : Nat → Prop} {base n : Nat} {e : TypeId} {v : Value} {l : List TV} (h : LO w T base e v n l) : ∀ k, v.ownBlock = some k → base ≤ k ∧ k < w.heap.size := by
  obtain ⟨_, _, _, _, ho, _⟩ := h
  exact fun k hk => ho.lt k hk
theorem vr_aside {W5 w6 : World} {T : Nat → Prop} {va va' vb : Value} {q : Quad} {x : TV} {o : Obj} {ga : Nat} (hx : VR W5 (fun j => (T j ∧ some j ≠ vb.ownBlock) ∧ some j ≠ va.ownBlock) q x) (hg : (W5.alloc o).grownBy w6 va.ownBlock)
    (hat : va'.ownBlock = va.ownBlock ∨ va'.ownBlock = some (W5.alloc o).heap.size) (hT : ∀ j, T j → j ≠ ga) (i : Nat) (u : Value) : VR (w6.setCell ⟨ga, i, none⟩ u) (fun j => (T j ∧ some j ≠ va'.ownBlock) ∧ some j ≠ vb.ownBlock) q x :=
  hx.keep (fun p hp hlt => by
    rw [World.cell?_setCell_other _ _ _ _ (fun e => hT _ hp.1.1 (by rw [← e])), World.cell?_of_block (hg.block p.block (by simp; omega) hp.2), World.cell?_alloc_lt _ _ _ hlt]) (fun j hj hlt => ⟨⟨hj.1.1, by
    rcases hat with h | h
    · rw [h]; exact hj.2
    · rw [h]; intro e; injection e with e; simp at e; omega⟩, hj.1.2⟩)
theorem LO.store {w : World} {T : Nat → Prop} {base n : Nat} {e : TypeId} {v vb : Value} {l : List TV} {ga : Nat} (h : LO w (fun j => T j ∧ some j ≠ vb.ownBlock) base e v n l) (hT : ∀ j, T j → j ≠ ga) (hb : ga < base) (i : Nat) (u : Value) : LO (w.setCell ⟨ga, i, none⟩ u) (fun j => T j ∧ some j ≠ vb.ownBlock) base e v n l :=
  h.setCell (p := ⟨ga, i, none⟩) (fun e => by have := (h.base_lt _ e).1; dsimp only at this; omega) (fun k hk => hT k hk.1) u
theorem in_both {S : Nat → Prop} {B R j : Nat} {va vb : Value} (ha : ∀ k, va.ownBlock = some k → B + 4 ≤ k ∧ k < R) (hb : ∀ k, vb.ownBlock = some k → B + 4 ≤ k ∧ k < R) (hR : B + 4 ≤ R) (hj : ((S j ∧ j < B) ∧ j < R) ∨ R ≤ j) :
    (((S j ∧ j < B) ∨ B + 4 ≤ j) ∧ some j ≠ vb.ownBlock) ∧ some j ≠ va.ownBlock := by
  rcases hj with hj | hj
  · exact ⟨⟨.inl hj.1, fun e => by have := (hb _ e.symm).1; omega⟩, fun e => by have := (ha _ e.symm).1; omega⟩
  · exact ⟨⟨.inr (by omega), fun e => by have := (hb _ e.symm).2; omega⟩, fun e => by have := (ha _ e.symm).2; omega⟩
theorem BInv.after {w W4 wr w' : World} {S : Nat → Prop} {t : Int} {m : Nat} {A2 : Option Addr} {n2 c2 k : Nat} (h : BInv w W4 S t m A2 n2 c2 k wr) (hb : Below wr.heap.size wr w') : BInv w W4 S t m A2 n2 c2 k w' := by
  obtain ⟨Aa, Ab, ca, cb, ls, h1, h2, h3, h4, h5, h6⟩ := h
  exact ⟨Aa, Ab, ca, cb, ls, h1.after hb, h2.after hb, h3.after hb, h4.after hb, h5, h6.trans (hb.mono (Nat.le_of_lt (Nat.lt_of_lt_of_le (by omega) h1.lt)))⟩
end Go.Proofs.Ytaebmhbggbpnoaa
