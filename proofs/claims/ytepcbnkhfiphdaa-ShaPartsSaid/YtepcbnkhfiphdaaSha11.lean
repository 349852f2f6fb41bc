/- The walk of Write (sha). Conditions: each theorem's premises. -/
import Derived.Test.YtepcbnkhfiphdaaSha10
import Derived.OrdersHeld
import Derived.Deep.RegionLaw
import Derived.Deep.Onto
namespace Go.Proofs.Ytepcbnkhfiphdaa
open Go.RowKit
/-- A stream's state is loaded in a region that draws. -/
theorem yields_sc {ops : Array Oper} {S : World → Prop} {o : Oper} {a : Act} {x : Operand} {s off : Nat} {t : Sha.St} (ho : o.op = .load 74 x) (hw : Region.wanted o (yielded ops a.tmps) = true) (hx : a.eval x = .pointer (some ⟨s, off, none⟩)) (hB : ∀ w', S w' → w'.rangeAt s off (U32 t.list)) : YieldsIf Try.prog ops S o (.agg (SV t)) a :=
  yieldsIf_load_mid hw 74 x ho s off hx (U32 t.list) _ hB Try.underlying74 rfl (by rw [size74]; rfl)
/-- .. and stored. -/
theorem step_scmid {ops : Array Oper} {o : Oper} {a : Act} {w : World} {K : Act → World → Prop} {Q : Exit → Act → World → Prop} {E : Prop} (hw : Region.wanted o (yielded ops a.tmps) = true) (x y : Operand) (ho : o.op = .store 74 x y) {s off : Nat} {t : Sha.St} (hx : a.eval x = .pointer (some ⟨s, off, none⟩)) (hy : a.eval y = .agg (SV t)) (ht : w.there s off 8)
    (h : K (a.put o.dst undef) (w.setCells s off (U32 t.list))) : if Region.wanted o (yielded ops a.tmps) = true then Oper.wp Try.prog o a w K Q else E := by
  rw [if_pos hw]
  exact wp_store_mid 74 x y ho s off (SV t) hx hy ht (by rw [size74]; rfl) (SV.one t) h
/-- .. ahead of a forced tail. -/
theorem still_sc {ops : Array Oper} {o : Oper} {a : Act} {w : World} {Q : Act → Prop} {rest : List Oper} (hw : Region.wanted o (yielded ops a.tmps) = true) (x : Operand) (ho : o.op = .load 74 x) {s off : Nat} {t : Sha.St} (hx : a.eval x = .pointer (some ⟨s, off, none⟩)) (h : w.rangeAt s off (U32 t.list))
    (hk : wpStill Try.prog ops w Q rest (a.put o.dst (.agg (SV t)))) : wpStill Try.prog ops w Q (o :: rest) a := by
  refine wpStill_step fun K hK => ?_
  rw [if_pos hw]
  unfold Oper.still execOp
  have h1 := run_loadVar_mid (P := Try.prog) w s off 74 (U32 t.list) _ h Try.underlying74 rfl (by rw [size74]; rfl)
  simp only [ho, hx, Instr.loadAt, Instr.sureAddr, Sem.run_bind, Sem.run_pure, Result.andThen_ok, h1, Oper.stillUpon_value]
  exact hK _ hk
theorem step_ldsc {ops : Array Oper} {o : Oper} {a : Act} {w : World} {K : Act → World → Prop} {Q : Exit → Act → World → Prop} {E : Prop} (hw : Region.wanted o (yielded ops a.tmps) = true) (x : Operand) (ho : o.op = .load 74 x) {s off : Nat} {t : Sha.St} (hx : a.eval x = .pointer (some ⟨s, off, none⟩)) (h : w.rangeAt s off (U32 t.list))
    (hk : K (a.put o.dst (.agg (SV t))) w) : if Region.wanted o (yielded ops a.tmps) = true then Oper.wp Try.prog o a w K Q else E := by
  rw [if_pos hw]
  exact wp_load_mid 74 x ho s off hx (U32 t.list) _ h Try.underlying74 rfl (by rw [size74]; rfl) hk
theorem SC.there {w : World} {s g t' : Nat} {t : Sha.St} {lv : Value} {n : Int} (h : Blk w s t' (SC g t lv n)) : w.there s 1 8 := fun j hj => by
  refine ⟨?_, h.frozen _⟩
  rw [h.cell]
  rcases j with _ | _ | _ | _ | _ | _ | _ | _ | j
  all_goals first | rfl | omega
theorem SC.store {w : World} {s g t' : Nat} {t : Sha.St} (t2 : Sha.St) {lv : Value} {n : Int} (h : Blk w s t' (SC g t lv n)) : Blk (w.setCells s 1 (U32 t2.list)) s t' (SC g t2 lv n) := by
  have h1 := (((((((h.set_ 1 (.int .u32 (t2.a : Int))).set_ 2 (.int .u32 (t2.b : Int))).set_ 3 (.int .u32 (t2.c : Int))).set_ 4 (.int .u32 (t2.d : Int))).set_ 5 (.int .u32 (t2.e : Int))).set_ 6 (.int .u32 (t2.f : Int))).set_ 7 (.int .u32 (t2.g : Int))).set_ 8 (.int .u32 (t2.h : Int))
  have e : ((((((((SC g t lv n).setIfInBounds 1 (.int .u32 (t2.a : Int))).setIfInBounds 2 (.int .u32 (t2.b : Int))).setIfInBounds 3 (.int .u32 (t2.c : Int))).setIfInBounds 4 (.int .u32 (t2.d : Int))).setIfInBounds 5 (.int .u32 (t2.e : Int))).setIfInBounds 6 (.int .u32 (t2.f : Int))).setIfInBounds 7 (.int .u32 (t2.g : Int))).setIfInBounds 8 (.int .u32 (t2.h : Int)) = SC g t2 lv n := by
    simp only [SC, List.setIfInBounds_toArray, List.set_cons_zero, List.set_cons_succ]
  rw [e] at h1
  have hw : w.setCells s 1 (U32 t2.list) = (((((((w.setCell ⟨s, 1, none⟩ (.int .u32 (t2.a : Int))).setCell ⟨s, 2, none⟩ (.int .u32 (t2.b : Int))).setCell ⟨s, 3, none⟩ (.int .u32 (t2.c : Int))).setCell ⟨s, 4, none⟩ (.int .u32 (t2.d : Int))).setCell ⟨s, 5, none⟩ (.int .u32 (t2.e : Int))).setCell ⟨s, 6, none⟩ (.int .u32 (t2.f : Int))).setCell ⟨s, 7, none⟩ (.int .u32 (t2.g : Int))).setCell ⟨s, 8, none⟩ (.int .u32 (t2.h : Int)) := rfl
  rw [hw]
  exact h1
theorem setCells_only (s : Nat) : ∀ (vs : List Value) (o : Nat) (w : World), Only (fun k => k = s) w (w.setCells s o vs)
  | [], _, w => Only.refl _ w
  | v :: r, o, w => ((Only.refl (fun k => k = s) w).setCell (p := ⟨s, o, none⟩) (.inl rfl) v).trans (setCells_only s r (o + 1) _)
/-- Where a Write stands, behind k blocks. -/
structure Wm (w wr : World) (s g : Nat) (nb : Int) (lv : Value) (A : Option Addr) (L c : Nat) (X : List UInt8) (q n : Nat) : Prop where
  bk : Blk wr s 77 (SC g (Sha.comp q Sha.H0 X) (.slice A L c) n)
  bs : Bs wr (fun j => s < j) A L c (X.drop (64 * q))
  en : En wr g 1 0 fillF nb
  on : Only (fun j => j = s ∨ j = g ∨ lv.ownBlock = some j) w wr
theorem SC.left {w : World} {s g t' : Nat} {t : Sha.St} {lv : Value} {n : Int} (h : Blk w s t' (SC g t lv n)) (lv2 : Value) : Blk (w.setCell ⟨s, 9, none⟩ lv2) s t' (SC g t lv2 n) := by
  have h1 := h.set_ 9 lv2
  simpa only [SC, List.setIfInBounds_toArray, List.set_cons_zero, List.set_cons_succ] using h1
theorem SC.count {w : World} {s g t' : Nat} {t : Sha.St} {lv : Value} {n : Int} (h : Blk w s t' (SC g t lv n)) (n2 : Int) : Blk (w.setCell ⟨s, 10, none⟩ (.int .i64 n2)) s t' (SC g t lv n2) := by
  have h1 := h.set_ 10 (.int .i64 n2)
  simpa only [SC, List.setIfInBounds_toArray, List.set_cons_zero, List.set_cons_succ] using h1
theorem setCells8 (w : World) (s : Nat) (B : Sha.St) : w.setCells s 1 (U32 B.list) = (((((((w.setCell ⟨s, 1, none⟩ (.int .u32 (B.a : Int))).setCell ⟨s, 2, none⟩ (.int .u32 (B.b : Int))).setCell ⟨s, 3, none⟩ (.int .u32 (B.c : Int))).setCell ⟨s, 4, none⟩ (.int .u32 (B.d : Int))).setCell ⟨s, 5, none⟩ (.int .u32 (B.e : Int))).setCell ⟨s, 6, none⟩ (.int .u32 (B.f : Int))).setCell ⟨s, 7, none⟩ (.int .u32 (B.g : Int))).setCell ⟨s, 8, none⟩ (.int .u32 (B.h : Int)) := rfl
theorem SC.cells {w : World} {s g : Nat} {t : Sha.St} {lv : Value} {n : Int} (h : Blk w s 77 (SC g t lv n)) :
    w.cell? ⟨s, 0, none⟩ = some (.pointer (some ⟨g, 0, none⟩)) ∧ w.cell? ⟨s, 1, none⟩ = some (.int .u32 (t.a : Int)) ∧ w.cell? ⟨s, 2, none⟩ = some (.int .u32 (t.b : Int)) ∧ w.cell? ⟨s, 3, none⟩ = some (.int .u32 (t.c : Int)) ∧ w.cell? ⟨s, 4, none⟩ = some (.int .u32 (t.d : Int)) ∧
    w.cell? ⟨s, 5, none⟩ = some (.int .u32 (t.e : Int)) ∧ w.cell? ⟨s, 6, none⟩ = some (.int .u32 (t.f : Int)) ∧ w.cell? ⟨s, 7, none⟩ = some (.int .u32 (t.g : Int)) ∧ w.cell? ⟨s, 8, none⟩ = some (.int .u32 (t.h : Int)) ∧ w.cell? ⟨s, 9, none⟩ = some lv ∧
    w.frozen? ⟨s, 1, none⟩ = false ∧ w.frozen? ⟨s, 2, none⟩ = false ∧ w.frozen? ⟨s, 3, none⟩ = false ∧ w.frozen? ⟨s, 4, none⟩ = false ∧ w.frozen? ⟨s, 5, none⟩ = false ∧ w.frozen? ⟨s, 6, none⟩ = false ∧ w.frozen? ⟨s, 7, none⟩ = false ∧ w.frozen? ⟨s, 8, none⟩ = false :=
  ⟨h.cell 0, h.cell 1, h.cell 2, h.cell 3, h.cell 4, h.cell 5, h.cell 6, h.cell 7, h.cell 8, h.cell 9, h.frozen 1, h.frozen 2, h.frozen 3, h.frozen 4, h.frozen 5, h.frozen 6, h.frozen 7, h.frozen 8⟩
theorem round_lit (w : World) (g : Nat) (nb : Int) (hE : En w g 1 0 fillF nb) (s : Sha.St) (S : Nat → Prop) (A : Option Addr) (c : Nat) (bs : List UInt8) (hx : Bs w S A 64 c bs) (hnb : 0 ≤ nb ∧ nb ≤ 100000000000000000) :
    Calls Try.prog 29 #[.pointer (some ⟨g, 0, none⟩), .agg #[.int .u32 (s.a : Int), .int .u32 (s.b : Int), .int .u32 (s.c : Int), .int .u32 (s.d : Int), .int .u32 (s.e : Int), .int .u32 (s.f : Int), .int .u32 (s.g : Int), .int .u32 (s.h : Int)], .slice A 64 c] w fun e w' =>
      ∃ B, B = Sha.block s bs ∧ e = .returned (.agg #[.int .u32 (B.a : Int), .int .u32 (B.b : Int), .int .u32 (B.c : Int), .int .u32 (B.d : Int), .int .u32 (B.e : Int), .int .u32 (B.f : Int), .int .u32 (B.g : Int), .int .u32 (B.h : Int)]) ∧ En w' g 1 0 fillF (nb + 1) ∧ w.grownBy w' (some g) :=
  (round_any w g nb hE s S A c bs hx hnb).mono fun _ _ ⟨h1, h2, h3⟩ => ⟨_, rfl, h1, h2, h3⟩
theorem drop_q (all bs : List UInt8) : (all ++ bs).drop (64 * (all.length / 64)) = all.drop (64 * (all.length / 64)) ++ bs := List.drop_append_of_le_length (by omega)
theorem comp_q (all bs : List UInt8) : Sha.comp (all.length / 64) Sha.H0 (all ++ bs) = Sha.comp (all.length / 64) Sha.H0 all := Sha.comp_app _ _ _ _ (by omega)
theorem write_nil (w : World) (x : Value) : Calls Try.prog 13 #[.pointer none, x] w fun e w' => e = .returned (.int .i64 0) ∧ w = w' := by
  go_enter Try.func13, Try.ntmps13
  go_wp2_with fail
  go_ret
  exact ⟨rfl, rfl⟩
def WriteEnd (w : World) (s g : Nat) (nb : Int) (lv : Value) (all bs : List UInt8) (e : Ending) (w' : World) : Prop :=
  e = .returned (.int .i64 (bs.length : Int)) ∧ ∃ lv', Sm w' s g lv' (all ++ bs) ∧ En w' g 1 0 fillF (nb + (((all.length + bs.length) / 64 - all.length / 64 : Nat) : Int)) ∧ Only (fun j => j = s ∨ j = g ∨ lv.ownBlock = some j) w w' ∧ ∀ k, lv'.ownBlock = some k → w.heap.size ≤ k
/-- Behind the append. -/
theorem write_mid {w w1 : World} {s g : Nat} {nb : Int} {lv v1 : Value} {all : List UInt8} {A0 : Option Addr} {n0 c0 n1 : Nat} {xs : List Value} (hs : Sm w s g lv all) (hlv : lv = .slice A0 n0 c0) (hE : En w g 1 0 fillF nb) (hown : w1.ownsRow (s + 1) 5 1 v1 n1 xs) (hg : w.grownBy w1 (Value.slice A0 n0 c0).ownBlock) :
    Blk w1 s 77 (SC g (Sha.comp (all.length / 64) Sha.H0 all) (.slice A0 n0 c0) all.length) ∧ En w1 g 1 0 fillF nb ∧ Only (fun j => j = s ∨ j = g ∨ lv.ownBlock = some j) w w1 ∧ (∀ k, v1.ownBlock = some k → s < k) := by
  subst hlv
  have ho : Only (fun j => (Value.slice A0 n0 c0).ownBlock = some j) w w1 := Only.of_grown hg (fun k e => e)
  have hb := own_base hs.ow
  have hgs := hs.lt
  exact ⟨hs.bk.but ho (fun e => by have := hb s e; omega), hE.but ho (fun e => by have := hb g e; omega), ho.mono (fun k _ e => .inr (.inr e)), fun k hk => (hown.lt k hk).1⟩
/-- A Write's end. -/
theorem write_fin {w w2 : World} {s g gk k n c2 c3 B : Nat} {nb : Int} {lv : Value} {A2 A3 : Option Addr} {all bs : List UInt8} (hB : Blk w2 s 77 (SC g (Sha.comp (all.length / 64 + k) Sha.H0 (all ++ bs)) (.slice A2 gk c2) all.length))
    (hown : w2.ownsRow B 5 1 (.slice A3 gk c3) gk (u8s ((all ++ bs).drop (64 * (all.length / 64 + k))))) (hsB : s < B) (hgs : g < s) (hE : En w2 g 1 0 fillF (nb + (k : Int))) (hO : Only (fun j => j = s ∨ j = g ∨ lv.ownBlock = some j) w w2)
    (hK : gk + 64 * k = all.length % 64 + n) (hg : gk < 64) (hn : n = bs.length) :
    Sm ((w2.setCell ⟨s, 9, none⟩ (.slice A3 gk c3)).setCell ⟨s, 10, none⟩ (.int .i64 ((all.length : Int) + (n : Int)))) s g (.slice A3 gk c3) (all ++ bs) ∧
    En ((w2.setCell ⟨s, 9, none⟩ (.slice A3 gk c3)).setCell ⟨s, 10, none⟩ (.int .i64 ((all.length : Int) + (n : Int)))) g 1 0 fillF (nb + (((all.length + bs.length) / 64 - all.length / 64 : Nat) : Int)) ∧
    Only (fun j => j = s ∨ j = g ∨ lv.ownBlock = some j) w ((w2.setCell ⟨s, 9, none⟩ (.slice A3 gk c3)).setCell ⟨s, 10, none⟩ (.int .i64 ((all.length : Int) + (n : Int)))) ∧ ∀ j, (Value.slice A3 gk c3).ownBlock = some j → B ≤ j := by
  subst hn
  obtain ⟨W, hW⟩ : ∃ W, W = (w2.setCell ⟨s, 9, none⟩ (.slice A3 gk c3)).setCell ⟨s, 10, none⟩ (.int .i64 ((all.length : Int) + (bs.length : Int))) := ⟨_, rfl⟩
  rw [← hW]
  have ho : Only (fun j => j = s) w2 W := by rw [hW]; exact ((Only.refl (fun j => j = s) w2).setCell (p := ⟨s, 9, none⟩) (.inl rfl) _).setCell (p := ⟨s, 10, none⟩) (.inl rfl) _
  have hb := own_base hown
  have hL : (all ++ bs).length = all.length + bs.length := List.length_append
  have hq : (all ++ bs).length / 64 = all.length / 64 + k := by omega
  have hr : (all ++ bs).length % 64 = gk := by omega
  refine ⟨⟨?_, ?_, hgs⟩, ?_, hO.then ho (fun i _ e => .inl e), hb⟩
  · rw [hq, hL, hW]
    have := SC.count (SC.left hB (.slice A3 gk c3)) ((all.length : Int) + (bs.length : Int))
    simpa using this
  · rw [hq, hr]
    have h1 := own_but hown ho (fun j hj e => by have := hb j hj; omega)
    exact h1.mono (by omega)
  · have := hE.but ho (by omega)
    rw [show nb + (((all.length + bs.length) / 64 - all.length / 64 : Nat) : Int) = nb + (k : Int) by omega]
    exact this
set_option maxRecDepth 100000 in
set_option maxHeartbeats 1000000 in
theorem write_any (w : World) (s g : Nat) (nb : Int) (lv : Value) (all : List UInt8) (hs : Sm w s g lv all) (hE : En w g 1 0 fillF nb) (hnb : 0 ≤ nb ∧ nb ≤ 10000000000000000) (S : Nat → Prop) (A : Option Addr) (c : Nat) (bs : List UInt8) (hx : Bs w S A bs.length c bs) (hn : bs.length ≤ 140737488351232) (ha : all.length ≤ 1000000000000000) :
    Calls Try.prog 13 #[.pointer (some ⟨s, 0, none⟩), .slice A bs.length c] w (WriteEnd w s g nb lv all bs) := by
  obtain ⟨hn1, hn2⟩ := hnb
  have HX := Lib.hid hx
  have HS := Lib.hid hs
  have HE := Lib.hid hE
  obtain ⟨A0, c0, hlv, -⟩ := own_shape hs.ow
  have hbk := hs.bk
  rw [hlv] at hbk
  have q0 := hbk.cell 0
  have q9 := hbk.cell 9
  have f9 := hbk.frozen 9
  have q0' : w.cell? ⟨s, 0, none⟩ = some (.pointer (some ⟨g, 0, none⟩)) := q0
  have q9' : w.cell? ⟨s, 9, none⟩ = some (.slice A0 (all.length % 64) c0) := q9
  have HLV := Lib.hid hlv
  clear q0 q9 hbk hx hs hE hlv
  obtain ⟨n, hnn⟩ : ∃ n, n = bs.length := ⟨_, rfl⟩
  rw [← hnn] at HX hn
  rw [← hnn]
  have HN := Lib.hid hnn
  clear hnn
  have hmf : ∀ (fn : Fn) (first cap : Array Value) (w : World), (Instr.makeFunc fn first cap).run Try.prog w = .ok (.func fn first cap) w := fun _ _ _ _ => rfl
  go_enter Try.func13, Try.ntmps13
  go_wp2_with (at_builtin; go_must ((refine wpList_append_u8 rfl (.tmp 17) (.tmp 18) rfl (base := s + 1) (v := .slice A0 (all.length % 64) c0) (n := all.length % 64) (xs := all.drop (64 * (all.length / 64))) rfl (by have := HS.out.ow; rw [HLV.out] at this; exact this) (A := A) (m := n) (c := c) (ys := bs) rfl HX.out (by omega) (by have := HS.out.bk.lt; omega) ?_); intro v1 w1 hown1 hg1 hat1; obtain ⟨A1, c1, hv1, hx1⟩ := own_bs' hown1; subst hv1; have hM := Lib.hid (write_mid HS.out HLV.out HE.out hown1 hg1); have g0 := hM.out.1.cell 0; have g9 := hM.out.1.cell 9; have e9 := hM.out.1.frozen 9; have g0' : w1.cell? ⟨s, 0, none⟩ = some (.pointer (some ⟨g, 0, none⟩)) := g0; have g9' : w1.cell? ⟨s, 9, none⟩ = some (.slice A0 (all.length % 64) c0) := g9; clear g0 g9 q0' q9' f9 hat1))
  obtain ⟨W1, hW1⟩ : ∃ W1, W1 = w1.setCell ⟨s, 9, none⟩ (.slice A1 (all.length % 64 + n) c1) := ⟨_, rfl⟩
  rw [← hW1]
  have HM1 := Lib.hid (show Wm w W1 s g nb lv A1 (all.length % 64 + n) c1 (all ++ bs) (all.length / 64) all.length by
    rw [hW1]
    have hs1 : Only (fun j => j = s) w1 (w1.setCell ⟨s, 9, none⟩ (.slice A1 (all.length % 64 + n) c1)) := (Only.refl (fun j => j = s) w1).setCell (p := ⟨s, 9, none⟩) (.inl rfl) _
    have hlt := HS.out.lt
    refine ⟨?_, ?_, hM.out.2.1.but hs1 (by omega), (hM.out.2.2.1).then hs1 (fun i _ hi => .inl hi)⟩
    · rw [comp_q]
      exact SC.left hM.out.1 _
    · rw [drop_q]
      exact (hx1.but hs1 (fun k hk _ e => by have := hM.out.2.2.2 k hk; omega)).mono (fun k hk => hM.out.2.2.2 k hk))
  clear hW1 hx1 hM hown1 hg1 g0' g9' e9 HX HE
  obtain ⟨L1, hL1⟩ : ∃ L1, L1 = all.length % 64 + n := ⟨_, rfl⟩
  rw [← hL1] at HM1
  rw [← hL1]
  have HL1 := Lib.hid hL1
  clear hL1
  go_loopg [22] L1 (fun gk _ wr => ∃ (k : Nat) (A2 : Option Addr) (c2 : Nat), Hid (gk + 64 * k = L1) ∧ Hid (Wm w wr s g (nb + (k : Int)) lv A2 gk c2 (all ++ bs) (all.length / 64 + k) all.length))
  case atStart => exact ⟨0, A1, c1, Lib.hid rfl, Lib.hid (by simpa using HM1.out)⟩
  case round =>
    obtain ⟨k, A2, c2, HK, HM⟩ := hrel
    clear HM1
    have m0 := HM.out.bk.cell 0
    have m9 := HM.out.bk.cell 9
    have m0' : wr.cell? ⟨s, 0, none⟩ = some (.pointer (some ⟨g, 0, none⟩)) := m0
    have m9' : wr.cell? ⟨s, 9, none⟩ = some (.slice A2 gk c2) := m9
    clear m0 m9
    by_cases hge : 64 ≤ gk
    · have hge' : (64 : Int) ≤ (gk : Int) := by omega
      have HGE := Lib.hid hge
      obtain ⟨A6, c6, hcut, hcb⟩ := HM.out.bs.upto 64 64 rfl hge
      obtain ⟨A7, c7, hfrom, hcf⟩ := HM.out.bs.from_ 64 64 (gk - 64) rfl (by omega)
      obtain ⟨T, hT⟩ : ∃ T, T = Sha.comp (all.length / 64 + k) Sha.H0 (all ++ bs) := ⟨_, rfl⟩
      have HT := Lib.hid hT
      clear hge hT
      go_wp2_with fail
      have HB2 := Lib.hid (show Blk wr.drew s 77 (SC g T (.slice A2 gk c2) all.length) by rw [HT.out]; exact HM.out.bk.drew)
      have HC2 := Lib.hid (show Bs wr.drew (fun j => s < j) A6 64 c6 _ from hcb.drew)
      have HF2 := Lib.hid (show Bs wr.drew (fun j => s < j) A7 (gk - 64) c7 _ from hcf.drew)
      have HE2 := Lib.hid (show En wr.drew g 1 0 fillF (nb + (k : Int)) from HM.out.en.drew)
      have HO2 := Lib.hid (show Only (fun j => j = s ∨ j = g ∨ lv.ownBlock = some j) w wr.drew from HM.out.on.drew)
      clear hcb hcf HM
      have hs2 := HS.out.lt
      have hkb : (k : Int) ≤ 10000000000000 := by have := HK.out; have := HL1.out; omega
      obtain ⟨k0, k1, k2, k3, k4, k5, k6, k7, k8, k9, -⟩ := SC.cells HB2.out
      go_region_law (first | (go_simp; go_at_call 29; refine (round_lit wr.drew g (nb + (k : Int)) HE2.out T _ A6 c6 _ HC2.out (by omega)).mono ?_; rintro e w2 ⟨B, hB, rfl, hE3, hG3⟩; go_must ((have hB3 := HB2.out.grown hG3 (fun e => by injection e with e; omega); have HBB := Lib.hid hB; clear hB; obtain ⟨l0, l1, l2, l3, l4, l5, l6, l7, l8, l9, h1, h2, h3, h4, h5, h6, h7, h8⟩ := SC.cells hB3))))
      all_goals
        rw [← setCells8]
        obtain ⟨W4, hW4⟩ : ∃ W4, W4 = w2.setCells s 1 (U32 B.list) := ⟨_, rfl⟩
        rw [← hW4]
        have hsc : Only (fun j => j = s) w2 W4 := by rw [hW4]; exact setCells_only s _ _ _
        have H4 := Lib.hid (show Blk W4 s 77 (SC g B (.slice A2 gk c2) all.length) by rw [hW4]; exact SC.store B hB3)
        have hg3 : Only (fun j => j = g) wr.drew w2 := Only.of_grown hG3 (fun j e => by injection e with e; exact e.symm)
        have HE4 := Lib.hid (hE3.but hsc (by omega))
        have HF4 := Lib.hid ((HF2.out.but hg3 (fun j hj _ e => by omega)).but hsc (fun j hj _ e => by omega))
        have HO4 := Lib.hid ((HO2.out.then hg3 (fun i _ e => .inr (.inl e))).then hsc (fun i _ e => .inl e))
        have a9 : W4.cell? ⟨s, 9, none⟩ = some (.slice A2 gk c2) := H4.out.cell 9
        have b9 : W4.frozen? ⟨s, 9, none⟩ = false := H4.out.frozen 9
        clear hW4 hsc hg3 hE3 hG3 hB3 k0 k1 k2 k3 k4 k5 k6 k7 k8 k9 l0 l1 l2 l3 l4 l5 l6 l7 l8 l9 h1 h2 h3 h4 h5 h6 h7 h8 HB2 HC2 HF2 HE2 HO2
        go_wp2_with fail
        go_roundg (gk - 64)
        case measure => have := HGE.out; omega
        case rel =>
          have hs1 : Only (fun j => j = s) W4 (W4.setCell ⟨s, 9, none⟩ (.slice A7 (gk - 64) c7)) := (Only.refl (fun j => j = s) W4).setCell (p := ⟨s, 9, none⟩) (.inl rfl) _
          refine ⟨k + 1, A7, c7, Lib.hid (by have := HK.out; have := HGE.out; omega), Lib.hid ⟨?_, ?_, ?_, HO4.out.then hs1 (fun i _ e => .inl e)⟩⟩
          · rw [← Nat.add_assoc, Sha.comp_snoc, ← HT.out, ← HBB.out]
            exact SC.left H4.out _
          · have := HF4.out.but hs1 (fun j hj _ e => by omega)
            rw [List.drop_drop] at this
            rw [show 64 * (all.length / 64 + (k + 1)) = 64 * (all.length / 64 + k) + 64 by omega]
            exact this
          · have := HE4.out.but hs1 (by omega)
            rw [show nb + ((k + 1 : Nat) : Int) = nb + (k : Int) + 1 by omega]
            exact this
    · have hge' : ¬ (64 : Int) ≤ (gk : Int) := by omega
      have HGE := Lib.hid hge
      have hgk : gk ≤ 100 := by omega
      have hlt2 := HS.out.lt
      have HSS := Lib.hid HS.out.bk.lt
      clear hge
      go_wp2_with fail
      refine (clone_any wr _ A2 gk c2 _ HM.out.bs (by omega)).mono ?_
      rintro e w2 ⟨A3, c3, rfl, hown, hb2⟩
      have HOW := Lib.hid hown
      have hsw : s < wr.heap.size := HM.out.bk.lt
      have HB2 := Lib.hid (HM.out.bk.after hb2)
      have HE2 := Lib.hid (HM.out.en.after hb2)
      have HO2 := Lib.hid (HM.out.on.then (Only.of_after (X := fun _ => False) hb2) (fun _ _ h => h.elim))
      have a9 : w2.cell? ⟨s, 9, none⟩ = some (.slice A2 gk c2) := HB2.out.cell 9
      have b9 : w2.frozen? ⟨s, 9, none⟩ = false := HB2.out.frozen 9
      have a10 : w2.cell? ⟨s, 10, none⟩ = some (.int .i64 (all.length : Int)) := HB2.out.cell 10
      have b10 : w2.frozen? ⟨s, 10, none⟩ = false := HB2.out.frozen 10
      have HSZ := Lib.hid hb2.size
      have HWZ := Lib.hid HM.out.on.size
      clear hown hb2 m0' m9' HM
      go_wp2_with fail
      go_ret
      obtain ⟨f1, f2, f3, f4⟩ := write_fin HB2.out HOW.out hsw hlt2 HE2.out HO2.out (by rw [← HL1.out]; exact HK.out) (by have := HGE.out; omega) HN.out
      exact ⟨ret_int (by rw [HN.out]), _, f1, f2, f3, fun j hj => Nat.le_trans HWZ.out (f4 j hj)⟩
end Go.Proofs.Ytepcbnkhfiphdaa
