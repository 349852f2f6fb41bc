/- What Take and Get answer, in one form each, of the program and of the plain answer. Conditions: each theorem's premises. -/
import Derived.Test.YtaebmhbggbpnoaaGTlv17
import Derived.Test.YtaebmhbggbpnoaaGTlv11
namespace Go.Proofs.Ytaebmhbggbpnoaa
open Go.RowKit
def takeV (b : List UInt8) : TV := match readT 8 b with | none => .zero | some (v, _) => v
def takeR (b : List UInt8) : List UInt8 := match readT 8 b with | none => [] | some (_, r) => r
def takeF (b : List UInt8) : Int := match readT 8 b with | none => 3 | some _ => 0
def getV (b : List UInt8) : TV := match readT 8 b with | none => .zero | some (v, []) => v | some (_, _ :: _) => .zero
def getF (b : List UInt8) : Int := match readT 8 b with | none => 3 | some (_, []) => 0 | some (_, _ :: _) => 3
theorem VR.zero (w : World) (S : Nat → Prop) : VR w S ⟨.int .i64 0, .int .u64 ((0 : Nat) : Int), .slice none 0 0, .slice none 0 0⟩ .zero := VR.shut (by simp [u64ok]) (Bs.nil _ _ _) (by omega) (LR.nil _ _ _)
section
variable (w : World) (S : Nat → Prop) (A : Option Addr) (n c : Nat) (bs : List UInt8) (hx : Bs w S A n c bs) (hn : n ≤ 1000000000)
include hx hn
theorem take_any : Calls Try.prog 20 #[.slice A n c] w fun e w' => ∃ q A' n' c', e = .returned (.tuple #[q.agg, .slice A' n' c', .int .i64 (takeF bs)]) ∧ VR w' AnyB q (takeV bs) ∧ Bs w' AnyB A' n' c' (takeR bs) ∧ n' ≤ 1000000000 ∧ Below w.heap.size w w' := by
  cases h : readT 8 bs with
  | none =>
    refine (take_none w S A n c bs hx hn h).mono ?_
    rintro e w' ⟨rfl, hb⟩
    refine ⟨⟨.int .i64 0, .int .u64 0, .slice none 0 0, .slice none 0 0⟩, none, 0, 0, by simp [takeF, h, Quad.agg], ?_, ?_, by omega, hb⟩
    · simp only [takeV, h]; exact VR.zero _ _
    · simp only [takeR, h]; exact Bs.nil _ _ _
  | some p =>
    obtain ⟨v, r⟩ := p
    refine (take_some w S A n c bs r v hx hn h).mono ?_
    rintro e w' ⟨q, A', n', c', rfl, hv, ho, hn', hb⟩
    obtain ⟨A2, c2, he, hbs⟩ := own_bs ho
    cases he
    refine ⟨q, A', n', c', by simp [takeF, h], ?_, ?_, hn', hb⟩
    · simp only [takeV, h]; exact hv.any
    · simp only [takeR, h]; exact hbs.any
theorem rtake_any : Calls Try.prog 21 #[.slice A n c] w fun e w' => ∃ q A' n' c', e = .returned (.tuple #[q.agg, .slice A' n' c', .int .i64 (takeF bs)]) ∧ VR w' AnyB q (takeV bs) ∧ Bs w' AnyB A' n' c' (takeR bs) ∧ n' ≤ 1000000000 ∧ Below w.heap.size w w' := by
  cases h : readT 8 bs with
  | none =>
    refine (rtake_none w S A n c bs hx hn h).mono ?_
    rintro e w' ⟨rfl, hb⟩
    refine ⟨⟨.int .i64 0, .int .u64 0, .slice none 0 0, .slice none 0 0⟩, none, 0, 0, by simp [takeF, h, Quad.agg], ?_, ?_, by omega, hb⟩
    · simp only [takeV, h]; exact VR.zero _ _
    · simp only [takeR, h]; exact Bs.nil _ _ _
  | some p =>
    obtain ⟨v, r⟩ := p
    refine (rtake_some w S A n c bs r v hx hn h).mono ?_
    rintro e w' ⟨q, A', n', c', rfl, hv, ho, hn', hb⟩
    refine ⟨q, A', n', c', by simp [takeF, h], ?_, ?_, hn', hb⟩
    · simp only [takeV, h]; exact hv.any
    · simp only [takeR, h]; exact ho.any
theorem get_any : Calls Try.prog 22 #[.slice A n c] w fun e w' => ∃ q, e = .returned (.tuple #[q.agg, .int .i64 (getF bs)]) ∧ VR w' AnyB q (getV bs) ∧ Below w.heap.size w w' := by
  cases h : readT 8 bs with
  | none =>
    refine (get_none w S A n c bs hx hn h).mono ?_
    rintro e w' ⟨rfl, hb⟩
    refine ⟨⟨.int .i64 0, .int .u64 0, .slice none 0 0, .slice none 0 0⟩, by simp [getF, h, Quad.agg], ?_, hb⟩
    simp only [getV, h]; exact VR.zero _ _
  | some p =>
    obtain ⟨v, r⟩ := p
    cases r with
    | nil =>
      refine (get_some w S A n c bs v hx hn h).mono ?_
      rintro e w' ⟨q, rfl, hv, hb⟩
      refine ⟨q, by simp [getF, h], ?_, hb⟩
      simp only [getV, h]; exact hv.any
    | cons x xs =>
      refine (get_rest w S A n c bs (x :: xs) v hx hn h (by simp)).mono ?_
      rintro e w' ⟨rfl, hb⟩
      refine ⟨⟨.int .i64 0, .int .u64 0, .slice none 0 0, .slice none 0 0⟩, by simp [getF, h, Quad.agg], ?_, hb⟩
      simp only [getV, h]; exact VR.zero _ _
theorem rget_any : Calls Try.prog 23 #[.slice A n c] w fun e w' => ∃ q, e = .returned (.tuple #[q.agg, .int .i64 (getF bs)]) ∧ VR w' AnyB q (getV bs) ∧ Below w.heap.size w w' := by
  cases h : readT 8 bs with
  | none =>
    refine (rget_none w S A n c bs hx hn h).mono ?_
    rintro e w' ⟨rfl, hb⟩
    refine ⟨⟨.int .i64 0, .int .u64 0, .slice none 0 0, .slice none 0 0⟩, by simp [getF, h, Quad.agg], ?_, hb⟩
    simp only [getV, h]; exact VR.zero _ _
  | some p =>
    obtain ⟨v, r⟩ := p
    cases r with
    | nil =>
      refine (rget_some w S A n c bs v hx hn h).mono ?_
      rintro e w' ⟨q, rfl, hv, hb⟩
      refine ⟨q, by simp [getF, h], ?_, hb⟩
      simp only [getV, h]; exact hv.any
    | cons x xs =>
      refine (rget_rest w S A n c bs (x :: xs) v hx hn h (by simp)).mono ?_
      rintro e w' ⟨rfl, hb⟩
      refine ⟨⟨.int .i64 0, .int .u64 0, .slice none 0 0, .slice none 0 0⟩, by simp [getF, h, Quad.agg], ?_, hb⟩
      simp only [getV, h]; exact VR.zero _ _
end
theorem next_below {W w1 w2 : World} (h : Hid (Below W.heap.size W w1)) (hb : Below w1.heap.size w1 w2) : Hid (Below W.heap.size W w2) := Lib.hid (h.out.trans (hb.mono h.out.size))
theorem hold16 {W w' : World} {b3 b6 b9 b11 : Nat} {t3 t6 t9 t11 : TypeId} {a0 a1 a2 a3 e0 e1 e2 e3 i0 i1 i2 i3 k0 k1 k2 k3 : Value} (h3 : Blk W b3 t3 #[a0, a1, a2, a3]) (h6 : Blk W b6 t6 #[e0, e1, e2, e3]) (h9 : Blk W b9 t9 #[i0, i1, i2, i3]) (h11 : Blk W b11 t11 #[k0, k1, k2, k3]) (hb : Hid (Below W.heap.size W w')) :
    w'.cell? ⟨b3, 0, none⟩ = some a0 ∧ w'.cell? ⟨b3, 1, none⟩ = some a1 ∧ w'.cell? ⟨b3, 2, none⟩ = some a2 ∧ w'.cell? ⟨b3, 3, none⟩ = some a3 ∧
    w'.cell? ⟨b6, 0, none⟩ = some e0 ∧ w'.cell? ⟨b6, 1, none⟩ = some e1 ∧ w'.cell? ⟨b6, 2, none⟩ = some e2 ∧ w'.cell? ⟨b6, 3, none⟩ = some e3 ∧
    w'.cell? ⟨b9, 0, none⟩ = some i0 ∧ w'.cell? ⟨b9, 1, none⟩ = some i1 ∧ w'.cell? ⟨b9, 2, none⟩ = some i2 ∧ w'.cell? ⟨b9, 3, none⟩ = some i3 ∧
    w'.cell? ⟨b11, 0, none⟩ = some k0 ∧ w'.cell? ⟨b11, 1, none⟩ = some k1 ∧ w'.cell? ⟨b11, 2, none⟩ = some k2 ∧ w'.cell? ⟨b11, 3, none⟩ = some k3 ∧ Hid (Below W.heap.size W w') := by
  obtain ⟨x0, x1, x2, x3, -⟩ := (h3.after hb.out).four
  obtain ⟨y0, y1, y2, y3, -⟩ := (h6.after hb.out).four
  obtain ⟨z0, z1, z2, z3, -⟩ := (h9.after hb.out).four
  obtain ⟨u0, u1, u2, u3, -⟩ := (h11.after hb.out).four
  exact ⟨x0, x1, x2, x3, y0, y1, y2, y3, z0, z1, z2, z3, u0, u1, u2, u3, hb⟩
end Go.Proofs.Ytaebmhbggbpnoaa
