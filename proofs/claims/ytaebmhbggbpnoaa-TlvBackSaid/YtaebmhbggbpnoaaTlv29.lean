/- Values that a law builds, put and compared, in one form each. Conditions: each theorem's premises. -/
import Derived.Test.YtaebmhbggbpnoaaTlv28
import Derived.Test.YtaebmhbggbpnoaaTlv16
import Derived.Test.YtaebmhbggbpnoaaTlv25
import Derived.Test.YtaebmhbggbpnoaaLaw
namespace Go.Proofs.Ytaebmhbggbpnoaa
open Go.RowKit
theorem VR.okT {w : World} {S : Nat → Prop} {q : Quad} {v : TV} (h : VR w S q v) : OkT v := by
  induction h with
  | mk hu hb h2 hq hl hc h3 hr hv ih =>
    refine .mk hu (fun i x hx => ?_)
    have hi : i < _ := (List.getElem?_eq_some_iff.1 hx).1
    exact ih i _ x (List.getElem?_eq_getElem (by omega)) hx
theorem build_any (d : Nat) (hd : d ≤ 1000000) : BuildSaid d := by
  induction d with
  | zero => intro w S A n c l h hn hsh; exact build_out 0 hd w S A n c hn (.inr rfl)
  | succ d ih =>
    intro w S A n c l h hn hsh
    rcases Nat.eq_zero_or_pos n with h0 | h0
    · exact build_out (d + 1) hd w S A n c hn (.inl h0)
    · exact build_in d (by omega) (ih (by omega)) w S A n c l h hn hsh h0
/-- build of light nodes. -/
theorem buildL_any (w : World) (S : Nat → Prop) (A : Option Addr) (n c : Nat) (l : List ND) (h : NR w S A n c l) (hl : lightB l = true) :
    Calls Try.prog 44 #[.slice A n c, .int .i64 12] w fun e w' => ∃ t1 m1 P1 i1 i2 P2 i3 i4 t2 m2 Q1 j1 j2 Q2 j3 j4 v m, e = .returned (.tuple #[.agg #[.int .i64 t1, .int .u64 ((m1 : Nat) : Int), .slice P1 i1 i2, .slice P2 i3 i4], .agg #[.int .i64 t2, .int .u64 ((m2 : Nat) : Int), .slice Q1 j1 j2, .slice Q2 j3 j4], .int .i64 ((m : Nat) : Int)]) ∧
      VR w' AnyB ⟨.int .i64 t1, .int .u64 (m1 : Int), .slice P1 i1 i2, .slice P2 i3 i4⟩ v ∧ VR w' AnyB ⟨.int .i64 t2, .int .u64 (m2 : Int), .slice Q1 j1 j2, .slice Q2 j3 j4⟩ v ∧ OkT v ∧ Below w.heap.size w w' := by
  have hn : n ≤ 40 := by
    have := h.len
    simp only [lightB, Bool.and_eq_true, decide_eq_true_eq] at hl
    omega
  have hsh : ∀ x ∈ l, x.bytes.length ≤ 3000 := fun x hx => by
    simp only [lightB, Bool.and_eq_true, decide_eq_true_eq, List.all_eq_true] at hl
    exact hl.2 x hx
  refine (build_any 12 (by omega) w S A n c l h hn hsh).mono ?_
  rintro e w' ⟨qa, qb, v, m, rfl, ha, hb, -, hbe⟩
  obtain ⟨t1, m1, x1, y1, P1, P2, i1, i2, i3, i4, rfl, -⟩ := ha.opens
  obtain ⟨t2, m2, x2, y2, Q1, Q2, j1, j2, j3, j4, rfl, -⟩ := hb.opens
  exact ⟨t1, m1, P1, i1, i2, P2, i3, i4, t2, m2, Q1, j1, j2, Q2, j3, j4, v, m, rfl, ha.any, hb.any, ha.okT, hbe⟩
def putB (v : TV) : List UInt8 := (putT 8 v).getD []
def putF (v : TV) : Int := if (putT 8 v).isSome then 0 else 1
theorem put_one (v : TV) (q : Quad) (w : World) (S : Nat → Prop) (h : VR w S q v) : Calls Try.prog 45 #[q.agg] w fun e w' => ∃ A n c, e = .returned (.tuple #[.slice A n c, .int .i64 (putF v)]) ∧ Bs w' (fun k => w.heap.size ≤ k) A n c (putB v) ∧ n ≤ 70000 ∧ Below w.heap.size w w' := by
  refine (put_any v q w S h).mono ?_
  intro e w' hp
  unfold putB putF
  cases hv : putT 8 v with
  | none =>
    rw [hv] at hp
    obtain ⟨rfl, hb⟩ := hp
    exact ⟨none, 0, 0, rfl, Bs.nil _ _ _, by omega, hb⟩
  | some xs =>
    rw [hv] at hp
    obtain ⟨A, c, rfl, hx, hl, hb⟩ := hp
    exact ⟨A, _, c, rfl, hx, hl, hb⟩
theorem rput_one (v : TV) (q : Quad) (w : World) (S : Nat → Prop) (h : VR w S q v) : Calls Try.prog 46 #[q.agg] w fun e w' => ∃ A n c, e = .returned (.tuple #[.slice A n c, .int .i64 (putF v)]) ∧ Bs w' (fun k => w.heap.size ≤ k) A n c (putB v) ∧ n ≤ 70000 ∧ Below w.heap.size w w' := by
  refine (rput_any v q w S h).mono ?_
  intro e w' hp
  unfold putB putF
  cases hv : putT 8 v with
  | none =>
    rw [hv] at hp
    obtain ⟨rfl, hb⟩ := hp
    exact ⟨none, 0, 0, rfl, Bs.nil _ _ _, by omega, hb⟩
  | some xs =>
    rw [hv] at hp
    obtain ⟨A, c, rfl, hx, hl, hb⟩ := hp
    exact ⟨A, _, c, rfl, hx, hl, hb⟩
theorem right_put (v : TV) : rightB v = (putF v == 0) := by
  unfold rightB putF putT
  cases bodyT 8 v <;> simp
theorem size_put (v : TV) : sizeT v = (putB v).length := by
  unfold sizeT putB putT
  cases bodyT 8 v <;> simp [headT]
theorem VR.low' {w w' : World} {S : Nat → Prop} {q : Quad} {v : TV} (h : VR w S q v) (hb : Below w.heap.size w w') : VR w' AnyB q v := (h.after hb).any
/-- Two boxes laid one behind the other. -/
theorem two_boxes (w : World) (q p : Quad) (t u : TypeId) : Blk ((w.alloc (.cells #[q.a, q.b, q.c, q.d] t)).alloc (.cells #[p.a, p.b, p.c, p.d] u)) w.heap.size t #[q.a, q.b, q.c, q.d] ∧
    Blk ((w.alloc (.cells #[q.a, q.b, q.c, q.d] t)).alloc (.cells #[p.a, p.b, p.c, p.d] u)) (w.heap.size + 1) u #[p.a, p.b, p.c, p.d] ∧
    Below w.heap.size w ((w.alloc (.cells #[q.a, q.b, q.c, q.d] t)).alloc (.cells #[p.a, p.b, p.c, p.d] u)) := by
  refine ⟨(Blk.new w t _).alloc _, ?_, ((Below.refl _ _).alloc (Nat.le_refl _) _).alloc (by simp) _⟩
  have := Blk.new (w.alloc (.cells #[q.a, q.b, q.c, q.d] t)) u #[p.a, p.b, p.c, p.d]
  simpa only [World.size_alloc] using this
end Go.Proofs.Ytaebmhbggbpnoaa
