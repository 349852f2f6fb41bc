/- Walks of tlv: which values have no fields but their own (only), how long a form is (inner), Right, Size. Conditions: each theorem's premises. -/
import Derived.Test.YtaebmhbggbpnoaaTlv1
import Derived.Test.YtaebmhbggbpnoaaShelf
import Derived.Test.YtaebmhbggbpnoaaPut
import Derived.StillTailTactics
namespace Go.Proofs.Ytaebmhbggbpnoaa
open Go.RowKit
theorem dpos (k : Nat) : decide (0 < k) = !decide (k = 0) := by cases k <;> simp
theorem onlyT_a {w : World} {S : Nat → Prop} {A2 A3 : Option Addr} {n2 c2 n3 c3 : Nat} {b : List UInt8} {l : List TV} (hb : Bs w S A2 n2 c2 b) (hl : LR w S A3 n3 c3 l) (t : Int) (n : Nat) :
    onlyT (.mk t n b l) = if t = 1 then decide (¬ 0 < n2) && decide (¬ 0 < n3) else if t = 2 then decide (n = 0) && decide (¬ 0 < n3) else if t = 3 then decide (n = 0) && decide (¬ 0 < n2) else false := by
  have h2 : b.isEmpty = decide (¬ 0 < n2) := by have := hb.len; cases b <;> simp_all <;> omega
  have h3 : l.isEmpty = decide (¬ 0 < n3) := by have := hl.len; cases l <;> simp_all <;> omega
  simp only [onlyT, h2, h3]
  rfl
set_option maxRecDepth 10000 in
set_option maxHeartbeats 1000000 in
theorem only_any (w : World) (S : Nat → Prop) (q : Quad) (v : TV) (h : VR w S q v) :
    Calls Try.prog 124 #[q.agg] w fun e w' => e = .returned (.bool (onlyT v)) ∧ Below w.heap.size w w' := by
  obtain ⟨t, n, b, l, A2, A3, n2, c2, n3, c3, rfl, rfl, hu, hb, h2, hl⟩ := h.opens
  have ho := onlyT_a hb hl t n
  obtain ⟨r, hr⟩ : ∃ r, r = onlyT (.mk t n b l) := ⟨_, rfl⟩
  rw [← hr]
  rw [ho] at hr
  have HR := Lib.hid hr
  have hbw : ∀ o, Below w.heap.size w (w.alloc o) := fun o => ((Below.refl _ _).alloc (Nat.le_refl _) o)
  have HB := Lib.hid hbw
  clear ho h hb hl hu h2 hr hbw
  dsimp only [Quad.agg]
  by_cases t1 : t = 1
  · have T1 : (t == 1) = true := by simp [t1]
    have HT := Lib.hid t1
    clear t1
    go_enter Try.func124, Try.ntmps124
    go_wp2_with fail
    go_quiet (fail)
    go_wp2_with fail
    all_goals
      go_ret
      refine ⟨ret_bool ?_, below_drewN (HB.out _) _⟩
      rw [HR.out, if_pos HT.out]
      simp [*, dpos]
  have T1 : (t == 1) = false := by simp [t1]
  by_cases t2 : t = 2
  · have T2 : (t == 2) = true := by simp [t2]
    have HT := Lib.hid t2
    have HT1 := Lib.hid t1
    clear t1 t2
    go_enter Try.func124, Try.ntmps124
    go_wp2_with fail
    go_quiet (fail)
    go_wp2_with fail
    all_goals
      go_ret
      refine ⟨ret_bool ?_, below_drewN (HB.out _) _⟩
      rw [HR.out, if_neg HT1.out, if_pos HT.out]
      simp_all [dpos]
  have T2 : (t == 2) = false := by simp [t2]
  by_cases t3 : t = 3
  · have T3 : (t == 3) = true := by simp [t3]
    have HT := Lib.hid t3
    have HT1 := Lib.hid t1
    have HT2 := Lib.hid t2
    clear t1 t2 t3
    go_enter Try.func124, Try.ntmps124
    go_wp2_with fail
    go_quiet (fail)
    go_wp2_with fail
    all_goals
      go_ret
      refine ⟨ret_bool ?_, below_drewN (HB.out _) _⟩
      rw [HR.out, if_neg HT1.out, if_neg HT2.out, if_pos HT.out]
      simp_all [dpos]
  · have T3 : (t == 3) = false := by simp [t3]
    have HT3 := Lib.hid t3
    have HT1 := Lib.hid t1
    have HT2 := Lib.hid t2
    clear t1 t2 t3
    go_enter Try.func124, Try.ntmps124
    go_wp2_with fail
    go_quiet (fail)
    go_wp2_with fail
    all_goals
      go_ret
      refine ⟨ret_bool ?_, below_drewN (HB.out _) _⟩
      rw [HR.out, if_neg HT1.out, if_neg HT2.out, if_neg HT3.out]
end Go.Proofs.Ytaebmhbggbpnoaa
