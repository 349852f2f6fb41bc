/- Walks of the plain comparison of values (hayloftref01.Same), and of Back (hayloftlaw01). Conditions: each theorem's premises. -/
import Derived.Test.YtaebmhbggbpnoaaGTlvMem
import Derived.Test.YtaebmhbggbpnoaaGTlv5
import Derived.Deep.RegionWith
import Derived.StillTailTactics
namespace Go.Proofs.Ytaebmhbggbpnoaa
open Go.RowKit
/-- Are they the same? -/
noncomputable def sameB (a b : TV) : Bool := @decide (a = b) (Classical.propDecidable _)
theorem sameB_of {a b : TV} (h : a = b) : sameB a b = true := by unfold sameB; exact @decide_eq_true _ (Classical.propDecidable _) h
theorem sameB_ne {a b : TV} (h : a ≠ b) : sameB a b = false := by unfold sameB; exact @decide_eq_false _ (Classical.propDecidable _) h
theorem sameB_true {a b : TV} (h : sameB a b = true) : a = b := by unfold sameB at h; exact @of_decide_eq_true _ (Classical.propDecidable _) h
theorem sizeOf_at {l : List TV} {k : Nat} {v : TV} (h : l[k]? = some v) (t : Int) (n : Nat) (b : List UInt8) : SizeOf.sizeOf v < SizeOf.sizeOf (TV.mk t n b l) := by
  have h1 : v ∈ l := List.mem_of_getElem? h
  have h2 := List.sizeOf_lt_of_mem h1
  simp
  omega
theorem i_ne {a b : Int} (h : a ≠ b) : (a != b) = true := by simp [h]
set_option maxRecDepth 10000 in
set_option maxHeartbeats 2000000 in
theorem rsame_any (N : Nat) : ∀ (a b : TV) (q p : Quad) (w : World) (S S' : Nat → Prop), SizeOf.sizeOf a < N → VR w S q a → VR w S' p b →
    Calls Try.prog 24 #[q.agg, p.agg] w fun e w' => e = .returned (.bool (sameB a b)) ∧ Below w.heap.size w w' := by
  induction N with
  | zero => intro a b q p w S S' h; omega
  | succ N ih =>
    intro a b q p w S S' hN ha hb
    obtain ⟨t1, n1, b1, l1, A1, B1, c1, d1, e1, g1, rfl, rfl, hu1, hb1, hc1, hl1⟩ := ha.opens
    obtain ⟨t2, n2, b2, l2, A2, B2, c2, d2, e2, g2, rfl, rfl, hu2, hb2, hc2, hl2⟩ := hb.opens
    clear ha hb
    dsimp only [Quad.agg]
    have h2 : Below w.heap.size w ((w.alloc (.cells #[.int .i64 t1, .int .u64 (n1 : Int), .slice A1 c1 d1, .slice B1 e1 g1] 33)).alloc (.cells #[.int .i64 t2, .int .u64 (n2 : Int), .slice A2 c2 d2, .slice B2 e2 g2] 33)) := ((Below.refl _ _).alloc (Nat.le_refl _) _).alloc (by simp) _
    have IH := Lib.hid ih
    clear ih
    by_cases k1 : t1 = t2
    · subst k1
      by_cases k2 : n1 = n2
      · subst k2
        have HB := Lib.hid (bytes_any _ S S' A1 A2 c1 c2 d1 d2 b1 b2 (hb1.after h2) (hb2.after h2) hc1 hc2)
        by_cases k3 : b1 = b2
        · subst k3
          have HB2 := Lib.hid (HB.out.mono (R' := fun e w' => e = .returned (.bool true) ∧ ∃ k, w' = ((w.alloc (.cells #[.int .i64 t1, .int .u64 (n1 : Int), .slice A1 c1 d1, .slice B1 e1 g1] 33)).alloc (.cells #[.int .i64 t1, .int .u64 (n1 : Int), .slice A2 c2 d2, .slice B2 e2 g2] 33)).drewN k) (by rintro e w' ⟨rfl, hk⟩; exact ⟨by simp, hk⟩))
          clear HB
          by_cases k4 : e1 = e2
          · subst k4
            go_enter Try.func24, Try.ntmps24
            go_wp2_with fail
            refine (HB2.out).mono ?_
            rintro e w1 ⟨rfl, k, rfl⟩
            go_wp2_with fail
            have hbk : Below w.heap.size w (((w.alloc (.cells #[.int .i64 t1, .int .u64 (n1 : Int), .slice A1 c1 d1, .slice B1 e1 g1] 33)).alloc (.cells #[.int .i64 t1, .int .u64 (n1 : Int), .slice A2 c2 d2, .slice B2 e1 g2] 33)).drewN k) := below_drewN h2 _
            have hX1 : Blk (((w.alloc (.cells #[.int .i64 t1, .int .u64 (n1 : Int), .slice A1 c1 d1, .slice B1 e1 g1] 33)).alloc (.cells #[.int .i64 t1, .int .u64 (n1 : Int), .slice A2 c2 d2, .slice B2 e1 g2] 33)).drewN k) w.heap.size 33 #[.int .i64 t1, .int .u64 (n1 : Int), .slice A1 c1 d1, .slice B1 e1 g1] := ((Blk.new w 33 _).alloc _).drewN _
            have hX2 : Blk (((w.alloc (.cells #[.int .i64 t1, .int .u64 (n1 : Int), .slice A1 c1 d1, .slice B1 e1 g1] 33)).alloc (.cells #[.int .i64 t1, .int .u64 (n1 : Int), .slice A2 c2 d2, .slice B2 e1 g2] 33)).drewN k) (w.heap.size + 1) 33 #[.int .i64 t1, .int .u64 (n1 : Int), .slice A2 c2 d2, .slice B2 e1 g2] := by
              have := (Blk.new (w.alloc (.cells #[.int .i64 t1, .int .u64 (n1 : Int), .slice A1 c1 d1, .slice B1 e1 g1] 33)) 33 #[.int .i64 t1, .int .u64 (n1 : Int), .slice A2 c2 d2, .slice B2 e1 g2]).drewN k
              simpa only [World.size_alloc] using this
            generalize (((w.alloc (.cells #[.int .i64 t1, .int .u64 (n1 : Int), .slice A1 c1 d1, .slice B1 e1 g1] 33)).alloc (.cells #[.int .i64 t1, .int .u64 (n1 : Int), .slice A2 c2 d2, .slice B2 e1 g2] 33)).drewN k) = W at hbk hX1 hX2 ⊢
            clear HB2
            go_loopw [5] (fun i wr => ∃ k : Nat, k ≤ e1 ∧ i = .int .i64 (k : Int) ∧ Hid (l1.take k = l2.take k) ∧ Hid (Below W.heap.size W wr)) (fun i _ => e1 - (intOf i).toNat)
            case atStart => exact ⟨0, Nat.zero_le _, rfl, Lib.hid (by simp), Lib.hid (Below.refl _ _)⟩
            case round =>
              obtain ⟨k, hk, rfl, htk, hbr⟩ := hrel
              obtain ⟨y0, y1, y2, y3, g0, g1', g2', g3, hy⟩ := (hX1.after hbr.out).four
              obtain ⟨z0, z1, z2, z3, f0, f1, f2, f3, hz⟩ := (hX2.after hbr.out).four
              have hfe := hl1.few
              by_cases hlt : k < e1
              · have hbw := hbk.trans (hbr.out.mono hbk.size)
                obtain ⟨ad1, p1, q1, v1, rfl, hp1, hv1, hr1, a0, a1, a2, a3, -, -⟩ := (hl1.after hbw).at_ hlt
                obtain ⟨ad2, p2, q2, v2, rfl, hp2, hv2, hr2, b0', b1', b2', b3', -, -⟩ := (hl2.after hbw).at_ hlt
                have hlt' : (k : Int) < (e1 : Int) := by omega
                have HC0 := IH.out v1 v2 q1 q2 wr.drew _ _ (by have := sizeOf_at hv1.out t1 n1 b1; omega) hr1.drew hr2.drew
                cases hsb : sameB v1 v2 with
                | true =>
                  rw [hsb] at HC0
                  have HC := Lib.hid HC0
                  have htk' : Hid (l1.take (k + 1) = l2.take (k + 1)) := Lib.hid (by rw [take_snoc hv1.out, take_snoc hv2.out, htk.out, sameB_true hsb])
                  clear hsb HC0
                  obtain ⟨u1, m1, x1, y1', P1, P2, i1, i2, i3, i4, rfl, rfl, -⟩ := hr1.opens
                  obtain ⟨u2, m2, x2, y2', P3, P4, j1, j2, j3, j4, rfl, rfl, -⟩ := hr2.opens
                  go_wp2_with fail
                  go_still_tail 10, (by kernel_rfl)
                  go_wp2_with fail
                  refine (HC.out).mono ?_
                  rintro e w1 ⟨rfl, hb5⟩
                  all_goals
                    go_wp2_with fail
                    exact ⟨⟨k + 1, by omega, by go_num, htk', Lib.hid (hbr.out.drew.trans (hb5.mono hbr.out.size))⟩, by simp [intOf]; omega⟩
                | false =>
                  rw [hsb] at HC0
                  have HC := Lib.hid HC0
                  have hne : Hid (TV.mk t1 n1 b1 l1 ≠ TV.mk t1 n1 b1 l2) := Lib.hid (by
                    intro h
                    injection h with _ _ _ h
                    have h1 := hv1.out
                    rw [h, hv2.out] at h1
                    injection h1 with h1
                    rw [sameB_of h1.symm] at hsb
                    cases hsb)
                  clear hsb HC0
                  obtain ⟨u1, m1, x1, y1', P1, P2, i1, i2, i3, i4, rfl, rfl, -⟩ := hr1.opens
                  obtain ⟨u2, m2, x2, y2', P3, P4, j1, j2, j3, j4, rfl, rfl, -⟩ := hr2.opens
                  go_wp2_with fail
                  go_still_tail 10, (by kernel_rfl)
                  go_wp2_with fail
                  refine (HC.out).mono ?_
                  rintro e w1 ⟨rfl, hb5⟩
                  all_goals
                    go_wp2_with fail
                    go_ret
                    exact ⟨ret_bool (sameB_ne hne.out).symm, hbw.drew.trans (hb5.mono hbw.size)⟩
              · obtain rfl : k = e1 := by omega
                have heq : TV.mk t1 n1 b1 l1 = TV.mk t1 n1 b1 l2 := by
                  have := htk.out
                  rw [List.take_of_length_le (by rw [hl1.len]; omega), List.take_of_length_le (by rw [hl2.len]; omega)] at this
                  rw [this]
                have HE := Lib.hid heq
                clear heq
                go_wp2_with fail
                go_ret
                exact ⟨ret_bool (sameB_of HE.out).symm, hbk.trans (hbr.out.mono hbk.size)⟩
          · have q4 : ((e1 : Int) != (e2 : Int)) = true := i_ne (by omega)
            have hne : Hid (TV.mk t1 n1 b1 l1 ≠ TV.mk t1 n1 b1 l2) := Lib.hid (by intro h; injection h with _ _ _ h; have := hl1.len; have := hl2.len; subst h; omega)
            clear k4
            go_enter Try.func24, Try.ntmps24
            go_wp2_with fail
            refine (HB2.out).mono ?_
            rintro e w1 ⟨rfl, k, rfl⟩
            go_wp2_with fail
            go_ret
            exact ⟨ret_bool (sameB_ne hne.out).symm, below_drewN h2 _⟩
        · have hne : Hid (TV.mk t1 n1 b1 l1 ≠ TV.mk t1 n1 b2 l2) := Lib.hid (by intro h; injection h with _ _ h _; exact k3 h)
          have HB2 := Lib.hid (HB.out.mono (R' := fun e w' => e = .returned (.bool false) ∧ ∃ k, w' = ((w.alloc (.cells #[.int .i64 t1, .int .u64 (n1 : Int), .slice A1 c1 d1, .slice B1 e1 g1] 33)).alloc (.cells #[.int .i64 t1, .int .u64 (n1 : Int), .slice A2 c2 d2, .slice B2 e2 g2] 33)).drewN k) (by rintro e w' ⟨rfl, hk⟩; exact ⟨by simp [k3], hk⟩))
          clear HB k3
          go_enter Try.func24, Try.ntmps24
          go_wp2_with fail
          refine (HB2.out).mono ?_
          rintro e w1 ⟨rfl, k, rfl⟩
          go_wp2_with fail
          go_ret
          exact ⟨ret_bool (sameB_ne hne.out).symm, below_drewN h2 _⟩
      · have q2 : ((n1 : Int) != (n2 : Int)) = true := i_ne (by omega)
        have hne : Hid (TV.mk t1 n1 b1 l1 ≠ TV.mk t1 n2 b2 l2) := Lib.hid (by intro h; injection h with _ h _ _; exact k2 h)
        clear k2
        go_enter Try.func24, Try.ntmps24
        go_wp2_with fail
        go_ret
        exact ⟨ret_bool (sameB_ne hne.out).symm, h2⟩
    · have q2 : (t1 != t2) = true := i_ne k1
      have hne : Hid (TV.mk t1 n1 b1 l1 ≠ TV.mk t2 n2 b2 l2) := Lib.hid (by intro h; injection h with h _ _ _; exact k1 h)
      clear k1
      go_enter Try.func24, Try.ntmps24
      go_wp2_with fail
      go_ret
      exact ⟨ret_bool (sameB_ne hne.out).symm, h2⟩
end Go.Proofs.Ytaebmhbggbpnoaa
