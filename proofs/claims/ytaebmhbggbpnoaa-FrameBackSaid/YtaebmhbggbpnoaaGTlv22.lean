/- The walk of tlv.Same, with slices.EqualFunc. Conditions: each theorem's premises. -/
import Derived.Test.YtaebmhbggbpnoaaGTlv12
import Derived.Test.YtaebmhbggbpnoaaGTlv10
namespace Go.Proofs.Ytaebmhbggbpnoaa
open Go.RowKit
def SameSaid (N : Nat) : Prop := ∀ (a b : TV) (q p : Quad) (w : World) (S S' : Nat → Prop), SizeOf.sizeOf a < N → VR w S q a → VR w S' p b →
    Calls Try.prog 48 #[q.agg, p.agg] w fun e w' => e = .returned (.bool (sameB a b)) ∧ Below w.heap.size w w'
noncomputable def listB (l m : List TV) : Bool := @decide (l = m) (Classical.propDecidable _)
theorem listB_of {a b : List TV} (h : a = b) : listB a b = true := by unfold listB; exact @decide_eq_true _ (Classical.propDecidable _) h
theorem listB_ne {a b : List TV} (h : a ≠ b) : listB a b = false := by unfold listB; exact @decide_eq_false _ (Classical.propDecidable _) h
theorem listB_true {a b : List TV} (h : listB a b = true) : a = b := by unfold listB at h; exact @of_decide_eq_true _ (Classical.propDecidable _) h
set_option maxRecDepth 10000 in
set_option maxHeartbeats 4000000 in
theorem eqf_any (N : Nat) (ih : SameSaid N) (w : World) (S S' : Nat → Prop) (A A' : Option Addr) (n n' c c' : Nat) (l m : List TV) (hl : LR w S A n c l) (hm : LR w S' A' n' c' m) (hN : ∀ x ∈ l, SizeOf.sizeOf x < N) :
    Calls Try.prog 99 #[.slice A n c, .slice A' n' c', .func (.func 48) #[] #[]] w fun e w' => e = .returned (.bool (listB l m)) ∧ Below w.heap.size w w' := by
  have IH := Lib.hid ih
  have HN := Lib.hid hN
  have hf := hl.few
  have hf' := hm.few
  by_cases hne : n = n'
  · subst hne
    clear hN
    go_enter Try.func99, Try.ntmps99
    go_wp2_with fail
    go_loopw [17] (fun i wr => ∃ k : Nat, k ≤ n ∧ i = .int .i64 (k : Int) ∧ Hid (l.take k = m.take k) ∧ Hid (Below w.heap.size w wr)) (fun i _ => n - (intOf i).toNat)
    case atStart => exact ⟨0, Nat.zero_le _, rfl, Lib.hid (by simp), Lib.hid (Below.refl _ _)⟩
    case round =>
      obtain ⟨k, hk, rfl, htk, hbr⟩ := hrel
      by_cases hlt : k < n
      · obtain ⟨ad1, p1, q1, v1, rfl, hp1, hv1, hr1, a0, a1, a2, a3, -, -⟩ := (hl.after hbr.out).at_ hlt
        obtain ⟨ad2, p2, q2, v2, rfl, hp2, hv2, hr2, b0', b1', b2', b3', -, hb4⟩ := (hm.after hbr.out).at_ hlt
        have hlt' : (k : Int) < (n : Int) := by omega
        have hba : ∀ o1 o2, Below wr.heap.size wr ((wr.alloc o1).alloc o2) := fun o1 o2 => ((Below.refl _ _).alloc (Nat.le_refl _) _).alloc (by simp) _
        have HC0 := fun o1 o2 => IH.out v1 v2 q1 q2 ((wr.alloc o1).alloc o2) _ _ (HN.out v1 (List.mem_of_getElem? hv1.out)) (hr1.after (hba o1 o2)) (hr2.after (hba o1 o2))
        have HBA := Lib.hid hba
        cases hsb : sameB v1 v2 with
        | true =>
          rw [hsb] at HC0
          have HC := Lib.hid HC0
          have htk' : Hid (l.take (k + 1) = m.take (k + 1)) := Lib.hid (by rw [take_snoc hv1.out, take_snoc hv2.out, htk.out, sameB_true hsb])
          clear hsb HC0 hba
          obtain ⟨u1, m1, x1, y1', P1, P2, i1, i2, i3, i4, rfl, rfl, -⟩ := hr1.opens
          obtain ⟨u2, m2, x2, y2', P3, P4, j1, j2, j3, j4, rfl, rfl, -⟩ := hr2.opens
          clear hr1 hr2
          go_wp2_with fail
          refine (HC.out _ _).mono ?_
          rintro e w1 ⟨rfl, hb5⟩
          go_wp2_with fail
          exact ⟨⟨k + 1, by omega, by go_num, htk', Lib.hid (hbr.out.trans (((HBA.out _ _).trans (hb5.mono (HBA.out _ _).size)).mono hbr.out.size))⟩, by simp [intOf]; omega⟩
        | false =>
          rw [hsb] at HC0
          have HC := Lib.hid HC0
          have hne : Hid (l ≠ m) := Lib.hid (by
            rintro rfl
            have h1 := hv1.out
            rw [hv2.out] at h1
            injection h1 with h1
            rw [sameB_of h1.symm] at hsb
            cases hsb)
          clear hsb HC0 hba
          obtain ⟨u1, m1, x1, y1', P1, P2, i1, i2, i3, i4, rfl, rfl, -⟩ := hr1.opens
          obtain ⟨u2, m2, x2, y2', P3, P4, j1, j2, j3, j4, rfl, rfl, -⟩ := hr2.opens
          clear hr1 hr2
          go_wp2_with fail
          refine (HC.out _ _).mono ?_
          rintro e w1 ⟨rfl, hb5⟩
          go_wp2_with fail
          go_ret
          exact ⟨ret_bool (listB_ne hne.out).symm, hbr.out.trans (((HBA.out _ _).trans (hb5.mono (HBA.out _ _).size)).mono hbr.out.size)⟩
      · obtain rfl : k = n := by omega
        have heq : l = m := by
          have := htk.out
          rwa [List.take_of_length_le (by rw [hl.len]; omega), List.take_of_length_le (by rw [hm.len]; omega)] at this
        have HE := Lib.hid heq
        clear heq
        go_wp2_with fail
        go_ret
        exact ⟨ret_bool (listB_of HE.out).symm, hbr.out⟩
  · have h0 : ((n : Int) != (n' : Int)) = true := i_ne (by omega)
    have Hne : Hid (l ≠ m) := Lib.hid (by rintro rfl; have := hl.len; have := hm.len; omega)
    clear hne
    go_enter Try.func99, Try.ntmps99
    go_wp2_with fail
    go_ret
    exact ⟨ret_bool (listB_ne Hne.out).symm, Below.refl _ _⟩
theorem bs_in {w : World} {S : Nat → Prop} {A : Option Addr} {n c : Nat} {bs : List UInt8} (h : Bs w S A n c bs) : Lib.BytesIn w A n (bs.map fun b => (b.toNat : Int)) := by
  rcases Nat.eq_zero_or_pos n with h0 | h0
  · subst h0; exact Lib.BytesIn.nil _ _ _
  · obtain ⟨ad, e, -, hc⟩ := h.rd.2 h0
    subst e
    refine Lib.BytesIn.of_cells fun i hi => ?_
    have hl : i < bs.length := by rw [h.len]; exact hi
    rw [hc i (u8v bs[i]) (by simp [u8s, List.getElem?_eq_getElem hl])]
    simp [u8v, List.getD_eq_getElem?_getD, List.getElem?_eq_getElem hl]
theorem bytesOf_nat (bs : List UInt8) : Lib.bytesOf (bs.map fun b => (b.toNat : Int)) = bs := by
  simp [Lib.bytesOf, Function.comp_def]
theorem bytesEq_any (w : World) (S S' : Nat → Prop) (A A' : Option Addr) (n n' c c' : Nat) (xs ys : List UInt8) (hx : Bs w S A n c xs) (hy : Bs w S' A' n' c' ys) :
    Calls Try.prog 98 #[.slice A n c, .slice A' n' c'] w fun e w' => e = .returned (.bool (decide (xs = ys))) ∧ w' = w := by
  have := Try.bytes_Equal_all A A' n c n' c' _ _ w (by simp [hx.len]) (by simp [hy.len]) (bs_in hx) (bs_in hy)
  rw [bytesOf_nat, bytesOf_nat] at this
  refine this.mono ?_
  rintro e w' ⟨rfl, rfl⟩
  refine ⟨ret_bool ?_, rfl⟩
  by_cases h : xs = ys <;> simp [h]
set_option maxRecDepth 10000 in
set_option maxHeartbeats 4000000 in
theorem same_any (N : Nat) : SameSaid N := by
  induction N with
  | zero => intro a b q p w S S' h; omega
  | succ N ih =>
    intro a b q p w S S' hN ha hb
    obtain ⟨t1, n1, b1, l1, A1, B1, c1, d1, e1, g1, rfl, rfl, hu1, hb1, hc1, hl1⟩ := ha.opens
    obtain ⟨t2, n2, b2, l2, A2, B2, c2, d2, e2, g2, rfl, rfl, hu2, hb2, hc2, hl2⟩ := hb.opens
    dsimp only [Quad.agg]
    obtain ⟨W, hW⟩ : ∃ W, W = (w.alloc (.cells #[.int .i64 t1, .int .u64 (n1 : Int), .slice A1 c1 d1, .slice B1 e1 g1] 27)).alloc (.cells #[.int .i64 t2, .int .u64 (n2 : Int), .slice A2 c2 d2, .slice B2 e2 g2] 27) := ⟨_, rfl⟩
    have hbW : Below w.heap.size w W := by rw [hW]; exact ((Below.refl _ _).alloc (Nat.le_refl _) _).alloc (by simp) _
    have HBW := Lib.hid hbW
    have hX1 : Blk W w.heap.size 27 #[.int .i64 t1, .int .u64 (n1 : Int), .slice A1 c1 d1, .slice B1 e1 g1] := by rw [hW]; exact (Blk.new w 27 _).alloc _
    have hX2 : Blk W (w.heap.size + 1) 27 #[.int .i64 t2, .int .u64 (n2 : Int), .slice A2 c2 d2, .slice B2 e2 g2] := by
      rw [hW]
      have := Blk.new (w.alloc (.cells #[.int .i64 t1, .int .u64 (n1 : Int), .slice A1 c1 d1, .slice B1 e1 g1] 27)) 27 #[.int .i64 t2, .int .u64 (n2 : Int), .slice A2 c2 d2, .slice B2 e2 g2]
      simpa only [World.size_alloc] using this
    have HE := Lib.hid (bytesEq_any W S S' _ _ _ _ _ _ _ _ (hb1.after hbW) (hb2.after hbW))
    have HQ := Lib.hid (eqf_any N ih W S S' _ _ _ _ _ _ _ _ (hl1.after hbW) (hl2.after hbW) (fun x hx => by
      obtain ⟨i, hi, rfl⟩ := List.getElem_of_mem hx
      have := sizeOf_at (List.getElem?_eq_getElem hi) t1 n1 b1
      omega))
    obtain ⟨z0, z1, z2, z3, f0, f1, f2, f3, hz⟩ := hX1.four
    obtain ⟨y0, y1, y2, y3, h0, h1, h2, h3, hy⟩ := hX2.four
    have HW := Lib.hid hW
    clear ih hbW hW hX1 hX2 hl1 hl2 hb1 hb2 ha hb f0 f1 f2 f3 h0 h1 h2 h3
    by_cases k1 : t1 = t2
    · subst k1
      by_cases k2 : n1 = n2
      · subst k2
        by_cases k3 : b1 = b2
        · subst k3
          rw [decide_eq_true rfl] at HE
          cases hlb : listB l1 l2 with
          | true =>
            rw [hlb] at HQ
            have hR : Hid (TV.mk t1 n1 b1 l1 = TV.mk t1 n1 b1 l2) := Lib.hid (by rw [listB_true hlb])
            clear hlb
            go_enter Try.func48, Try.ntmps48
            go_wp2_with fail
            have hW := HW.out
            rw [← hW]
            clear hW HW
            refine (HE.out).mono ?_
            rintro e w1 ⟨rfl, rfl⟩
            go_wp2_with fail
            refine (HQ.out).mono ?_
            rintro e w2 ⟨rfl, hb2⟩
            go_wp2_with fail
            go_ret
            exact ⟨ret_bool (sameB_of hR.out).symm, HBW.out.trans (hb2.mono HBW.out.size)⟩
          | false =>
            rw [hlb] at HQ
            have hR : Hid (TV.mk t1 n1 b1 l1 ≠ TV.mk t1 n1 b1 l2) := Lib.hid (by
              intro h; injection h with _ _ _ h; rw [listB_of h] at hlb; cases hlb)
            clear hlb
            go_enter Try.func48, Try.ntmps48
            go_wp2_with fail
            have hW := HW.out
            rw [← hW]
            clear hW HW
            refine (HE.out).mono ?_
            rintro e w1 ⟨rfl, rfl⟩
            go_wp2_with fail
            refine (HQ.out).mono ?_
            rintro e w2 ⟨rfl, hb2⟩
            go_wp2_with fail
            go_ret
            exact ⟨ret_bool (sameB_ne hR.out).symm, HBW.out.trans (hb2.mono HBW.out.size)⟩
        · have HE2 : Hid (Calls Try.prog 98 #[.slice A1 c1 d1, .slice A2 c2 d2] W fun e w' => e = .returned (.bool false) ∧ w' = W) := Lib.hid (HE.out.mono (by rintro e w' ⟨rfl, hk⟩; exact ⟨by simp [k3], hk⟩))
          have hR : Hid (TV.mk t1 n1 b1 l1 ≠ TV.mk t1 n1 b2 l2) := Lib.hid (by intro h; injection h with _ _ h _; exact k3 h)
          clear HE k3 HQ
          go_enter Try.func48, Try.ntmps48
          go_wp2_with fail
          have hW := HW.out
          rw [← hW]
          clear hW HW
          refine (HE2.out).mono ?_
          rintro e w1 ⟨rfl, rfl⟩
          go_wp2_with fail
          go_ret
          exact ⟨ret_bool (sameB_ne hR.out).symm, HBW.out⟩
      · have q2 : ((n1 : Int) == (n2 : Int)) = false := by simp; omega
        have hR : Hid (TV.mk t1 n1 b1 l1 ≠ TV.mk t1 n2 b2 l2) := Lib.hid (by intro h; injection h with _ h _ _; exact k2 h)
        clear k2 HE HQ
        go_enter Try.func48, Try.ntmps48
        go_wp2_with fail
        have hW := HW.out
        rw [← hW]
        go_ret
        exact ⟨ret_bool (sameB_ne hR.out).symm, HBW.out⟩
    · have q2 : (t1 == t2) = false := by simp [k1]
      have hR : Hid (TV.mk t1 n1 b1 l1 ≠ TV.mk t2 n2 b2 l2) := Lib.hid (by intro h; injection h with h _ _ _; exact k1 h)
      clear k1 HE HQ
      go_enter Try.func48, Try.ntmps48
      go_wp2_with fail
      have hW := HW.out
      rw [← hW]
      go_ret
      exact ⟨ret_bool (sameB_ne hR.out).symm, HBW.out⟩
end Go.Proofs.Ytaebmhbggbpnoaa
