/- The walk of TlvForms. Conditions: each theorem's premises. -/
import Derived.Test.YtaebmhbggbpnoaaGTlv27
import Derived.Test.YtaebmhbggbpnoaaGTlv22
import Derived.Test.YtaebmhbggbpnoaaGTlv19
namespace Go.Proofs.Ytaebmhbggbpnoaa
open Go.RowKit
set_option maxRecDepth 100000 in
set_option maxHeartbeats 8000000 in
theorem tlvForms_in (w : World) (S S' : Nat → Prop) (A B : Option Addr) (n c n' c' : Nat) (l m : List ND) (hx : NR w S A n c l) (hy : NR w S' B n' c' m) (hl : lightB l = true) (hm : lightB m = true) :
    Calls Try.prog 9 #[.slice A n c, .slice B n' c'] w fun e w' => e = .returned (.bool true) ∧ Below w.heap.size w w' := by
  have HX := Lib.hid hx.old
  have HY := Lib.hid hy.old
  have HL := Lib.hid (And.intro hl hm)
  clear hx hy hl hm
  have hnot : ∀ (x : Bool) (w : World), (Op.unary .not (.bool x)).run Try.prog w = .ok (.bool (!x)) w := fun _ _ => rfl
  go_enter Try.func9, Try.ntmps9
  go_wp2_with fail
  refine (light_any w _ A n c l HX.out).mono ?_
  rintro e w1 ⟨rfl, hb1⟩
  rw [HL.out.1]
  have HB1 := Lib.hid hb1
  clear hb1
  go_wp2_with fail
  refine (light_any w1 _ B n' c' m (HY.out.lower HB1.out)).mono ?_
  rintro e w2 ⟨rfl, hb2⟩
  rw [HL.out.2]
  have HB2 := Lib.hid (HB1.out.trans (hb2.mono HB1.out.size))
  clear hb2 HB1
  go_wp2_with fail
  refine (buildL_any w2 _ A n c l (HX.out.lower HB2.out) HL.out.1).mono ?_
  rintro e w3 ⟨t1, m1, P1, i1, i2, P2, i3, i4, t2, m2, Q1, j1, j2, Q2, j3, j4, v, b1, rfl, ha, hb, hv, hb3⟩
  have HA3 := Lib.hid ha
  have HA3' := Lib.hid hb
  have HB3 := Lib.hid (HB2.out.trans (hb3.mono HB2.out.size))
  clear ha hb hb3 HB2 hv
  obtain ⟨hX4, hY4, hb4⟩ := two_boxes w3 ⟨.int .i64 t1, .int .u64 (m1 : Int), .slice P1 i1 i2, .slice P2 i3 i4⟩ ⟨.int .i64 t2, .int .u64 (m2 : Int), .slice Q1 j1 j2, .slice Q2 j3 j4⟩ 27 33
  obtain ⟨W4, hW4⟩ : ∃ W4, W4 = (w3.alloc (.cells #[.int .i64 t1, .int .u64 (m1 : Int), .slice P1 i1 i2, .slice P2 i3 i4] 27)).alloc (.cells #[.int .i64 t2, .int .u64 (m2 : Int), .slice Q1 j1 j2, .slice Q2 j3 j4] 33) := ⟨_, rfl⟩
  go_upto_region 4 with (fail)
  rw [← hW4] at hX4 hY4 hb4 ⊢
  clear hW4
  have HB4 := Lib.hid (HB3.out.trans (hb4.mono HB3.out.size))
  have HA4 := Lib.hid (HA3.out.low' hb4)
  have HA4' := Lib.hid (HA3'.out.low' hb4)
  have HX4 := Lib.hid (And.intro hX4 hY4)
  have hs4 := hX4.lt
  have hs4' := hY4.lt
  clear hX4 hY4 hb4 HA3 HA3' HB3
  go_wp2_with fail
  refine (buildL_any W4 _ B n' c' m (HY.out.lower HB4.out) HL.out.2).mono ?_
  rintro e w5 ⟨t3, m3, P3, k1, k2, P4, k3, k4, t4, m4, Q3, l1, l2, Q4, l3, l4, u, b2, rfl, ha, hb, hu, hb5⟩
  have HB5 := Lib.hid (HB4.out.trans (hb5.mono HB4.out.size))
  obtain ⟨hX6, hY6, hb6⟩ := two_boxes w5 ⟨.int .i64 t3, .int .u64 (m3 : Int), .slice P3 k1 k2, .slice P4 k3 k4⟩ ⟨.int .i64 t4, .int .u64 (m4 : Int), .slice Q3 l1 l2, .slice Q4 l3 l4⟩ 27 33
  obtain ⟨W6, hW6⟩ : ∃ W6, W6 = (w5.alloc (.cells #[.int .i64 t3, .int .u64 (m3 : Int), .slice P3 k1 k2, .slice P4 k3 k4] 27)).alloc (.cells #[.int .i64 t4, .int .u64 (m4 : Int), .slice Q3 l1 l2, .slice Q4 l3 l4] 33) := ⟨_, rfl⟩
  have hs5 := hb5.size
  go_upto_region 5 with (fail)
  rw [← hW6] at hX6 hY6 hb6 ⊢
  clear hW6
  have HB6 := Lib.hid (HB5.out.trans (hb6.mono HB5.out.size))
  have HA6 := Lib.hid ((HA4.out.low' hb5).low' hb6)
  have HA6' := Lib.hid ((HA4'.out.low' hb5).low' hb6)
  have HC6 := Lib.hid (ha.low' hb6)
  have HC6' := Lib.hid (hb.low' hb6)
  have HX6 := Lib.hid (And.intro ((HX4.out.1.after hb5).after hb6) (And.intro ((HX4.out.2.after hb5).after hb6) (And.intro hX6 hY6)))
  clear hX6 hY6 hb6 ha hb hu hb5 HA4 HA4' HB4 HX4 HB5
  obtain ⟨a0, a1, a2, a3, -, -, -, -, hz1⟩ := HX6.out.1.four
  obtain ⟨b0, b1', b2', b3, -, -, -, -, hz2⟩ := HX6.out.2.1.four
  go_wp2_with fail
  refine (put_one v ⟨.int .i64 t1, .int .u64 (m1 : Int), .slice P1 i1 i2, .slice P2 i3 i4⟩ W6 _ HA6.out).mono ?_
  rintro e w7 ⟨X1, x1, y1, rfl, hx7, hl7, hb7⟩
  have HX7 := Lib.hid hx7
  have HB7 := Lib.hid hb7
  have c0 := (hb7.cell (p := ⟨w3.heap.size + 1, 0, none⟩) hz2).trans b0
  have c1 := (hb7.cell (p := ⟨w3.heap.size + 1, 1, none⟩) hz2).trans b1'
  have c2 := (hb7.cell (p := ⟨w3.heap.size + 1, 2, none⟩) hz2).trans b2'
  have c3 := (hb7.cell (p := ⟨w3.heap.size + 1, 3, none⟩) hz2).trans b3
  clear hx7 hb7 a0 a1 a2 a3 b0 b1' b2' b3
  go_wp2_with fail
  refine (rput_one v ⟨.int .i64 t2, .int .u64 (m2 : Int), .slice Q1 j1 j2, .slice Q2 j3 j4⟩ w7 _ (HA6'.out.low' HB7.out)).mono ?_
  rintro e w8 ⟨X2, x2, y2, rfl, hx8, hl8, hb8⟩
  have hb68 := HB7.out.trans (hb8.mono HB7.out.size)
  have HB8 := Lib.hid (HB6.out.trans (hb68.mono HB6.out.size))
  have HXX := Lib.hid (And.intro (HX7.out.after hb8) hx8)
  have HA8 := Lib.hid (And.intro (HA6.out.low' hb68) (And.intro (HA6'.out.low' hb68) (And.intro (HC6.out.low' hb68) (HC6'.out.low' hb68))))
  have HX8 := Lib.hid (And.intro (HX6.out.1.after hb68) (And.intro (HX6.out.2.1.after hb68) (And.intro (HX6.out.2.2.1.after hb68) (HX6.out.2.2.2.after hb68))))
  have hx1 : x2 = x1 := by rw [← hx8.len, ← HX7.out.len]
  subst hx1
  have HSZ : Hid (sizeT v = x2) := Lib.hid (by rw [size_put, hx8.len])
  have HRP := Lib.hid (right_put v)
  clear hx8 hb8 hb68 HX7 HB7 HB6 HA6 HA6' HC6 HC6' HX6 c0 c1 c2 c3 hl7
  obtain ⟨a0, a1, a2, a3, -, -, -, -, hz1'⟩ := HX8.out.1.four
  obtain ⟨b0, b1', b2', b3, -, -, -, -, hz2'⟩ := HX8.out.2.1.four
  obtain ⟨c0, c1, c2, c3, -, -, -, -, hz3'⟩ := HX8.out.2.2.1.four
  obtain ⟨d0, d1, d2, d3, -, -, -, -, hz4'⟩ := HX8.out.2.2.2.four
  have hB0 : Hid (Below w8.heap.size w8 w8.drew) := Lib.hid (Below.refl _ _).drew
  go_wp2_with fail
  go_region_held3 (fun w' => w'.cell? ⟨w3.heap.size, 0, none⟩ = some (.int .i64 t1) ∧ w'.cell? ⟨w3.heap.size, 1, none⟩ = some (.int .u64 (m1 : Int)) ∧ w'.cell? ⟨w3.heap.size, 2, none⟩ = some (.slice P1 i1 i2) ∧ w'.cell? ⟨w3.heap.size, 3, none⟩ = some (.slice P2 i3 i4) ∧ w'.cell? ⟨w3.heap.size + 1, 0, none⟩ = some (.int .i64 t2) ∧ w'.cell? ⟨w3.heap.size + 1, 1, none⟩ = some (.int .u64 (m2 : Int)) ∧ w'.cell? ⟨w3.heap.size + 1, 2, none⟩ = some (.slice Q1 j1 j2) ∧ w'.cell? ⟨w3.heap.size + 1, 3, none⟩ = some (.slice Q2 j3 j4) ∧ w'.cell? ⟨w5.heap.size, 0, none⟩ = some (.int .i64 t3) ∧ w'.cell? ⟨w5.heap.size, 1, none⟩ = some (.int .u64 (m3 : Int)) ∧ w'.cell? ⟨w5.heap.size, 2, none⟩ = some (.slice P3 k1 k2) ∧ w'.cell? ⟨w5.heap.size, 3, none⟩ = some (.slice P4 k3 k4) ∧ w'.cell? ⟨w5.heap.size + 1, 0, none⟩ = some (.int .i64 t4) ∧ w'.cell? ⟨w5.heap.size + 1, 1, none⟩ = some (.int .u64 (m4 : Int)) ∧ w'.cell? ⟨w5.heap.size + 1, 2, none⟩ = some (.slice Q3 l1 l2) ∧ w'.cell? ⟨w5.heap.size + 1, 3, none⟩ = some (.slice Q4 l3 l4) ∧ Hid (Below w8.heap.size w8 w')) (exact hold16 HX8.out.1 HX8.out.2.1 HX8.out.2.2.1 HX8.out.2.2.2 (by assumption)) (first | (go_at_call 47; refine (right_any v ⟨.int .i64 t1, .int .u64 (m1 : Int), .slice P1 i1 i2, .slice P2 i3 i4⟩ _ AnyB (HA8.out.1.low' (Hid.out (by assumption)))).mono ?_; rintro e w9 ⟨rfl, hb9⟩; have hB9 := next_below (by assumption) hb9; rw [HRP.out]) | (go_at_call 30; refine (size_any v ⟨.int .i64 t1, .int .u64 (m1 : Int), .slice P1 i1 i2, .slice P2 i3 i4⟩ _ AnyB (HA8.out.1.low' (Hid.out (by assumption)))).mono ?_; rintro e w10 ⟨rfl, hb10⟩; have hB10 := next_below (by assumption) hb10; rw [HSZ.out]) | (go_at_call 26; refine (bytes_any _ _ _ X1 X2 x2 x2 y1 y2 _ _ (HXX.out.1.after (Hid.out (by assumption))) (HXX.out.2.after (Hid.out (by assumption))) (by omega) (by omega)).mono ?_; rintro e w11 ⟨rfl, kk, rfl⟩; have hB11 := Lib.hid (below_drewN (Hid.out hB10) kk); rw [decide_eq_true rfl]) | (go_at_call 48; refine (same_any _ v u ⟨.int .i64 t1, .int .u64 (m1 : Int), .slice P1 i1 i2, .slice P2 i3 i4⟩ ⟨.int .i64 t3, .int .u64 (m3 : Int), .slice P3 k1 k2, .slice P4 k3 k4⟩ _ AnyB AnyB (Nat.lt_succ_self _) (HA8.out.1.low' (Hid.out (by assumption))) (HA8.out.2.2.1.low' (Hid.out (by assumption)))).mono ?_; rintro e w12 ⟨rfl, hb12⟩; have hB12 := next_below (by assumption) hb12) | (go_at_call 24; refine (rsame_any _ v u ⟨.int .i64 t2, .int .u64 (m2 : Int), .slice Q1 j1 j2, .slice Q2 j3 j4⟩ ⟨.int .i64 t4, .int .u64 (m4 : Int), .slice Q3 l1 l2, .slice Q4 l3 l4⟩ _ AnyB AnyB (Nat.lt_succ_self _) (HA8.out.2.1.low' (Hid.out (by assumption))) (HA8.out.2.2.2.low' (Hid.out (by assumption)))).mono ?_; rintro e w13 ⟨rfl, hb13⟩; have hB13 := next_below (by assumption) hb13) | (go_at_call 19; refine (alive_any _).mono ?_; rintro e w14 ⟨rfl, hb14⟩; have hB14 := next_below (by assumption) hb14))
  go_wp2_with fail
  go_ret
  exact ⟨rfl, HB8.out.trans (hB14.out.mono HB8.out.size)⟩
set_option maxRecDepth 10000 in
theorem tlvForms_any (w : World) (S S' : Nat → Prop) (A B : Option Addr) (n c n' c' : Nat) (l m : List ND) (hx : NR w S A n c l) (hy : NR w S' B n' c' m) :
    Calls Try.prog 9 #[.slice A n c, .slice B n' c'] w fun e w' => e = .returned (.bool true) ∧ Below w.heap.size w w' := by
  have hnot : ∀ (x : Bool) (w : World), (Op.unary .not (.bool x)).run Try.prog w = .ok (.bool (!x)) w := fun _ _ => rfl
  by_cases hl : lightB l = true
  · by_cases hm : lightB m = true
    · exact tlvForms_in w S S' A B n c n' c' l m hx hy hl hm
    · have HX := Lib.hid hx
      have HY := Lib.hid hy.old
      have HL := Lib.hid (And.intro hl (eq_false_of_ne_true hm))
      clear hx hy hl hm
      go_enter Try.func9, Try.ntmps9
      go_wp2_with fail
      refine (light_any w _ A n c l HX.out).mono ?_
      rintro e w1 ⟨rfl, hb1⟩
      rw [HL.out.1]
      have HB1 := Lib.hid hb1
      clear hb1
      go_wp2_with fail
      refine (light_any w1 _ B n' c' m (HY.out.lower HB1.out)).mono ?_
      rintro e w2 ⟨rfl, hb2⟩
      rw [HL.out.2]
      have HB2 := Lib.hid (HB1.out.trans (hb2.mono HB1.out.size))
      clear hb2 HB1
      go_wp2_with fail
      refine (alive_any _).mono ?_
      rintro e w3 ⟨rfl, hb3⟩
      have HB3 := Lib.hid (HB2.out.trans (hb3.mono HB2.out.size))
      clear hb3
      go_wp2_with fail
      go_ret
      exact ⟨rfl, HB3.out⟩
  · have HX := Lib.hid hx
    have HL := Lib.hid (eq_false_of_ne_true hl)
    clear hx hy hl
    go_enter Try.func9, Try.ntmps9
    go_wp2_with fail
    refine (light_any w _ A n c l HX.out).mono ?_
    rintro e w1 ⟨rfl, hb1⟩
    rw [HL.out]
    have HB1 := Lib.hid hb1
    clear hb1
    go_wp2_with fail
    refine (alive_any _).mono ?_
    rintro e w3 ⟨rfl, hb3⟩
    have HB3 := Lib.hid (HB1.out.trans (hb3.mono HB1.out.size))
    clear hb3
    go_wp2_with fail
    go_ret
    exact ⟨rfl, HB3.out⟩
end Go.Proofs.Ytaebmhbggbpnoaa
namespace Go.Proofs.Ytaebmhbggbpnoaa
open Go.RowKit
theorem putF_zero {v : TV} (h : putF v = 0) : putT 8 v = some (putB v) := by
  unfold putF putB at *
  cases hp : putT 8 v with
  | none => rw [hp] at h; simp at h
  | some x => rfl
theorem putF_not {v : TV} (h : putF v ≠ 0) : putF v = 1 := by
  unfold putF at *
  cases hp : putT 8 v with
  | none => rfl
  | some x => rw [hp] at h; simp at h
/-- A form that is cut off anywhere is none. -/
theorem cut_none {v : TV} {x : List UInt8} (hv : OkT v) (hx : putT 8 v = some x) (k : Nat) (hk : k < x.length) : readT 8 (x.take k) = none := by
  cases h : readT 8 (x.take k) with
  | none => rfl
  | some p =>
    obtain ⟨u, rest⟩ := p
    exfalso
    obtain ⟨hu, y, hy, he⟩ := put_read 8 _ _ _ h
    have hp := putT_some hy
    have hs : x = (headT u.tag y ++ y) ++ (rest ++ x.drop k) := by
      rw [← List.append_assoc, ← he, List.take_append_drop]
    obtain ⟨-, hz⟩ := put_prefix hu hv hp hx hs
    have hl := congrArg List.length hz
    simp at hl
    omega
/-- Two forms that are alike as far as both reach are one. -/
theorem cuts_law {v u : TV} {x y : List UInt8} {k : Nat} (hv : OkT v) (hu : OkT u) (hx : putT 8 v = some x) (hy : putT 8 u = some y) (hk : k = min x.length y.length) : decide (x.take k = y.take k) = sameB v u := by
  by_cases h : v = u
  · subst h
    rw [hx] at hy
    injection hy with hy
    subst hy
    rw [sameB_of rfl]; simp
  · rw [sameB_ne h]
    simp only [decide_eq_false_iff_not]
    intro e
    apply h
    rcases Nat.le_total x.length y.length with hle | hle
    · rw [hk, Nat.min_eq_left hle, List.take_length] at e
      have : y = x ++ y.drop x.length := by
        conv => lhs; rw [← List.take_append_drop x.length y]
        rw [← e]
      exact (put_prefix hv hu hx hy this).1
    · rw [hk, Nat.min_eq_right hle, List.take_length] at e
      have : x = y ++ x.drop y.length := by
        conv => lhs; rw [← List.take_append_drop y.length x]
        rw [e]
      exact (put_prefix hu hv hy hx this).1.symm
theorem hold8 {W w' : World} {b3 b6 : Nat} {t3 t6 : TypeId} {a0 a1 a2 a3 e0 e1 e2 e3 : Value} (h3 : Blk W b3 t3 #[a0, a1, a2, a3]) (h6 : Blk W b6 t6 #[e0, e1, e2, e3]) (hb : Hid (Below W.heap.size W w')) :
    w'.cell? ⟨b3, 0, none⟩ = some a0 ∧ w'.cell? ⟨b3, 1, none⟩ = some a1 ∧ w'.cell? ⟨b3, 2, none⟩ = some a2 ∧ w'.cell? ⟨b3, 3, none⟩ = some a3 ∧
    w'.cell? ⟨b6, 0, none⟩ = some e0 ∧ w'.cell? ⟨b6, 1, none⟩ = some e1 ∧ w'.cell? ⟨b6, 2, none⟩ = some e2 ∧ w'.cell? ⟨b6, 3, none⟩ = some e3 ∧ Hid (Below W.heap.size W w') := by
  obtain ⟨x0, x1, x2, x3, -⟩ := (h3.after hb.out).four
  obtain ⟨y0, y1, y2, y3, -⟩ := (h6.after hb.out).four
  exact ⟨x0, x1, x2, x3, y0, y1, y2, y3, hb⟩
set_option maxRecDepth 100000 in
set_option maxHeartbeats 16000000 in
theorem tlvCuts_in (w : World) (S S' : Nat → Prop) (A B : Option Addr) (n c n' c' : Nat) (l m : List ND) (hx : NR w S A n c l) (hy : NR w S' B n' c' m) (hl : lightB l = true) (hm : lightB m = true) (cut : Int) :
    Calls Try.prog 10 #[.slice A n c, .slice B n' c', .int .i64 cut] w fun e w' => e = .returned (.bool true) ∧ Below w.heap.size w w' := by
  have HX := Lib.hid hx.old
  have HY := Lib.hid hy.old
  have HL := Lib.hid (And.intro hl hm)
  clear hx hy hl hm
  have hnot : ∀ (x : Bool) (w : World), (Op.unary .not (.bool x)).run Try.prog w = .ok (.bool (!x)) w := fun _ _ => rfl
  go_enter Try.func10, Try.ntmps10
  go_wp2_with fail
  refine (light_any w _ A n c l HX.out).mono ?_
  rintro e w1 ⟨rfl, hb1⟩
  rw [HL.out.1]
  have HB1 := Lib.hid hb1
  clear hb1
  go_wp2_with fail
  refine (light_any w1 _ B n' c' m (HY.out.lower HB1.out)).mono ?_
  rintro e w2 ⟨rfl, hb2⟩
  rw [HL.out.2]
  have HB2 := Lib.hid (HB1.out.trans (hb2.mono HB1.out.size))
  clear hb2 HB1
  go_wp2_with fail
  refine (buildL_any w2 _ A n c l (HX.out.lower HB2.out) HL.out.1).mono ?_
  rintro e w3 ⟨t1, m1, P1, i1, i2, P2, i3, i4, t2, m2, Q1, j1, j2, Q2, j3, j4, v, b1, rfl, ha, hb, hv, hb3⟩
  have HA3 := Lib.hid ha
  have HB3 := Lib.hid (HB2.out.trans (hb3.mono HB2.out.size))
  have HOV := Lib.hid hv
  clear ha hb hb3 HB2 hv
  obtain ⟨hX4, hY4, hb4⟩ := two_boxes w3 ⟨.int .i64 t1, .int .u64 (m1 : Int), .slice P1 i1 i2, .slice P2 i3 i4⟩ ⟨.int .i64 t2, .int .u64 (m2 : Int), .slice Q1 j1 j2, .slice Q2 j3 j4⟩ 27 33
  obtain ⟨W4, hW4⟩ : ∃ W4, W4 = (w3.alloc (.cells #[.int .i64 t1, .int .u64 (m1 : Int), .slice P1 i1 i2, .slice P2 i3 i4] 27)).alloc (.cells #[.int .i64 t2, .int .u64 (m2 : Int), .slice Q1 j1 j2, .slice Q2 j3 j4] 33) := ⟨_, rfl⟩
  go_upto_region 4 with (fail)
  rw [← hW4] at hX4 hY4 hb4 ⊢
  clear hW4
  have HB4 := Lib.hid (HB3.out.trans (hb4.mono HB3.out.size))
  have HA4 := Lib.hid (HA3.out.low' hb4)
  have HX4 := Lib.hid hX4
  have hs4 := hX4.lt
  clear hX4 hY4 hb4 HA3 HB3
  go_wp2_with fail
  refine (buildL_any W4 _ B n' c' m (HY.out.lower HB4.out) HL.out.2).mono ?_
  rintro e w5 ⟨t3, m3, P3, k1, k2, P4, k3, k4, t4, m4, Q3, l1, l2, Q4, l3, l4, u, b2, rfl, ha, hb, hu, hb5⟩
  have HB5 := Lib.hid (HB4.out.trans (hb5.mono HB4.out.size))
  have HOU := Lib.hid hu
  obtain ⟨hX6, hY6, hb6⟩ := two_boxes w5 ⟨.int .i64 t3, .int .u64 (m3 : Int), .slice P3 k1 k2, .slice P4 k3 k4⟩ ⟨.int .i64 t4, .int .u64 (m4 : Int), .slice Q3 l1 l2, .slice Q4 l3 l4⟩ 27 33
  obtain ⟨W6, hW6⟩ : ∃ W6, W6 = (w5.alloc (.cells #[.int .i64 t3, .int .u64 (m3 : Int), .slice P3 k1 k2, .slice P4 k3 k4] 27)).alloc (.cells #[.int .i64 t4, .int .u64 (m4 : Int), .slice Q3 l1 l2, .slice Q4 l3 l4] 33) := ⟨_, rfl⟩
  have hs5 := hb5.size
  go_upto_region 5 with (fail)
  rw [← hW6] at hX6 hY6 hb6 ⊢
  clear hW6
  have HB6 := Lib.hid (HB5.out.trans (hb6.mono HB5.out.size))
  have HA6 := Lib.hid ((HA4.out.low' hb5).low' hb6)
  have HC6 := Lib.hid (ha.low' hb6)
  have HX6 := Lib.hid (And.intro ((HX4.out.after hb5).after hb6) hX6)
  clear hX6 hY6 hb6 ha hb hu hb5 HA4 HB4 HX4 HB5
  obtain ⟨a0, a1, a2, a3, -, -, -, -, hz1⟩ := HX6.out.1.four
  obtain ⟨b0, b1', b2', b3, -, -, -, -, hz2⟩ := HX6.out.2.four
  go_wp2_with fail
  refine (put_one v ⟨.int .i64 t1, .int .u64 (m1 : Int), .slice P1 i1 i2, .slice P2 i3 i4⟩ W6 _ HA6.out).mono ?_
  rintro e w7 ⟨X1, x1, y1, rfl, hx7, hl7, hb7⟩
  have HX7 := Lib.hid hx7
  have HB7 := Lib.hid hb7
  have c0 := (hb7.cell (p := ⟨w5.heap.size, 0, none⟩) hz2).trans b0
  have c1 := (hb7.cell (p := ⟨w5.heap.size, 1, none⟩) hz2).trans b1'
  have c2 := (hb7.cell (p := ⟨w5.heap.size, 2, none⟩) hz2).trans b2'
  have c3 := (hb7.cell (p := ⟨w5.heap.size, 3, none⟩) hz2).trans b3
  clear hx7 hb7 a0 a1 a2 a3 b0 b1' b2' b3
  go_wp2_with fail
  refine (put_one u ⟨.int .i64 t3, .int .u64 (m3 : Int), .slice P3 k1 k2, .slice P4 k3 k4⟩ w7 _ (HC6.out.low' HB7.out)).mono ?_
  rintro e w8 ⟨X2, x2, y2, rfl, hx8, hl8, hb8⟩
  have hb68 := HB7.out.trans (hb8.mono HB7.out.size)
  have HB8 := Lib.hid (HB6.out.trans (hb68.mono HB6.out.size))
  have HXX := Lib.hid (And.intro (HX7.out.after hb8).any hx8.any)
  have HA8 := Lib.hid (And.intro (HA6.out.low' hb68) (HC6.out.low' hb68))
  have HX8 := Lib.hid (And.intro (HX6.out.1.after hb68) (HX6.out.2.after hb68))
  clear hx8 hb8 hb68 HX7 HB7 HB6 HA6 HC6 HX6 c0 c1 c2 c3 hz1 hz2
  by_cases f1 : putF v = 0
  · by_cases f2 : putF u = 0
    · have HP := Lib.hid (And.intro (putF_zero f1) (putF_zero f2))
      rw [f1, f2]
      clear f1 f2
      by_cases hc : 0 ≤ cut ∧ cut < (x1 : Int)
      · obtain ⟨hc1, hc2⟩ := hc
        obtain ⟨k, rfl⟩ := Int.eq_ofNat_of_zero_le hc1
        obtain ⟨U0, u0, s0, r0⟩ := HXX.out.1.upto (k : Int) k rfl (by omega)
        have HN := Lib.hid (take_none w8 _ U0 k u0 _ r0 (by omega) (cut_none HOV.out HP.out.1 k (by rw [HXX.out.1.len]; omega)))
        clear r0
        go_wp2_with fail
        refine (HN.out).mono ?_
        rintro e w9 ⟨rfl, hb9⟩
        obtain ⟨W9, hW9⟩ : ∃ W9, W9 = w9.alloc (.cells #[.int .i64 0, .int .u64 0, .slice none 0 0, .slice none 0 0] 27) := ⟨_, rfl⟩
        have hb89 : Below w8.heap.size w8 W9 := by rw [hW9]; exact hb9.alloc hb9.size _
        have HB := Lib.hid (HB8.out.trans (hb89.mono HB8.out.size))
        have HXW := Lib.hid (And.intro (HXX.out.1.after hb89) (HXX.out.2.after hb89))
        have HAW := Lib.hid (And.intro (HA8.out.1.low' hb89) (HA8.out.2.low' hb89))
        have HBW := Lib.hid (And.intro (HX8.out.1.after hb89) (HX8.out.2.after hb89))
        go_upto_region 13 with (fail)
        rw [← hW9]
        clear hW9 hb9 hb89 s0 HN HB8 HXX HA8 HX8
        obtain ⟨kk, hkk⟩ : ∃ kk : Nat, kk = min x1 x2 := ⟨_, rfl⟩
        have hk1 : kk ≤ x1 := by omega
        have hk2 : kk ≤ x2 := by omega
        have hmin : min (x1 : Int) (x2 : Int) = (kk : Int) := by omega
        obtain ⟨U1, u1, s1, r1⟩ := HXW.out.1.upto ((kk : Nat) : Int) kk rfl (by omega)
        obtain ⟨U2, u2, s2, r2⟩ := HXW.out.2.upto ((kk : Nat) : Int) kk rfl (by omega)
        have HR := Lib.hid (And.intro r1 r2)
        have HE : Hid (decide ((putB v).take kk = (putB u).take kk) = sameB v u) := Lib.hid (cuts_law HOV.out HOU.out HP.out.1 HP.out.2 (by rw [HXW.out.1.len, HXW.out.2.len]; omega))
        obtain ⟨a0, a1, a2, a3, -, -, -, -, hz1⟩ := HBW.out.1.four
        obtain ⟨b0, b1', b2', b3, -, -, -, -, hz2⟩ := HBW.out.2.four
        clear r1 r2 hkk
        have hB0 : Hid (Below W9.heap.size W9 W9.drew) := Lib.hid (Below.refl _ _).drew
        go_wp2_with fail
        go_region_held3 (fun w' => w'.cell? ⟨w3.heap.size, 0, none⟩ = some (.int .i64 t1) ∧ w'.cell? ⟨w3.heap.size, 1, none⟩ = some (.int .u64 (m1 : Int)) ∧ w'.cell? ⟨w3.heap.size, 2, none⟩ = some (.slice P1 i1 i2) ∧ w'.cell? ⟨w3.heap.size, 3, none⟩ = some (.slice P2 i3 i4) ∧ w'.cell? ⟨w5.heap.size, 0, none⟩ = some (.int .i64 t3) ∧ w'.cell? ⟨w5.heap.size, 1, none⟩ = some (.int .u64 (m3 : Int)) ∧ w'.cell? ⟨w5.heap.size, 2, none⟩ = some (.slice P3 k1 k2) ∧ w'.cell? ⟨w5.heap.size, 3, none⟩ = some (.slice P4 k3 k4) ∧ Hid (Below W9.heap.size W9 w')) (exact hold8 HBW.out.1 HBW.out.2 (by assumption)) (first | (go_at_call 48; refine (same_any _ v u ⟨.int .i64 t1, .int .u64 (m1 : Int), .slice P1 i1 i2, .slice P2 i3 i4⟩ ⟨.int .i64 t3, .int .u64 (m3 : Int), .slice P3 k1 k2, .slice P4 k3 k4⟩ _ AnyB AnyB (Nat.lt_succ_self _) (HAW.out.1.low' (Hid.out (by assumption))) (HAW.out.2.low' (Hid.out (by assumption)))).mono ?_; rintro e w12 ⟨rfl, hb12⟩; have hB12 := next_below (by assumption) hb12) | (go_at_call 26; refine (bytes_any _ _ _ U1 U2 kk kk u1 u2 _ _ (HR.out.1.after (Hid.out (by assumption))) (HR.out.2.after (Hid.out (by assumption))) (by omega) (by omega)).mono ?_; rintro e w13 ⟨rfl, dd, rfl⟩; have hB13 := Lib.hid (below_drewN (Hid.out hB12) dd); rw [HE.out]) | (go_at_call 19; refine (alive_any _).mono ?_; rintro e w14 ⟨rfl, hb14⟩; have hB14 := next_below (by assumption) hb14))
        go_wp2_with fail
        go_ret
        exact ⟨rfl, HB.out.trans (hB14.out.mono HB.out.size)⟩
      · have HB := HB8
        have HXW := HXX
        have HAW := HA8
        have HBW := HX8
        clear HB8 HXX HA8 HX8
        by_cases hc0 : 0 ≤ cut
        · have hc1 : ¬ cut < (x1 : Int) := by omega
          clear hc
          obtain ⟨kk, hkk⟩ : ∃ kk : Nat, kk = min x1 x2 := ⟨_, rfl⟩
          have hk1 : kk ≤ x1 := by omega
          have hk2 : kk ≤ x2 := by omega
          have hmin : min (x1 : Int) (x2 : Int) = (kk : Int) := by omega
          obtain ⟨U1, u1, s1, r1⟩ := HXW.out.1.upto ((kk : Nat) : Int) kk rfl (by omega)
          obtain ⟨U2, u2, s2, r2⟩ := HXW.out.2.upto ((kk : Nat) : Int) kk rfl (by omega)
          have HR := Lib.hid (And.intro r1 r2)
          have HE : Hid (decide ((putB v).take kk = (putB u).take kk) = sameB v u) := Lib.hid (cuts_law HOV.out HOU.out HP.out.1 HP.out.2 (by rw [HXW.out.1.len, HXW.out.2.len]; omega))
          obtain ⟨a0, a1, a2, a3, -, -, -, -, hz1⟩ := HBW.out.1.four
          obtain ⟨b0, b1', b2', b3, -, -, -, -, hz2⟩ := HBW.out.2.four
          clear r1 r2 hkk
          have hB0 : Hid (Below w8.heap.size w8 w8.drew) := Lib.hid (Below.refl _ _).drew
          go_wp2_with fail
          go_region_held3 (fun w' => w'.cell? ⟨w3.heap.size, 0, none⟩ = some (.int .i64 t1) ∧ w'.cell? ⟨w3.heap.size, 1, none⟩ = some (.int .u64 (m1 : Int)) ∧ w'.cell? ⟨w3.heap.size, 2, none⟩ = some (.slice P1 i1 i2) ∧ w'.cell? ⟨w3.heap.size, 3, none⟩ = some (.slice P2 i3 i4) ∧ w'.cell? ⟨w5.heap.size, 0, none⟩ = some (.int .i64 t3) ∧ w'.cell? ⟨w5.heap.size, 1, none⟩ = some (.int .u64 (m3 : Int)) ∧ w'.cell? ⟨w5.heap.size, 2, none⟩ = some (.slice P3 k1 k2) ∧ w'.cell? ⟨w5.heap.size, 3, none⟩ = some (.slice P4 k3 k4) ∧ Hid (Below w8.heap.size w8 w')) (exact hold8 HBW.out.1 HBW.out.2 (by assumption)) (first | (go_at_call 48; refine (same_any _ v u ⟨.int .i64 t1, .int .u64 (m1 : Int), .slice P1 i1 i2, .slice P2 i3 i4⟩ ⟨.int .i64 t3, .int .u64 (m3 : Int), .slice P3 k1 k2, .slice P4 k3 k4⟩ _ AnyB AnyB (Nat.lt_succ_self _) (HAW.out.1.low' (Hid.out (by assumption))) (HAW.out.2.low' (Hid.out (by assumption)))).mono ?_; rintro e w12 ⟨rfl, hb12⟩; have hB12 := next_below (by assumption) hb12) | (go_at_call 26; refine (bytes_any _ _ _ U1 U2 kk kk u1 u2 _ _ (HR.out.1.after (Hid.out (by assumption))) (HR.out.2.after (Hid.out (by assumption))) (by omega) (by omega)).mono ?_; rintro e w13 ⟨rfl, dd, rfl⟩; have hB13 := Lib.hid (below_drewN (Hid.out hB12) dd); rw [HE.out]) | (go_at_call 19; refine (alive_any _).mono ?_; rintro e w14 ⟨rfl, hb14⟩; have hB14 := next_below (by assumption) hb14))
          go_wp2_with fail
          go_ret
          exact ⟨rfl, HB.out.trans (hB14.out.mono HB.out.size)⟩
        · clear hc
          obtain ⟨kk, hkk⟩ : ∃ kk : Nat, kk = min x1 x2 := ⟨_, rfl⟩
          have hk1 : kk ≤ x1 := by omega
          have hk2 : kk ≤ x2 := by omega
          have hmin : min (x1 : Int) (x2 : Int) = (kk : Int) := by omega
          obtain ⟨U1, u1, s1, r1⟩ := HXW.out.1.upto ((kk : Nat) : Int) kk rfl (by omega)
          obtain ⟨U2, u2, s2, r2⟩ := HXW.out.2.upto ((kk : Nat) : Int) kk rfl (by omega)
          have HR := Lib.hid (And.intro r1 r2)
          have HE : Hid (decide ((putB v).take kk = (putB u).take kk) = sameB v u) := Lib.hid (cuts_law HOV.out HOU.out HP.out.1 HP.out.2 (by rw [HXW.out.1.len, HXW.out.2.len]; omega))
          obtain ⟨a0, a1, a2, a3, -, -, -, -, hz1⟩ := HBW.out.1.four
          obtain ⟨b0, b1', b2', b3, -, -, -, -, hz2⟩ := HBW.out.2.four
          clear r1 r2 hkk
          have hB0 : Hid (Below w8.heap.size w8 w8.drew) := Lib.hid (Below.refl _ _).drew
          go_wp2_with fail
          go_region_held3 (fun w' => w'.cell? ⟨w3.heap.size, 0, none⟩ = some (.int .i64 t1) ∧ w'.cell? ⟨w3.heap.size, 1, none⟩ = some (.int .u64 (m1 : Int)) ∧ w'.cell? ⟨w3.heap.size, 2, none⟩ = some (.slice P1 i1 i2) ∧ w'.cell? ⟨w3.heap.size, 3, none⟩ = some (.slice P2 i3 i4) ∧ w'.cell? ⟨w5.heap.size, 0, none⟩ = some (.int .i64 t3) ∧ w'.cell? ⟨w5.heap.size, 1, none⟩ = some (.int .u64 (m3 : Int)) ∧ w'.cell? ⟨w5.heap.size, 2, none⟩ = some (.slice P3 k1 k2) ∧ w'.cell? ⟨w5.heap.size, 3, none⟩ = some (.slice P4 k3 k4) ∧ Hid (Below w8.heap.size w8 w')) (exact hold8 HBW.out.1 HBW.out.2 (by assumption)) (first | (go_at_call 48; refine (same_any _ v u ⟨.int .i64 t1, .int .u64 (m1 : Int), .slice P1 i1 i2, .slice P2 i3 i4⟩ ⟨.int .i64 t3, .int .u64 (m3 : Int), .slice P3 k1 k2, .slice P4 k3 k4⟩ _ AnyB AnyB (Nat.lt_succ_self _) (HAW.out.1.low' (Hid.out (by assumption))) (HAW.out.2.low' (Hid.out (by assumption)))).mono ?_; rintro e w12 ⟨rfl, hb12⟩; have hB12 := next_below (by assumption) hb12) | (go_at_call 26; refine (bytes_any _ _ _ U1 U2 kk kk u1 u2 _ _ (HR.out.1.after (Hid.out (by assumption))) (HR.out.2.after (Hid.out (by assumption))) (by omega) (by omega)).mono ?_; rintro e w13 ⟨rfl, dd, rfl⟩; have hB13 := Lib.hid (below_drewN (Hid.out hB12) dd); rw [HE.out]) | (go_at_call 19; refine (alive_any _).mono ?_; rintro e w14 ⟨rfl, hb14⟩; have hB14 := next_below (by assumption) hb14))
          go_wp2_with fail
          go_ret
          exact ⟨rfl, HB.out.trans (hB14.out.mono HB.out.size)⟩
    · rw [f1, putF_not f2]
      clear f1 f2
      go_wp2_with fail
      refine (alive_any _).mono ?_
      rintro e w9 ⟨rfl, hb9⟩
      have HF := Lib.hid (HB8.out.trans (hb9.mono HB8.out.size))
      clear hb9
      go_wp2_with fail
      go_ret
      exact ⟨rfl, HF.out⟩
  · rw [putF_not f1]
    clear f1
    go_wp2_with fail
    refine (alive_any _).mono ?_
    rintro e w9 ⟨rfl, hb9⟩
    have HF := Lib.hid (HB8.out.trans (hb9.mono HB8.out.size))
    clear hb9
    go_wp2_with fail
    go_ret
    exact ⟨rfl, HF.out⟩
set_option maxRecDepth 10000 in
theorem tlvCuts_any (w : World) (S S' : Nat → Prop) (A B : Option Addr) (n c n' c' : Nat) (l m : List ND) (hx : NR w S A n c l) (hy : NR w S' B n' c' m) (cut : Int) :
    Calls Try.prog 10 #[.slice A n c, .slice B n' c', .int .i64 cut] w fun e w' => e = .returned (.bool true) ∧ Below w.heap.size w w' := by
  have hnot : ∀ (x : Bool) (w : World), (Op.unary .not (.bool x)).run Try.prog w = .ok (.bool (!x)) w := fun _ _ => rfl
  by_cases hl : lightB l = true
  · by_cases hm : lightB m = true
    · exact tlvCuts_in w S S' A B n c n' c' l m hx hy hl hm cut
    · have HX := Lib.hid hx
      have HY := Lib.hid hy.old
      have HL := Lib.hid (And.intro hl (eq_false_of_ne_true hm))
      clear hx hy hl hm
      go_enter Try.func10, Try.ntmps10
      go_wp2_with fail
      refine (light_any w _ A n c l HX.out).mono ?_
      rintro e w1 ⟨rfl, hb1⟩
      rw [HL.out.1]
      have HB1 := Lib.hid hb1
      clear hb1
      go_wp2_with fail
      refine (light_any w1 _ B n' c' m (HY.out.lower HB1.out)).mono ?_
      rintro e w2 ⟨rfl, hb2⟩
      rw [HL.out.2]
      have HB2 := Lib.hid (HB1.out.trans (hb2.mono HB1.out.size))
      clear hb2 HB1
      go_wp2_with fail
      refine (alive_any _).mono ?_
      rintro e w3 ⟨rfl, hb3⟩
      have HB3 := Lib.hid (HB2.out.trans (hb3.mono HB2.out.size))
      clear hb3
      go_wp2_with fail
      go_ret
      exact ⟨rfl, HB3.out⟩
  · have HX := Lib.hid hx
    have HL := Lib.hid (eq_false_of_ne_true hl)
    clear hx hy hl
    go_enter Try.func10, Try.ntmps10
    go_wp2_with fail
    refine (light_any w _ A n c l HX.out).mono ?_
    rintro e w1 ⟨rfl, hb1⟩
    rw [HL.out]
    have HB1 := Lib.hid hb1
    clear hb1
    go_wp2_with fail
    refine (alive_any _).mono ?_
    rintro e w3 ⟨rfl, hb3⟩
    have HB3 := Lib.hid (HB1.out.trans (hb3.mono HB1.out.size))
    clear hb3
    go_wp2_with fail
    go_ret
    exact ⟨rfl, HB3.out⟩
end Go.Proofs.Ytaebmhbggbpnoaa
namespace Go.Proofs.Ytaebmhbggbpnoaa
open Go.RowKit
theorem read_own {v : TV} (h : putF v = 0) (hv : OkT v) (rest : List UInt8) : readT 8 (putB v ++ rest) = some (v, rest) := by
  have hp := putF_zero h
  unfold putT at hp
  rw [Option.map_eq_some_iff] at hp
  obtain ⟨x, hx, e⟩ := hp
  rw [← e]
  exact read_put 8 v x rest hv hx
theorem put_got {b : List UInt8} {v : TV} (h : readT 8 b = some (v, [])) : putF v = 0 ∧ putB v = b := by
  obtain ⟨-, x, hx, e⟩ := put_read 8 _ _ _ h
  have hp := putT_some hx
  unfold putF putB
  rw [hp]
  simp [e]
theorem vr_zero (w : World) : VR w AnyB ⟨.int .i64 0, .int .u64 ((0 : Nat) : Int), .slice none 0 0, .slice none 0 0⟩ (.mk 0 0 [] []) := VR.shut (by simp [u64ok]) (Bs.nil _ _ _) (by omega) (LR.nil _ _ _)
theorem box_one (w : World) (q : Quad) (t : TypeId) : Blk (w.alloc (.cells #[q.a, q.b, q.c, q.d] t)) w.heap.size t #[q.a, q.b, q.c, q.d] ∧ Below w.heap.size w (w.alloc (.cells #[q.a, q.b, q.c, q.d] t)) := ⟨Blk.new w t _, (Below.refl _ _).alloc (Nat.le_refl _) _⟩
set_option maxRecDepth 100000 in
set_option maxHeartbeats 16000000 in
theorem tlvBack_in (w : World) (S S' S2 : Nat → Prop) (A B C : Option Addr) (n c n' c' n3 c3 : Nat) (l : List ND) (rs bs : List UInt8) (hx : NR w S A n c l) (hy : Bs w S' B n' c' rs) (hz : Bs w S2 C n3 c3 bs) (hl : lightB l = true) (hn' : n' ≤ 300) (hn3 : n3 ≤ 3000) :
    Calls Try.prog 11 #[.slice A n c, .slice B n' c', .slice C n3 c3] w fun e w' => e = .returned (.bool true) ∧ Below w.heap.size w w' := by
  have HX := Lib.hid hx.old
  have HY := Lib.hid hy.old
  have HZ := Lib.hid hz.old
  have HL := Lib.hid hl
  clear hx hy hl hz
  have l1 : ¬ (300 : Int) < (n' : Int) := by omega
  have l2 : ¬ (3000 : Int) < (n3 : Int) := by omega
  have hnot : ∀ (x : Bool) (w : World), (Op.unary .not (.bool x)).run Try.prog w = .ok (.bool (!x)) w := fun _ _ => rfl
  go_enter Try.func11, Try.ntmps11
  go_wp2_with fail
  refine (light_any w _ A n c l HX.out).mono ?_
  rintro e w2 ⟨rfl, hb1⟩
  rw [HL.out]
  have HB2 := Lib.hid hb1
  clear hb1
  go_wp2_with fail
  refine (buildL_any w2 _ A n c l (HX.out.lower HB2.out) HL.out).mono ?_
  rintro e w3 ⟨t1, m1, P1, i1, i2, P2, i3, i4, t2, m2, Q1, j1, j2, Q2, j3, j4, v, b1, rfl, ha, hb, hv, hb3⟩
  have HA3 := Lib.hid ha
  have HB3 := Lib.hid (HB2.out.trans (hb3.mono HB2.out.size))
  have HOV := Lib.hid hv
  clear ha hb hb3 HB2 hv
  obtain ⟨hX4, hY4, hb4⟩ := two_boxes w3 ⟨.int .i64 t1, .int .u64 (m1 : Int), .slice P1 i1 i2, .slice P2 i3 i4⟩ ⟨.int .i64 t2, .int .u64 (m2 : Int), .slice Q1 j1 j2, .slice Q2 j3 j4⟩ 27 33
  obtain ⟨W4, hW4⟩ : ∃ W4, W4 = (w3.alloc (.cells #[.int .i64 t1, .int .u64 (m1 : Int), .slice P1 i1 i2, .slice P2 i3 i4] 27)).alloc (.cells #[.int .i64 t2, .int .u64 (m2 : Int), .slice Q1 j1 j2, .slice Q2 j3 j4] 33) := ⟨_, rfl⟩
  go_upto_region 4 with (fail)
  rw [← hW4] at hX4 hY4 hb4 ⊢
  clear hW4
  have HB4 := Lib.hid (HB3.out.trans (hb4.mono HB3.out.size))
  have HA4 := Lib.hid (HA3.out.low' hb4)
  have HX4 := Lib.hid hX4
  clear hX4 hY4 hb4 HA3 HB3
  obtain ⟨a0, a1, a2, a3, -, -, -, -, hz1⟩ := HX4.out.four
  go_wp2_with fail
  refine (put_one v ⟨.int .i64 t1, .int .u64 (m1 : Int), .slice P1 i1 i2, .slice P2 i3 i4⟩ W4 _ HA4.out).mono ?_
  rintro e w5 ⟨X1, x1, y1, rfl, hx5, hl5, hb5⟩
  have HX5 := Lib.hid hx5.any
  have HB5 := Lib.hid (HB4.out.trans (hb5.mono HB4.out.size))
  have HA5 := Lib.hid (HA4.out.low' hb5)
  have HBX5 := Lib.hid (HX4.out.after hb5)
  have HSZ : Hid (sizeT v = x1) := Lib.hid (by rw [size_put, hx5.len])
  clear hx5 hb5 a0 a1 a2 a3 hz1 HB4 HA4 HX4
  by_cases f1 : putF v = 0
  · have HR := Lib.hid (read_own f1 HOV.out rs)
    rw [f1]
    clear f1
    have tok1 : True := trivial
    go_wp2_with (at_builtin; (first | (have _t := tok1; refine wpList_append_u8 rfl (.tmp 47) (.tmp 48) rfl (base := w5.heap.size) (v := .slice (some ⟨w5.heap.size, 0, none⟩) 0 0) (n := 0) (xs := []) rfl (World.ownsRow_made w5 #[] 0 (Nat.le_refl _) (by simp [maxLen]) rfl : World.ownsRow _ _ _ _ _ _ (u8s [])) (m := x1) (c := y1) (ys := putB v) rfl (HX5.out.after ((Below.refl _ _).alloc (Nat.le_refl _) _)) (by omega) (by simp) ?_; intro v1 w6 hown1 hg1 hat1; clear tok1; simp only [Nat.zero_add, List.nil_append] at hown1; obtain ⟨A1, c1, rfl, _⟩ := own_shape hown1; have HO := Lib.hid (And.intro hown1 (((Below.refl w5.heap.size w5).alloc (Nat.le_refl _) _).grown hg1 (by simp) (by simp [Value.ownBlock]))); clear hown1 hg1 hat1) | go_loud (refine wpList_append_u8 rfl (.tmp 49) (.tmp 50) rfl (base := w5.heap.size) (v := .slice A1 x1 c1) (n := x1) (xs := putB v) rfl HO.out.1 (m := n') (c := c') (ys := rs) rfl ((HY.out.below HB5.out).after HO.out.2) (by omega) HO.out.2.size ?_; intro v3 w7 hown3 hg3 hat3; have HQ := Lib.hid (And.intro hown3 (Below.grown HO.out.2 hg3 HO.out.2.size (own_base HO.out.1))); clear hown3 hg3 hat3)))
    obtain ⟨A3, c4, rfl, hbs3⟩ := own_bs HQ.out.1
    have HT := Lib.hid (take_some w7 _ A3 (x1 + n') c4 _ rs v hbs3 (by omega) HR.out)
    have HB7 := Lib.hid (HB5.out.trans (HQ.out.2.mono HB5.out.size))
    have HA7 := Lib.hid (HA5.out.low' HQ.out.2)
    have HBX7 := Lib.hid (HBX5.out.after HQ.out.2)
    clear hbs3 HQ HO HB5 HA5 HBX5
    refine (HT.out).mono ?_
    rintro e w8 ⟨q, A8, n8, c8, rfl, hv8, hown8, hn8, hb8⟩
    obtain ⟨t5, m5, xx, yy, R1, R2, o1, o2, o3, o4, rfl, -⟩ := hv8.opens
    dsimp only [Quad.agg]
    obtain ⟨_, _, e8, hB8⟩ := own_bs hown8
    cases e8
    obtain ⟨hX9, hb9⟩ := box_one w8 ⟨.int .i64 t5, .int .u64 (m5 : Int), .slice R1 o1 o2, .slice R2 o3 o4⟩ 27
    obtain ⟨W9, hW9⟩ : ∃ W9, W9 = w8.alloc (.cells #[.int .i64 t5, .int .u64 (m5 : Int), .slice R1 o1 o2, .slice R2 o3 o4] 27) := ⟨_, rfl⟩
    go_upto_region 7 with (fail)
    rw [← hW9] at hX9 hb9 ⊢
    clear hW9
    have hb79 := hb8.trans (hb9.mono hb8.size)
    have HB9 := Lib.hid (HB7.out.trans (hb79.mono HB7.out.size))
    have HV9 := Lib.hid (And.intro (hv8.low' hb9) (HA7.out.low' hb79))
    have HX9 := Lib.hid (And.intro hX9 (HBX7.out.after hb79))
    have HR9 := Lib.hid (hB8.after hb9)
    clear hX9 hb9 hb79 hv8 hown8 hB8 hb8 HB7 HA7 HBX7 HT
    obtain ⟨a0, a1, a2, a3, -, -, -, -, hz1⟩ := HX9.out.1.four
    obtain ⟨b0, b1', b2', b3, -, -, -, -, hz2⟩ := HX9.out.2.four
    go_wp2_with fail
    refine (same_any _ v v ⟨.int .i64 t5, .int .u64 (m5 : Int), .slice R1 o1 o2, .slice R2 o3 o4⟩ ⟨.int .i64 t1, .int .u64 (m1 : Int), .slice P1 i1 i2, .slice P2 i3 i4⟩ W9 AnyB AnyB (Nat.lt_succ_self _) HV9.out.1 HV9.out.2).mono ?_
    rintro e w10 ⟨rfl, hb10⟩
    rw [sameB_of rfl]
    have HB10 := Lib.hid (HB9.out.trans (hb10.mono HB9.out.size))
    have HA10 := Lib.hid (HV9.out.2.low' hb10)
    have HX10 := Lib.hid (HX9.out.2.after hb10)
    have HR10 := Lib.hid (HR9.out.after hb10)
    clear hb10 a0 a1 a2 a3 b0 b1' b2' b3 HB9 HV9 HX9 HR9 hz1 hz2
    go_wp2_with fail
    refine (bytes_any w10 _ _ A8 B n8 n' c8 c' _ _ HR10.out (HY.out.below HB10.out) (by omega) (by omega)).mono ?_
    rintro e w11 ⟨rfl, dd, rfl⟩
    rw [decide_eq_true rfl]
    obtain ⟨w11, hw11⟩ : ∃ w11, w11 = w10.drewN dd := ⟨_, rfl⟩
    have hb11 : Below w10.heap.size w10 w11 := by rw [hw11]; exact below_drewN (Below.refl _ _) dd
    rw [← hw11]
    clear hw11
    have HA11 := Lib.hid (HA10.out.low' hb11)
    obtain ⟨b0, b1', b2', b3, -, -, -, -, hz2⟩ := (HX10.out.after hb11).four
    have HB11 := Lib.hid (HB10.out.trans (hb11.mono HB10.out.size))
    clear hb11 HA10 HX10 HR10 HB10
    go_wp2_with fail
    refine (size_any v ⟨.int .i64 t1, .int .u64 (m1 : Int), .slice P1 i1 i2, .slice P2 i3 i4⟩ w11 _ HA11.out).mono ?_
    rintro e w12 ⟨rfl, hb12⟩
    rw [HSZ.out]
    have HB := Lib.hid (HB11.out.trans (hb12.mono HB11.out.size))
    clear hb12 HB11 HA11 b0 b1' b2' b3 hz2
    cases hrd : readT 8 bs with
    | none =>
      have HG := Lib.hid (get_none w12 _ C n3 c3 bs (HZ.out.below HB.out) (by omega) hrd)
      clear hrd
      go_wp2_with fail
      refine (HG.out).mono ?_
      rintro e w6 ⟨rfl, hb6⟩
      obtain ⟨hX7, hb7⟩ := box_one w6 ⟨.int .i64 0, .int .u64 ((0 : Nat) : Int), .slice none 0 0, .slice none 0 0⟩ 27
      have HB7 := Lib.hid ((HB.out.trans (hb6.mono HB.out.size)).trans (hb7.mono (Nat.le_trans HB.out.size hb6.size)))
      obtain ⟨W7, hW7⟩ : ∃ W7, W7 = w6.alloc (.cells #[.int .i64 0, .int .u64 ((0 : Nat) : Int), .slice none 0 0, .slice none 0 0] 27) := ⟨_, rfl⟩
      go_upto_region 10 with (fail)
      first | rw [← hW7] at hX7 HB7 ⊢ | (have hW7' : W7 = w6.alloc (.cells #[.int .i64 0, .int .u64 0, .slice none 0 0, .slice none 0 0] 27) := hW7; rw [← hW7'] ; rw [← hW7] at hX7 HB7)
      clear hb6 hb7
      obtain ⟨a0, a1, a2, a3, -, -, -, -, hz1⟩ := hX7.four
      clear hX7
      try clear hW7'
      clear hW7
      have HS := Lib.hid (same_any _ (.mk 0 0 [] []) (.mk 0 0 [] []) ⟨.int .i64 0, .int .u64 ((0 : Nat) : Int), .slice none 0 0, .slice none 0 0⟩ ⟨.int .i64 0, .int .u64 ((0 : Nat) : Int), .slice none 0 0, .slice none 0 0⟩ W7 AnyB AnyB (Nat.lt_succ_self _) (vr_zero W7) (vr_zero W7))
      have a1z : W7.cell? ⟨w6.heap.size, 1, none⟩ = some (.int .u64 0) := a1
      clear a1
      go_wp2_with fail
      refine (HS.out).mono ?_
      rintro e w8 ⟨rfl, hb8⟩
      rw [sameB_of rfl]
      have HB8 := Lib.hid (HB7.out.trans (hb8.mono HB7.out.size))
      clear hb8
      go_wp2_with fail
      refine (alive_any _).mono ?_
      rintro e w9 ⟨rfl, hb9⟩
      have HF := Lib.hid (HB8.out.trans (hb9.mono HB8.out.size))
      clear hb9
      go_wp2_with fail
      go_ret
      exact ⟨rfl, HF.out⟩
    | some p =>
      obtain ⟨u, rr⟩ := p
      by_cases hrr : rr = []
      · subst hrr
        have HG := Lib.hid (get_some w12 _ C n3 c3 bs u (HZ.out.below HB.out) (by omega) hrd)
        have HPG := Lib.hid (put_got hrd)
        clear hrd
        go_wp2_with fail
        refine (HG.out).mono ?_
        rintro e w6 ⟨q, rfl, hv6, hb6⟩
        obtain ⟨t5, m5, xx, yy, R1, R2, o1, o2, o3, o4, rfl, -⟩ := hv6.opens
        dsimp only [Quad.agg]
        obtain ⟨hX7, hb7⟩ := box_one w6 ⟨.int .i64 t5, .int .u64 (m5 : Int), .slice R1 o1 o2, .slice R2 o3 o4⟩ 27
        have HB7 := Lib.hid ((HB.out.trans (hb6.mono HB.out.size)).trans (hb7.mono (Nat.le_trans HB.out.size hb6.size)))
        have HV7 := Lib.hid (hv6.low' hb7)
        obtain ⟨W7, hW7⟩ : ∃ W7, W7 = w6.alloc (.cells #[.int .i64 t5, .int .u64 (m5 : Int), .slice R1 o1 o2, .slice R2 o3 o4] 27) := ⟨_, rfl⟩
        go_upto_region 10 with (fail)
        rw [← hW7] at hX7 HB7 HV7 ⊢
        clear hb6 hb7 hv6 hW7
        obtain ⟨a0, a1, a2, a3, -, -, -, -, hz1⟩ := hX7.four
        clear hX7
        go_wp2_with fail
        refine (put_one u ⟨.int .i64 t5, .int .u64 (m5 : Int), .slice R1 o1 o2, .slice R2 o3 o4⟩ W7 _ HV7.out).mono ?_
        rintro e w8 ⟨X8, x8, y8, rfl, hx8, hl8, hb8⟩
        rw [HPG.out.2] at hx8
        rw [HPG.out.1]
        have HX8 := Lib.hid hx8
        have HB8 := Lib.hid (HB7.out.trans (hb8.mono HB7.out.size))
        clear hx8 hb8
        go_wp2_with fail
        refine (bytes_any w8 _ _ X8 C x8 n3 y8 c3 _ _ HX8.out (HZ.out.below HB8.out) (by omega) (by omega)).mono ?_
        rintro e w9 ⟨rfl, dd, rfl⟩
        rw [decide_eq_true rfl]
        have HB9 := Lib.hid (below_drewN HB8.out dd)
        go_wp2_with fail
        refine (alive_any _).mono ?_
        rintro e w10 ⟨rfl, hb10⟩
        have HF := Lib.hid (HB9.out.trans (hb10.mono HB9.out.size))
        clear hb10
        go_wp2_with fail
        go_ret
        exact ⟨rfl, HF.out⟩
      · have HG := Lib.hid (get_rest w12 _ C n3 c3 bs rr u (HZ.out.below HB.out) (by omega) hrd hrr)
        clear hrd hrr
        go_wp2_with fail
        refine (HG.out).mono ?_
        rintro e w6 ⟨rfl, hb6⟩
        obtain ⟨hX7, hb7⟩ := box_one w6 ⟨.int .i64 0, .int .u64 ((0 : Nat) : Int), .slice none 0 0, .slice none 0 0⟩ 27
        have HB7 := Lib.hid ((HB.out.trans (hb6.mono HB.out.size)).trans (hb7.mono (Nat.le_trans HB.out.size hb6.size)))
        obtain ⟨W7, hW7⟩ : ∃ W7, W7 = w6.alloc (.cells #[.int .i64 0, .int .u64 ((0 : Nat) : Int), .slice none 0 0, .slice none 0 0] 27) := ⟨_, rfl⟩
        go_upto_region 10 with (fail)
        first | rw [← hW7] at hX7 HB7 ⊢ | (have hW7' : W7 = w6.alloc (.cells #[.int .i64 0, .int .u64 0, .slice none 0 0, .slice none 0 0] 27) := hW7; rw [← hW7'] ; rw [← hW7] at hX7 HB7)
        clear hb6 hb7
        obtain ⟨a0, a1, a2, a3, -, -, -, -, hz1⟩ := hX7.four
        clear hX7
        try clear hW7'
        clear hW7
        have HS := Lib.hid (same_any _ (.mk 0 0 [] []) (.mk 0 0 [] []) ⟨.int .i64 0, .int .u64 ((0 : Nat) : Int), .slice none 0 0, .slice none 0 0⟩ ⟨.int .i64 0, .int .u64 ((0 : Nat) : Int), .slice none 0 0, .slice none 0 0⟩ W7 AnyB AnyB (Nat.lt_succ_self _) (vr_zero W7) (vr_zero W7))
        have a1z : W7.cell? ⟨w6.heap.size, 1, none⟩ = some (.int .u64 0) := a1
        clear a1
        go_wp2_with fail
        refine (HS.out).mono ?_
        rintro e w8 ⟨rfl, hb8⟩
        rw [sameB_of rfl]
        have HB8 := Lib.hid (HB7.out.trans (hb8.mono HB7.out.size))
        clear hb8
        go_wp2_with fail
        refine (alive_any _).mono ?_
        rintro e w9 ⟨rfl, hb9⟩
        have HF := Lib.hid (HB8.out.trans (hb9.mono HB8.out.size))
        clear hb9
        go_wp2_with fail
        go_ret
        exact ⟨rfl, HF.out⟩
  · rw [putF_not f1]
    clear f1
    have HB := HB5
    clear HB5 HA5 HBX5 HX5
    cases hrd : readT 8 bs with
    | none =>
      have HG := Lib.hid (get_none w5 _ C n3 c3 bs (HZ.out.below HB.out) (by omega) hrd)
      clear hrd
      go_wp2_with fail
      refine (HG.out).mono ?_
      rintro e w6 ⟨rfl, hb6⟩
      obtain ⟨hX7, hb7⟩ := box_one w6 ⟨.int .i64 0, .int .u64 ((0 : Nat) : Int), .slice none 0 0, .slice none 0 0⟩ 27
      have HB7 := Lib.hid ((HB.out.trans (hb6.mono HB.out.size)).trans (hb7.mono (Nat.le_trans HB.out.size hb6.size)))
      obtain ⟨W7, hW7⟩ : ∃ W7, W7 = w6.alloc (.cells #[.int .i64 0, .int .u64 ((0 : Nat) : Int), .slice none 0 0, .slice none 0 0] 27) := ⟨_, rfl⟩
      go_upto_region 10 with (fail)
      first | rw [← hW7] at hX7 HB7 ⊢ | (have hW7' : W7 = w6.alloc (.cells #[.int .i64 0, .int .u64 0, .slice none 0 0, .slice none 0 0] 27) := hW7; rw [← hW7'] ; rw [← hW7] at hX7 HB7)
      clear hb6 hb7
      obtain ⟨a0, a1, a2, a3, -, -, -, -, hz1⟩ := hX7.four
      clear hX7
      try clear hW7'
      clear hW7
      have HS := Lib.hid (same_any _ (.mk 0 0 [] []) (.mk 0 0 [] []) ⟨.int .i64 0, .int .u64 ((0 : Nat) : Int), .slice none 0 0, .slice none 0 0⟩ ⟨.int .i64 0, .int .u64 ((0 : Nat) : Int), .slice none 0 0, .slice none 0 0⟩ W7 AnyB AnyB (Nat.lt_succ_self _) (vr_zero W7) (vr_zero W7))
      have a1z : W7.cell? ⟨w6.heap.size, 1, none⟩ = some (.int .u64 0) := a1
      clear a1
      go_wp2_with fail
      refine (HS.out).mono ?_
      rintro e w8 ⟨rfl, hb8⟩
      rw [sameB_of rfl]
      have HB8 := Lib.hid (HB7.out.trans (hb8.mono HB7.out.size))
      clear hb8
      go_wp2_with fail
      refine (alive_any _).mono ?_
      rintro e w9 ⟨rfl, hb9⟩
      have HF := Lib.hid (HB8.out.trans (hb9.mono HB8.out.size))
      clear hb9
      go_wp2_with fail
      go_ret
      exact ⟨rfl, HF.out⟩
    | some p =>
      obtain ⟨u, rr⟩ := p
      by_cases hrr : rr = []
      · subst hrr
        have HG := Lib.hid (get_some w5 _ C n3 c3 bs u (HZ.out.below HB.out) (by omega) hrd)
        have HPG := Lib.hid (put_got hrd)
        clear hrd
        go_wp2_with fail
        refine (HG.out).mono ?_
        rintro e w6 ⟨q, rfl, hv6, hb6⟩
        obtain ⟨t5, m5, xx, yy, R1, R2, o1, o2, o3, o4, rfl, -⟩ := hv6.opens
        dsimp only [Quad.agg]
        obtain ⟨hX7, hb7⟩ := box_one w6 ⟨.int .i64 t5, .int .u64 (m5 : Int), .slice R1 o1 o2, .slice R2 o3 o4⟩ 27
        have HB7 := Lib.hid ((HB.out.trans (hb6.mono HB.out.size)).trans (hb7.mono (Nat.le_trans HB.out.size hb6.size)))
        have HV7 := Lib.hid (hv6.low' hb7)
        obtain ⟨W7, hW7⟩ : ∃ W7, W7 = w6.alloc (.cells #[.int .i64 t5, .int .u64 (m5 : Int), .slice R1 o1 o2, .slice R2 o3 o4] 27) := ⟨_, rfl⟩
        go_upto_region 10 with (fail)
        rw [← hW7] at hX7 HB7 HV7 ⊢
        clear hb6 hb7 hv6 hW7
        obtain ⟨a0, a1, a2, a3, -, -, -, -, hz1⟩ := hX7.four
        clear hX7
        go_wp2_with fail
        refine (put_one u ⟨.int .i64 t5, .int .u64 (m5 : Int), .slice R1 o1 o2, .slice R2 o3 o4⟩ W7 _ HV7.out).mono ?_
        rintro e w8 ⟨X8, x8, y8, rfl, hx8, hl8, hb8⟩
        rw [HPG.out.2] at hx8
        rw [HPG.out.1]
        have HX8 := Lib.hid hx8
        have HB8 := Lib.hid (HB7.out.trans (hb8.mono HB7.out.size))
        clear hx8 hb8
        go_wp2_with fail
        refine (bytes_any w8 _ _ X8 C x8 n3 y8 c3 _ _ HX8.out (HZ.out.below HB8.out) (by omega) (by omega)).mono ?_
        rintro e w9 ⟨rfl, dd, rfl⟩
        rw [decide_eq_true rfl]
        have HB9 := Lib.hid (below_drewN HB8.out dd)
        go_wp2_with fail
        refine (alive_any _).mono ?_
        rintro e w10 ⟨rfl, hb10⟩
        have HF := Lib.hid (HB9.out.trans (hb10.mono HB9.out.size))
        clear hb10
        go_wp2_with fail
        go_ret
        exact ⟨rfl, HF.out⟩
      · have HG := Lib.hid (get_rest w5 _ C n3 c3 bs rr u (HZ.out.below HB.out) (by omega) hrd hrr)
        clear hrd hrr
        go_wp2_with fail
        refine (HG.out).mono ?_
        rintro e w6 ⟨rfl, hb6⟩
        obtain ⟨hX7, hb7⟩ := box_one w6 ⟨.int .i64 0, .int .u64 ((0 : Nat) : Int), .slice none 0 0, .slice none 0 0⟩ 27
        have HB7 := Lib.hid ((HB.out.trans (hb6.mono HB.out.size)).trans (hb7.mono (Nat.le_trans HB.out.size hb6.size)))
        obtain ⟨W7, hW7⟩ : ∃ W7, W7 = w6.alloc (.cells #[.int .i64 0, .int .u64 ((0 : Nat) : Int), .slice none 0 0, .slice none 0 0] 27) := ⟨_, rfl⟩
        go_upto_region 10 with (fail)
        first | rw [← hW7] at hX7 HB7 ⊢ | (have hW7' : W7 = w6.alloc (.cells #[.int .i64 0, .int .u64 0, .slice none 0 0, .slice none 0 0] 27) := hW7; rw [← hW7'] ; rw [← hW7] at hX7 HB7)
        clear hb6 hb7
        obtain ⟨a0, a1, a2, a3, -, -, -, -, hz1⟩ := hX7.four
        clear hX7
        try clear hW7'
        clear hW7
        have HS := Lib.hid (same_any _ (.mk 0 0 [] []) (.mk 0 0 [] []) ⟨.int .i64 0, .int .u64 ((0 : Nat) : Int), .slice none 0 0, .slice none 0 0⟩ ⟨.int .i64 0, .int .u64 ((0 : Nat) : Int), .slice none 0 0, .slice none 0 0⟩ W7 AnyB AnyB (Nat.lt_succ_self _) (vr_zero W7) (vr_zero W7))
        have a1z : W7.cell? ⟨w6.heap.size, 1, none⟩ = some (.int .u64 0) := a1
        clear a1
        go_wp2_with fail
        refine (HS.out).mono ?_
        rintro e w8 ⟨rfl, hb8⟩
        rw [sameB_of rfl]
        have HB8 := Lib.hid (HB7.out.trans (hb8.mono HB7.out.size))
        clear hb8
        go_wp2_with fail
        refine (alive_any _).mono ?_
        rintro e w9 ⟨rfl, hb9⟩
        have HF := Lib.hid (HB8.out.trans (hb9.mono HB8.out.size))
        clear hb9
        go_wp2_with fail
        go_ret
        exact ⟨rfl, HF.out⟩
set_option maxRecDepth 100000 in
theorem tlvBack_any (w : World) (S S' S2 : Nat → Prop) (A B C : Option Addr) (n c n' c' n3 c3 : Nat) (l : List ND) (rs bs : List UInt8) (hx : NR w S A n c l) (hy : Bs w S' B n' c' rs) (hz : Bs w S2 C n3 c3 bs) :
    Calls Try.prog 11 #[.slice A n c, .slice B n' c', .slice C n3 c3] w fun e w' => e = .returned (.bool true) ∧ Below w.heap.size w w' := by
  have hnot : ∀ (x : Bool) (w : World), (Op.unary .not (.bool x)).run Try.prog w = .ok (.bool (!x)) w := fun _ _ => rfl
  by_cases h : lightB l = true ∧ n' ≤ 300 ∧ n3 ≤ 3000
  · exact tlvBack_in w S S' S2 A B C n c n' c' n3 c3 l rs bs hx hy hz h.1 h.2.1 h.2.2
  · have HX := Lib.hid hx
    obtain ⟨lb, hlb⟩ : ∃ lb, lb = lightB l := ⟨_, rfl⟩
    rw [← hlb] at h
    have HL := Lib.hid hlb
    clear hx hy hz hlb
    by_cases h1 : lb = true
    · subst h1
      by_cases h2 : (300 : Int) < (n' : Int)
      · clear h
        go_enter Try.func11, Try.ntmps11
        go_wp2_with fail
        refine (light_any w _ A n c l HX.out).mono ?_
        rintro e w1 ⟨rfl, hb1⟩
        rw [← HL.out]
        have HB1 := Lib.hid hb1
        clear hb1
        go_wp2_with fail
        refine (alive_any _).mono ?_
        rintro e w3 ⟨rfl, hb3⟩
        have HB3 := Lib.hid (HB1.out.trans (hb3.mono HB1.out.size))
        clear hb3
        go_wp2_with fail
        go_ret
        exact ⟨rfl, HB3.out⟩
      · have h3 : (3000 : Int) < (n3 : Int) := by
          rcases Nat.lt_or_ge 3000 n3 with h3 | h3
          · omega
          · exact absurd ⟨rfl, by omega, h3⟩ h
        clear h
        go_enter Try.func11, Try.ntmps11
        go_wp2_with fail
        refine (light_any w _ A n c l HX.out).mono ?_
        rintro e w1 ⟨rfl, hb1⟩
        rw [← HL.out]
        have HB1 := Lib.hid hb1
        clear hb1
        go_wp2_with fail
        refine (alive_any _).mono ?_
        rintro e w3 ⟨rfl, hb3⟩
        have HB3 := Lib.hid (HB1.out.trans (hb3.mono HB1.out.size))
        clear hb3
        go_wp2_with fail
        go_ret
        exact ⟨rfl, HB3.out⟩
    · obtain rfl : lb = false := eq_false_of_ne_true h1
      clear h h1
      go_enter Try.func11, Try.ntmps11
      go_wp2_with fail
      refine (light_any w _ A n c l HX.out).mono ?_
      rintro e w1 ⟨rfl, hb1⟩
      rw [← HL.out]
      have HB1 := Lib.hid hb1
      clear hb1
      go_wp2_with fail
      refine (alive_any _).mono ?_
      rintro e w3 ⟨rfl, hb3⟩
      have HB3 := Lib.hid (HB1.out.trans (hb3.mono HB1.out.size))
      clear hb3
      go_wp2_with fail
      go_ret
      exact ⟨rfl, HB3.out⟩
end Go.Proofs.Ytaebmhbggbpnoaa
