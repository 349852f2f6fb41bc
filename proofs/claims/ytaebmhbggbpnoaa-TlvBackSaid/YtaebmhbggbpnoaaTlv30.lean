/- The walk of TlvForms. Conditions: each theorem's premises. -/
import Derived.Test.YtaebmhbggbpnoaaTlv29
import Derived.Test.YtaebmhbggbpnoaaTlv22
import Derived.Test.YtaebmhbggbpnoaaTlv19
namespace Go.Proofs.Ytaebmhbggbpnoaa
open Go.RowKit
set_option maxRecDepth 100000 in
set_option maxHeartbeats 8000000 in
theorem tlvForms_in (w : World) (S S' : Nat → Prop) (A B : Option Addr) (n c n' c' : Nat) (l m : List ND) (hx : NR w S A n c l) (hy : NR w S' B n' c' m) (hl : lightB l = true) (hm : lightB m = true) :
    Calls Try.prog 9 #[.slice A n c, .slice B n' c'] w fun e w' => e = .returned (.bool true) ∧ Below w.heap.size w w' := by
  have HX := Lib.hid hx.old
  have HY := Lib.hid hy.old
  have HL := Lib.hid (And.intro hl hm)
  clear hx hy hl hm
  have hnot : ∀ (x : Bool) (w : World), (Op.unary .not (.bool x)).run Try.prog w = .ok (.bool (!x)) w := fun _ _ => rfl
  go_enter Try.func9, Try.ntmps9
  go_wp2_with fail
  refine (light_any w _ A n c l HX.out).mono ?_
  rintro e w1 ⟨rfl, hb1⟩
  rw [HL.out.1]
  have HB1 := Lib.hid hb1
  clear hb1
  go_wp2_with fail
  refine (light_any w1 _ B n' c' m (HY.out.lower HB1.out)).mono ?_
  rintro e w2 ⟨rfl, hb2⟩
  rw [HL.out.2]
  have HB2 := Lib.hid (HB1.out.trans (hb2.mono HB1.out.size))
  clear hb2 HB1
  go_wp2_with fail
  refine (buildL_any w2 _ A n c l (HX.out.lower HB2.out) HL.out.1).mono ?_
  rintro e w3 ⟨t1, m1, P1, i1, i2, P2, i3, i4, t2, m2, Q1, j1, j2, Q2, j3, j4, v, b1, rfl, ha, hb, hv, hb3⟩
  have HA3 := Lib.hid ha
  have HA3' := Lib.hid hb
  have HB3 := Lib.hid (HB2.out.trans (hb3.mono HB2.out.size))
  clear ha hb hb3 HB2 hv
  obtain ⟨hX4, hY4, hb4⟩ := two_boxes w3 ⟨.int .i64 t1, .int .u64 (m1 : Int), .slice P1 i1 i2, .slice P2 i3 i4⟩ ⟨.int .i64 t2, .int .u64 (m2 : Int), .slice Q1 j1 j2, .slice Q2 j3 j4⟩ 27 33
  obtain ⟨W4, hW4⟩ : ∃ W4, W4 = (w3.alloc (.cells #[.int .i64 t1, .int .u64 (m1 : Int), .slice P1 i1 i2, .slice P2 i3 i4] 27)).alloc (.cells #[.int .i64 t2, .int .u64 (m2 : Int), .slice Q1 j1 j2, .slice Q2 j3 j4] 33) := ⟨_, rfl⟩
  go_upto_region 4 with (fail)
  rw [← hW4] at hX4 hY4 hb4 ⊢
  clear hW4
  have HB4 := Lib.hid (HB3.out.trans (hb4.mono HB3.out.size))
  have HA4 := Lib.hid (HA3.out.low' hb4)
  have HA4' := Lib.hid (HA3'.out.low' hb4)
  have HX4 := Lib.hid (And.intro hX4 hY4)
  have hs4 := hX4.lt
  have hs4' := hY4.lt
  clear hX4 hY4 hb4 HA3 HA3' HB3
  go_wp2_with fail
  refine (buildL_any W4 _ B n' c' m (HY.out.lower HB4.out) HL.out.2).mono ?_
  rintro e w5 ⟨t3, m3, P3, k1, k2, P4, k3, k4, t4, m4, Q3, l1, l2, Q4, l3, l4, u, b2, rfl, ha, hb, hu, hb5⟩
  have HB5 := Lib.hid (HB4.out.trans (hb5.mono HB4.out.size))
  obtain ⟨hX6, hY6, hb6⟩ := two_boxes w5 ⟨.int .i64 t3, .int .u64 (m3 : Int), .slice P3 k1 k2, .slice P4 k3 k4⟩ ⟨.int .i64 t4, .int .u64 (m4 : Int), .slice Q3 l1 l2, .slice Q4 l3 l4⟩ 27 33
  obtain ⟨W6, hW6⟩ : ∃ W6, W6 = (w5.alloc (.cells #[.int .i64 t3, .int .u64 (m3 : Int), .slice P3 k1 k2, .slice P4 k3 k4] 27)).alloc (.cells #[.int .i64 t4, .int .u64 (m4 : Int), .slice Q3 l1 l2, .slice Q4 l3 l4] 33) := ⟨_, rfl⟩
  have hs5 := hb5.size
  go_upto_region 5 with (fail)
  rw [← hW6] at hX6 hY6 hb6 ⊢
  clear hW6
  have HB6 := Lib.hid (HB5.out.trans (hb6.mono HB5.out.size))
  have HA6 := Lib.hid ((HA4.out.low' hb5).low' hb6)
  have HA6' := Lib.hid ((HA4'.out.low' hb5).low' hb6)
  have HC6 := Lib.hid (ha.low' hb6)
  have HC6' := Lib.hid (hb.low' hb6)
  have HX6 := Lib.hid (And.intro ((HX4.out.1.after hb5).after hb6) (And.intro ((HX4.out.2.after hb5).after hb6) (And.intro hX6 hY6)))
  clear hX6 hY6 hb6 ha hb hu hb5 HA4 HA4' HB4 HX4 HB5
  obtain ⟨a0, a1, a2, a3, -, -, -, -, hz1⟩ := HX6.out.1.four
  obtain ⟨b0, b1', b2', b3, -, -, -, -, hz2⟩ := HX6.out.2.1.four
  go_wp2_with fail
  refine (put_one v ⟨.int .i64 t1, .int .u64 (m1 : Int), .slice P1 i1 i2, .slice P2 i3 i4⟩ W6 _ HA6.out).mono ?_
  rintro e w7 ⟨X1, x1, y1, rfl, hx7, hl7, hb7⟩
  have HX7 := Lib.hid hx7
  have HB7 := Lib.hid hb7
  have c0 := (hb7.cell (p := ⟨w3.heap.size + 1, 0, none⟩) hz2).trans b0
  have c1 := (hb7.cell (p := ⟨w3.heap.size + 1, 1, none⟩) hz2).trans b1'
  have c2 := (hb7.cell (p := ⟨w3.heap.size + 1, 2, none⟩) hz2).trans b2'
  have c3 := (hb7.cell (p := ⟨w3.heap.size + 1, 3, none⟩) hz2).trans b3
  clear hx7 hb7 a0 a1 a2 a3 b0 b1' b2' b3
  go_wp2_with fail
  refine (rput_one v ⟨.int .i64 t2, .int .u64 (m2 : Int), .slice Q1 j1 j2, .slice Q2 j3 j4⟩ w7 _ (HA6'.out.low' HB7.out)).mono ?_
  rintro e w8 ⟨X2, x2, y2, rfl, hx8, hl8, hb8⟩
  have hb68 := HB7.out.trans (hb8.mono HB7.out.size)
  have HB8 := Lib.hid (HB6.out.trans (hb68.mono HB6.out.size))
  have HXX := Lib.hid (And.intro (HX7.out.after hb8) hx8)
  have HA8 := Lib.hid (And.intro (HA6.out.low' hb68) (And.intro (HA6'.out.low' hb68) (And.intro (HC6.out.low' hb68) (HC6'.out.low' hb68))))
  have HX8 := Lib.hid (And.intro (HX6.out.1.after hb68) (And.intro (HX6.out.2.1.after hb68) (And.intro (HX6.out.2.2.1.after hb68) (HX6.out.2.2.2.after hb68))))
  have hx1 : x2 = x1 := by rw [← hx8.len, ← HX7.out.len]
  subst hx1
  have HSZ : Hid (sizeT v = x2) := Lib.hid (by rw [size_put, hx8.len])
  have HRP := Lib.hid (right_put v)
  clear hx8 hb8 hb68 HX7 HB7 HB6 HA6 HA6' HC6 HC6' HX6 c0 c1 c2 c3 hl7
  obtain ⟨a0, a1, a2, a3, -, -, -, -, hz1'⟩ := HX8.out.1.four
  obtain ⟨b0, b1', b2', b3, -, -, -, -, hz2'⟩ := HX8.out.2.1.four
  obtain ⟨c0, c1, c2, c3, -, -, -, -, hz3'⟩ := HX8.out.2.2.1.four
  obtain ⟨d0, d1, d2, d3, -, -, -, -, hz4'⟩ := HX8.out.2.2.2.four
  have hB0 : Hid (Below w8.heap.size w8 w8.drew) := Lib.hid (Below.refl _ _).drew
  go_wp2_with fail
  go_region_held3 (fun w' => w'.cell? ⟨w3.heap.size, 0, none⟩ = some (.int .i64 t1) ∧ w'.cell? ⟨w3.heap.size, 1, none⟩ = some (.int .u64 (m1 : Int)) ∧ w'.cell? ⟨w3.heap.size, 2, none⟩ = some (.slice P1 i1 i2) ∧ w'.cell? ⟨w3.heap.size, 3, none⟩ = some (.slice P2 i3 i4) ∧ w'.cell? ⟨w3.heap.size + 1, 0, none⟩ = some (.int .i64 t2) ∧ w'.cell? ⟨w3.heap.size + 1, 1, none⟩ = some (.int .u64 (m2 : Int)) ∧ w'.cell? ⟨w3.heap.size + 1, 2, none⟩ = some (.slice Q1 j1 j2) ∧ w'.cell? ⟨w3.heap.size + 1, 3, none⟩ = some (.slice Q2 j3 j4) ∧ w'.cell? ⟨w5.heap.size, 0, none⟩ = some (.int .i64 t3) ∧ w'.cell? ⟨w5.heap.size, 1, none⟩ = some (.int .u64 (m3 : Int)) ∧ w'.cell? ⟨w5.heap.size, 2, none⟩ = some (.slice P3 k1 k2) ∧ w'.cell? ⟨w5.heap.size, 3, none⟩ = some (.slice P4 k3 k4) ∧ w'.cell? ⟨w5.heap.size + 1, 0, none⟩ = some (.int .i64 t4) ∧ w'.cell? ⟨w5.heap.size + 1, 1, none⟩ = some (.int .u64 (m4 : Int)) ∧ w'.cell? ⟨w5.heap.size + 1, 2, none⟩ = some (.slice Q3 l1 l2) ∧ w'.cell? ⟨w5.heap.size + 1, 3, none⟩ = some (.slice Q4 l3 l4) ∧ Hid (Below w8.heap.size w8 w')) (exact hold16 HX8.out.1 HX8.out.2.1 HX8.out.2.2.1 HX8.out.2.2.2 (by assumption)) (first | (go_at_call 47; refine (right_any v ⟨.int .i64 t1, .int .u64 (m1 : Int), .slice P1 i1 i2, .slice P2 i3 i4⟩ _ AnyB (HA8.out.1.low' (Hid.out (by assumption)))).mono ?_; rintro e w9 ⟨rfl, hb9⟩; have hB9 := next_below (by assumption) hb9; rw [HRP.out]) | (go_at_call 30; refine (size_any v ⟨.int .i64 t1, .int .u64 (m1 : Int), .slice P1 i1 i2, .slice P2 i3 i4⟩ _ AnyB (HA8.out.1.low' (Hid.out (by assumption)))).mono ?_; rintro e w10 ⟨rfl, hb10⟩; have hB10 := next_below (by assumption) hb10; rw [HSZ.out]) | (go_at_call 26; refine (bytes_any _ _ _ X1 X2 x2 x2 y1 y2 _ _ (HXX.out.1.after (Hid.out (by assumption))) (HXX.out.2.after (Hid.out (by assumption))) (by omega) (by omega)).mono ?_; rintro e w11 ⟨rfl, kk, rfl⟩; have hB11 := Lib.hid (below_drewN (Hid.out hB10) kk); rw [decide_eq_true rfl]) | (go_at_call 48; refine (same_any _ v u ⟨.int .i64 t1, .int .u64 (m1 : Int), .slice P1 i1 i2, .slice P2 i3 i4⟩ ⟨.int .i64 t3, .int .u64 (m3 : Int), .slice P3 k1 k2, .slice P4 k3 k4⟩ _ AnyB AnyB (Nat.lt_succ_self _) (HA8.out.1.low' (Hid.out (by assumption))) (HA8.out.2.2.1.low' (Hid.out (by assumption)))).mono ?_; rintro e w12 ⟨rfl, hb12⟩; have hB12 := next_below (by assumption) hb12) | (go_at_call 24; refine (rsame_any _ v u ⟨.int .i64 t2, .int .u64 (m2 : Int), .slice Q1 j1 j2, .slice Q2 j3 j4⟩ ⟨.int .i64 t4, .int .u64 (m4 : Int), .slice Q3 l1 l2, .slice Q4 l3 l4⟩ _ AnyB AnyB (Nat.lt_succ_self _) (HA8.out.2.1.low' (Hid.out (by assumption))) (HA8.out.2.2.2.low' (Hid.out (by assumption)))).mono ?_; rintro e w13 ⟨rfl, hb13⟩; have hB13 := next_below (by assumption) hb13) | (go_at_call 19; refine (alive_any _).mono ?_; rintro e w14 ⟨rfl, hb14⟩; have hB14 := next_below (by assumption) hb14))
  go_wp2_with fail
  go_ret
  exact ⟨rfl, HB8.out.trans (hB14.out.mono HB8.out.size)⟩
set_option maxRecDepth 10000 in
theorem tlvForms_any (w : World) (S S' : Nat → Prop) (A B : Option Addr) (n c n' c' : Nat) (l m : List ND) (hx : NR w S A n c l) (hy : NR w S' B n' c' m) :
    Calls Try.prog 9 #[.slice A n c, .slice B n' c'] w fun e w' => e = .returned (.bool true) ∧ Below w.heap.size w w' := by
  have hnot : ∀ (x : Bool) (w : World), (Op.unary .not (.bool x)).run Try.prog w = .ok (.bool (!x)) w := fun _ _ => rfl
  by_cases hl : lightB l = true
  · by_cases hm : lightB m = true
    · exact tlvForms_in w S S' A B n c n' c' l m hx hy hl hm
    · have HX := Lib.hid hx
      have HY := Lib.hid hy.old
      have HL := Lib.hid (And.intro hl (eq_false_of_ne_true hm))
      clear hx hy hl hm
      go_enter Try.func9, Try.ntmps9
      go_wp2_with fail
      refine (light_any w _ A n c l HX.out).mono ?_
      rintro e w1 ⟨rfl, hb1⟩
      rw [HL.out.1]
      have HB1 := Lib.hid hb1
      clear hb1
      go_wp2_with fail
      refine (light_any w1 _ B n' c' m (HY.out.lower HB1.out)).mono ?_
      rintro e w2 ⟨rfl, hb2⟩
      rw [HL.out.2]
      have HB2 := Lib.hid (HB1.out.trans (hb2.mono HB1.out.size))
      clear hb2 HB1
      go_wp2_with fail
      refine (alive_any _).mono ?_
      rintro e w3 ⟨rfl, hb3⟩
      have HB3 := Lib.hid (HB2.out.trans (hb3.mono HB2.out.size))
      clear hb3
      go_wp2_with fail
      go_ret
      exact ⟨rfl, HB3.out⟩
  · have HX := Lib.hid hx
    have HL := Lib.hid (eq_false_of_ne_true hl)
    clear hx hy hl
    go_enter Try.func9, Try.ntmps9
    go_wp2_with fail
    refine (light_any w _ A n c l HX.out).mono ?_
    rintro e w1 ⟨rfl, hb1⟩
    rw [HL.out]
    have HB1 := Lib.hid hb1
    clear hb1
    go_wp2_with fail
    refine (alive_any _).mono ?_
    rintro e w3 ⟨rfl, hb3⟩
    have HB3 := Lib.hid (HB1.out.trans (hb3.mono HB1.out.size))
    clear hb3
    go_wp2_with fail
    go_ret
    exact ⟨rfl, HB3.out⟩
end Go.Proofs.Ytaebmhbggbpnoaa
