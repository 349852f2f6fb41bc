/- The walk of TlvCuts. Conditions: each theorem's premises. -/
import Derived.Test.YtaebmhbggbpnoaaTlv30
namespace Go.Proofs.Ytaebmhbggbpnoaa
open Go.RowKit
theorem putF_zero {v : TV} (h : putF v = 0) : putT 8 v = some (putB v) := by
  unfold putF putB at *
  cases hp : putT 8 v with
  | none => rw [hp] at h; simp at h
  | some x => rfl
theorem putF_not {v : TV} (h : putF v ≠ 0) : putF v = 1 := by
  unfold putF at *
  cases hp : putT 8 v with
  | none => rfl
  | some x => rw [hp] at h; simp at h
/-- A form that is cut off anywhere is none. -/
theorem cut_none {v : TV} {x : List UInt8} (hv : OkT v) (hx : putT 8 v = some x) (k : Nat) (hk : k < x.length) : readT 8 (x.take k) = none := by
  cases h : readT 8 (x.take k) with
  | none => rfl
  | some p =>
    obtain ⟨u, rest⟩ := p
    exfalso
    obtain ⟨hu, y, hy, he⟩ := put_read 8 _ _ _ h
    have hp := putT_some hy
    have hs : x = (headT u.tag y ++ y) ++ (rest ++ x.drop k) := by
      rw [← List.append_assoc, ← he, List.take_append_drop]
    obtain ⟨-, hz⟩ := put_prefix hu hv hp hx hs
    have hl := congrArg List.length hz
    simp at hl
    omega
/-- Two forms that are alike as far as both reach are one. -/
theorem cuts_law {v u : TV} {x y : List UInt8} {k : Nat} (hv : OkT v) (hu : OkT u) (hx : putT 8 v = some x) (hy : putT 8 u = some y) (hk : k = min x.length y.length) : decide (x.take k = y.take k) = sameB v u := by
  by_cases h : v = u
  · subst h
    rw [hx] at hy
    injection hy with hy
    subst hy
    rw [sameB_of rfl]; simp
  · rw [sameB_ne h]
    simp only [decide_eq_false_iff_not]
    intro e
    apply h
    rcases Nat.le_total x.length y.length with hle | hle
    · rw [hk, Nat.min_eq_left hle, List.take_length] at e
      have : y = x ++ y.drop x.length := by
        conv => lhs; rw [← List.take_append_drop x.length y]
        rw [← e]
      exact (put_prefix hv hu hx hy this).1
    · rw [hk, Nat.min_eq_right hle, List.take_length] at e
      have : x = y ++ x.drop y.length := by
        conv => lhs; rw [← List.take_append_drop y.length x]
        rw [e]
      exact (put_prefix hu hv hy hx this).1.symm
theorem hold8 {W w' : World} {b3 b6 : Nat} {t3 t6 : TypeId} {a0 a1 a2 a3 e0 e1 e2 e3 : Value} (h3 : Blk W b3 t3 #[a0, a1, a2, a3]) (h6 : Blk W b6 t6 #[e0, e1, e2, e3]) (hb : Hid (Below W.heap.size W w')) :
    w'.cell? ⟨b3, 0, none⟩ = some a0 ∧ w'.cell? ⟨b3, 1, none⟩ = some a1 ∧ w'.cell? ⟨b3, 2, none⟩ = some a2 ∧ w'.cell? ⟨b3, 3, none⟩ = some a3 ∧
    w'.cell? ⟨b6, 0, none⟩ = some e0 ∧ w'.cell? ⟨b6, 1, none⟩ = some e1 ∧ w'.cell? ⟨b6, 2, none⟩ = some e2 ∧ w'.cell? ⟨b6, 3, none⟩ = some e3 ∧ Hid (Below W.heap.size W w') := by
  obtain ⟨x0, x1, x2, x3, -⟩ := (h3.after hb.out).four
  obtain ⟨y0, y1, y2, y3, -⟩ := (h6.after hb.out).four
  exact ⟨x0, x1, x2, x3, y0, y1, y2, y3, hb⟩
set_option maxRecDepth 100000 in
set_option maxHeartbeats 16000000 in
theorem tlvCuts_in (w : World) (S S' : Nat → Prop) (A B : Option Addr) (n c n' c' : Nat) (l m : List ND) (hx : NR w S A n c l) (hy : NR w S' B n' c' m) (hl : lightB l = true) (hm : lightB m = true) (cut : Int) :
    Calls Try.prog 10 #[.slice A n c, .slice B n' c', .int .i64 cut] w fun e w' => e = .returned (.bool true) ∧ Below w.heap.size w w' := by
  have HX := Lib.hid hx.old
  have HY := Lib.hid hy.old
  have HL := Lib.hid (And.intro hl hm)
  clear hx hy hl hm
  have hnot : ∀ (x : Bool) (w : World), (Op.unary .not (.bool x)).run Try.prog w = .ok (.bool (!x)) w := fun _ _ => rfl
  go_enter Try.func10, Try.ntmps10
  go_wp2_with fail
  refine (light_any w _ A n c l HX.out).mono ?_
  rintro e w1 ⟨rfl, hb1⟩
  rw [HL.out.1]
  have HB1 := Lib.hid hb1
  clear hb1
  go_wp2_with fail
  refine (light_any w1 _ B n' c' m (HY.out.lower HB1.out)).mono ?_
  rintro e w2 ⟨rfl, hb2⟩
  rw [HL.out.2]
  have HB2 := Lib.hid (HB1.out.trans (hb2.mono HB1.out.size))
  clear hb2 HB1
  go_wp2_with fail
  refine (buildL_any w2 _ A n c l (HX.out.lower HB2.out) HL.out.1).mono ?_
  rintro e w3 ⟨t1, m1, P1, i1, i2, P2, i3, i4, t2, m2, Q1, j1, j2, Q2, j3, j4, v, b1, rfl, ha, hb, hv, hb3⟩
  have HA3 := Lib.hid ha
  have HB3 := Lib.hid (HB2.out.trans (hb3.mono HB2.out.size))
  have HOV := Lib.hid hv
  clear ha hb hb3 HB2 hv
  obtain ⟨hX4, hY4, hb4⟩ := two_boxes w3 ⟨.int .i64 t1, .int .u64 (m1 : Int), .slice P1 i1 i2, .slice P2 i3 i4⟩ ⟨.int .i64 t2, .int .u64 (m2 : Int), .slice Q1 j1 j2, .slice Q2 j3 j4⟩ 27 33
  obtain ⟨W4, hW4⟩ : ∃ W4, W4 = (w3.alloc (.cells #[.int .i64 t1, .int .u64 (m1 : Int), .slice P1 i1 i2, .slice P2 i3 i4] 27)).alloc (.cells #[.int .i64 t2, .int .u64 (m2 : Int), .slice Q1 j1 j2, .slice Q2 j3 j4] 33) := ⟨_, rfl⟩
  go_upto_region 4 with (fail)
  rw [← hW4] at hX4 hY4 hb4 ⊢
  clear hW4
  have HB4 := Lib.hid (HB3.out.trans (hb4.mono HB3.out.size))
  have HA4 := Lib.hid (HA3.out.low' hb4)
  have HX4 := Lib.hid hX4
  have hs4 := hX4.lt
  clear hX4 hY4 hb4 HA3 HB3
  go_wp2_with fail
  refine (buildL_any W4 _ B n' c' m (HY.out.lower HB4.out) HL.out.2).mono ?_
  rintro e w5 ⟨t3, m3, P3, k1, k2, P4, k3, k4, t4, m4, Q3, l1, l2, Q4, l3, l4, u, b2, rfl, ha, hb, hu, hb5⟩
  have HB5 := Lib.hid (HB4.out.trans (hb5.mono HB4.out.size))
  have HOU := Lib.hid hu
  obtain ⟨hX6, hY6, hb6⟩ := two_boxes w5 ⟨.int .i64 t3, .int .u64 (m3 : Int), .slice P3 k1 k2, .slice P4 k3 k4⟩ ⟨.int .i64 t4, .int .u64 (m4 : Int), .slice Q3 l1 l2, .slice Q4 l3 l4⟩ 27 33
  obtain ⟨W6, hW6⟩ : ∃ W6, W6 = (w5.alloc (.cells #[.int .i64 t3, .int .u64 (m3 : Int), .slice P3 k1 k2, .slice P4 k3 k4] 27)).alloc (.cells #[.int .i64 t4, .int .u64 (m4 : Int), .slice Q3 l1 l2, .slice Q4 l3 l4] 33) := ⟨_, rfl⟩
  have hs5 := hb5.size
  go_upto_region 5 with (fail)
  rw [← hW6] at hX6 hY6 hb6 ⊢
  clear hW6
  have HB6 := Lib.hid (HB5.out.trans (hb6.mono HB5.out.size))
  have HA6 := Lib.hid ((HA4.out.low' hb5).low' hb6)
  have HC6 := Lib.hid (ha.low' hb6)
  have HX6 := Lib.hid (And.intro ((HX4.out.after hb5).after hb6) hX6)
  clear hX6 hY6 hb6 ha hb hu hb5 HA4 HB4 HX4 HB5
  obtain ⟨a0, a1, a2, a3, -, -, -, -, hz1⟩ := HX6.out.1.four
  obtain ⟨b0, b1', b2', b3, -, -, -, -, hz2⟩ := HX6.out.2.four
  go_wp2_with fail
  refine (put_one v ⟨.int .i64 t1, .int .u64 (m1 : Int), .slice P1 i1 i2, .slice P2 i3 i4⟩ W6 _ HA6.out).mono ?_
  rintro e w7 ⟨X1, x1, y1, rfl, hx7, hl7, hb7⟩
  have HX7 := Lib.hid hx7
  have HB7 := Lib.hid hb7
  have c0 := (hb7.cell (p := ⟨w5.heap.size, 0, none⟩) hz2).trans b0
  have c1 := (hb7.cell (p := ⟨w5.heap.size, 1, none⟩) hz2).trans b1'
  have c2 := (hb7.cell (p := ⟨w5.heap.size, 2, none⟩) hz2).trans b2'
  have c3 := (hb7.cell (p := ⟨w5.heap.size, 3, none⟩) hz2).trans b3
  clear hx7 hb7 a0 a1 a2 a3 b0 b1' b2' b3
  go_wp2_with fail
  refine (put_one u ⟨.int .i64 t3, .int .u64 (m3 : Int), .slice P3 k1 k2, .slice P4 k3 k4⟩ w7 _ (HC6.out.low' HB7.out)).mono ?_
  rintro e w8 ⟨X2, x2, y2, rfl, hx8, hl8, hb8⟩
  have hb68 := HB7.out.trans (hb8.mono HB7.out.size)
  have HB8 := Lib.hid (HB6.out.trans (hb68.mono HB6.out.size))
  have HXX := Lib.hid (And.intro (HX7.out.after hb8).any hx8.any)
  have HA8 := Lib.hid (And.intro (HA6.out.low' hb68) (HC6.out.low' hb68))
  have HX8 := Lib.hid (And.intro (HX6.out.1.after hb68) (HX6.out.2.after hb68))
  clear hx8 hb8 hb68 HX7 HB7 HB6 HA6 HC6 HX6 c0 c1 c2 c3 hz1 hz2
  by_cases f1 : putF v = 0
  · by_cases f2 : putF u = 0
    · have HP := Lib.hid (And.intro (putF_zero f1) (putF_zero f2))
      rw [f1, f2]
      clear f1 f2
      by_cases hc : 0 ≤ cut ∧ cut < (x1 : Int)
      · obtain ⟨hc1, hc2⟩ := hc
        obtain ⟨k, rfl⟩ := Int.eq_ofNat_of_zero_le hc1
        obtain ⟨U0, u0, s0, r0⟩ := HXX.out.1.upto (k : Int) k rfl (by omega)
        have HN := Lib.hid (take_none w8 _ U0 k u0 _ r0 (by omega) (cut_none HOV.out HP.out.1 k (by rw [HXX.out.1.len]; omega)))
        clear r0
        go_wp2_with fail
        refine (HN.out).mono ?_
        rintro e w9 ⟨rfl, hb9⟩
        obtain ⟨W9, hW9⟩ : ∃ W9, W9 = w9.alloc (.cells #[.int .i64 0, .int .u64 0, .slice none 0 0, .slice none 0 0] 27) := ⟨_, rfl⟩
        have hb89 : Below w8.heap.size w8 W9 := by rw [hW9]; exact hb9.alloc hb9.size _
        have HB := Lib.hid (HB8.out.trans (hb89.mono HB8.out.size))
        have HXW := Lib.hid (And.intro (HXX.out.1.after hb89) (HXX.out.2.after hb89))
        have HAW := Lib.hid (And.intro (HA8.out.1.low' hb89) (HA8.out.2.low' hb89))
        have HBW := Lib.hid (And.intro (HX8.out.1.after hb89) (HX8.out.2.after hb89))
        go_upto_region 13 with (fail)
        rw [← hW9]
        clear hW9 hb9 hb89 s0 HN HB8 HXX HA8 HX8
        obtain ⟨kk, hkk⟩ : ∃ kk : Nat, kk = min x1 x2 := ⟨_, rfl⟩
        have hk1 : kk ≤ x1 := by omega
        have hk2 : kk ≤ x2 := by omega
        have hmin : min (x1 : Int) (x2 : Int) = (kk : Int) := by omega
        obtain ⟨U1, u1, s1, r1⟩ := HXW.out.1.upto ((kk : Nat) : Int) kk rfl (by omega)
        obtain ⟨U2, u2, s2, r2⟩ := HXW.out.2.upto ((kk : Nat) : Int) kk rfl (by omega)
        have HR := Lib.hid (And.intro r1 r2)
        have HE : Hid (decide ((putB v).take kk = (putB u).take kk) = sameB v u) := Lib.hid (cuts_law HOV.out HOU.out HP.out.1 HP.out.2 (by rw [HXW.out.1.len, HXW.out.2.len]; omega))
        obtain ⟨a0, a1, a2, a3, -, -, -, -, hz1⟩ := HBW.out.1.four
        obtain ⟨b0, b1', b2', b3, -, -, -, -, hz2⟩ := HBW.out.2.four
        clear r1 r2 hkk
        have hB0 : Hid (Below W9.heap.size W9 W9.drew) := Lib.hid (Below.refl _ _).drew
        go_wp2_with fail
        go_region_held3 (fun w' => w'.cell? ⟨w3.heap.size, 0, none⟩ = some (.int .i64 t1) ∧ w'.cell? ⟨w3.heap.size, 1, none⟩ = some (.int .u64 (m1 : Int)) ∧ w'.cell? ⟨w3.heap.size, 2, none⟩ = some (.slice P1 i1 i2) ∧ w'.cell? ⟨w3.heap.size, 3, none⟩ = some (.slice P2 i3 i4) ∧ w'.cell? ⟨w5.heap.size, 0, none⟩ = some (.int .i64 t3) ∧ w'.cell? ⟨w5.heap.size, 1, none⟩ = some (.int .u64 (m3 : Int)) ∧ w'.cell? ⟨w5.heap.size, 2, none⟩ = some (.slice P3 k1 k2) ∧ w'.cell? ⟨w5.heap.size, 3, none⟩ = some (.slice P4 k3 k4) ∧ Hid (Below W9.heap.size W9 w')) (exact hold8 HBW.out.1 HBW.out.2 (by assumption)) (first | (go_at_call 48; refine (same_any _ v u ⟨.int .i64 t1, .int .u64 (m1 : Int), .slice P1 i1 i2, .slice P2 i3 i4⟩ ⟨.int .i64 t3, .int .u64 (m3 : Int), .slice P3 k1 k2, .slice P4 k3 k4⟩ _ AnyB AnyB (Nat.lt_succ_self _) (HAW.out.1.low' (Hid.out (by assumption))) (HAW.out.2.low' (Hid.out (by assumption)))).mono ?_; rintro e w12 ⟨rfl, hb12⟩; have hB12 := next_below (by assumption) hb12) | (go_at_call 26; refine (bytes_any _ _ _ U1 U2 kk kk u1 u2 _ _ (HR.out.1.after (Hid.out (by assumption))) (HR.out.2.after (Hid.out (by assumption))) (by omega) (by omega)).mono ?_; rintro e w13 ⟨rfl, dd, rfl⟩; have hB13 := Lib.hid (below_drewN (Hid.out hB12) dd); rw [HE.out]) | (go_at_call 19; refine (alive_any _).mono ?_; rintro e w14 ⟨rfl, hb14⟩; have hB14 := next_below (by assumption) hb14))
        go_wp2_with fail
        go_ret
        exact ⟨rfl, HB.out.trans (hB14.out.mono HB.out.size)⟩
      · have HB := HB8
        have HXW := HXX
        have HAW := HA8
        have HBW := HX8
        clear HB8 HXX HA8 HX8
        by_cases hc0 : 0 ≤ cut
        · have hc1 : ¬ cut < (x1 : Int) := by omega
          clear hc
          obtain ⟨kk, hkk⟩ : ∃ kk : Nat, kk = min x1 x2 := ⟨_, rfl⟩
          have hk1 : kk ≤ x1 := by omega
          have hk2 : kk ≤ x2 := by omega
          have hmin : min (x1 : Int) (x2 : Int) = (kk : Int) := by omega
          obtain ⟨U1, u1, s1, r1⟩ := HXW.out.1.upto ((kk : Nat) : Int) kk rfl (by omega)
          obtain ⟨U2, u2, s2, r2⟩ := HXW.out.2.upto ((kk : Nat) : Int) kk rfl (by omega)
          have HR := Lib.hid (And.intro r1 r2)
          have HE : Hid (decide ((putB v).take kk = (putB u).take kk) = sameB v u) := Lib.hid (cuts_law HOV.out HOU.out HP.out.1 HP.out.2 (by rw [HXW.out.1.len, HXW.out.2.len]; omega))
          obtain ⟨a0, a1, a2, a3, -, -, -, -, hz1⟩ := HBW.out.1.four
          obtain ⟨b0, b1', b2', b3, -, -, -, -, hz2⟩ := HBW.out.2.four
          clear r1 r2 hkk
          have hB0 : Hid (Below w8.heap.size w8 w8.drew) := Lib.hid (Below.refl _ _).drew
          go_wp2_with fail
          go_region_held3 (fun w' => w'.cell? ⟨w3.heap.size, 0, none⟩ = some (.int .i64 t1) ∧ w'.cell? ⟨w3.heap.size, 1, none⟩ = some (.int .u64 (m1 : Int)) ∧ w'.cell? ⟨w3.heap.size, 2, none⟩ = some (.slice P1 i1 i2) ∧ w'.cell? ⟨w3.heap.size, 3, none⟩ = some (.slice P2 i3 i4) ∧ w'.cell? ⟨w5.heap.size, 0, none⟩ = some (.int .i64 t3) ∧ w'.cell? ⟨w5.heap.size, 1, none⟩ = some (.int .u64 (m3 : Int)) ∧ w'.cell? ⟨w5.heap.size, 2, none⟩ = some (.slice P3 k1 k2) ∧ w'.cell? ⟨w5.heap.size, 3, none⟩ = some (.slice P4 k3 k4) ∧ Hid (Below w8.heap.size w8 w')) (exact hold8 HBW.out.1 HBW.out.2 (by assumption)) (first | (go_at_call 48; refine (same_any _ v u ⟨.int .i64 t1, .int .u64 (m1 : Int), .slice P1 i1 i2, .slice P2 i3 i4⟩ ⟨.int .i64 t3, .int .u64 (m3 : Int), .slice P3 k1 k2, .slice P4 k3 k4⟩ _ AnyB AnyB (Nat.lt_succ_self _) (HAW.out.1.low' (Hid.out (by assumption))) (HAW.out.2.low' (Hid.out (by assumption)))).mono ?_; rintro e w12 ⟨rfl, hb12⟩; have hB12 := next_below (by assumption) hb12) | (go_at_call 26; refine (bytes_any _ _ _ U1 U2 kk kk u1 u2 _ _ (HR.out.1.after (Hid.out (by assumption))) (HR.out.2.after (Hid.out (by assumption))) (by omega) (by omega)).mono ?_; rintro e w13 ⟨rfl, dd, rfl⟩; have hB13 := Lib.hid (below_drewN (Hid.out hB12) dd); rw [HE.out]) | (go_at_call 19; refine (alive_any _).mono ?_; rintro e w14 ⟨rfl, hb14⟩; have hB14 := next_below (by assumption) hb14))
          go_wp2_with fail
          go_ret
          exact ⟨rfl, HB.out.trans (hB14.out.mono HB.out.size)⟩
        · clear hc
          obtain ⟨kk, hkk⟩ : ∃ kk : Nat, kk = min x1 x2 := ⟨_, rfl⟩
          have hk1 : kk ≤ x1 := by omega
          have hk2 : kk ≤ x2 := by omega
          have hmin : min (x1 : Int) (x2 : Int) = (kk : Int) := by omega
          obtain ⟨U1, u1, s1, r1⟩ := HXW.out.1.upto ((kk : Nat) : Int) kk rfl (by omega)
          obtain ⟨U2, u2, s2, r2⟩ := HXW.out.2.upto ((kk : Nat) : Int) kk rfl (by omega)
          have HR := Lib.hid (And.intro r1 r2)
          have HE : Hid (decide ((putB v).take kk = (putB u).take kk) = sameB v u) := Lib.hid (cuts_law HOV.out HOU.out HP.out.1 HP.out.2 (by rw [HXW.out.1.len, HXW.out.2.len]; omega))
          obtain ⟨a0, a1, a2, a3, -, -, -, -, hz1⟩ := HBW.out.1.four
          obtain ⟨b0, b1', b2', b3, -, -, -, -, hz2⟩ := HBW.out.2.four
          clear r1 r2 hkk
          have hB0 : Hid (Below w8.heap.size w8 w8.drew) := Lib.hid (Below.refl _ _).drew
          go_wp2_with fail
          go_region_held3 (fun w' => w'.cell? ⟨w3.heap.size, 0, none⟩ = some (.int .i64 t1) ∧ w'.cell? ⟨w3.heap.size, 1, none⟩ = some (.int .u64 (m1 : Int)) ∧ w'.cell? ⟨w3.heap.size, 2, none⟩ = some (.slice P1 i1 i2) ∧ w'.cell? ⟨w3.heap.size, 3, none⟩ = some (.slice P2 i3 i4) ∧ w'.cell? ⟨w5.heap.size, 0, none⟩ = some (.int .i64 t3) ∧ w'.cell? ⟨w5.heap.size, 1, none⟩ = some (.int .u64 (m3 : Int)) ∧ w'.cell? ⟨w5.heap.size, 2, none⟩ = some (.slice P3 k1 k2) ∧ w'.cell? ⟨w5.heap.size, 3, none⟩ = some (.slice P4 k3 k4) ∧ Hid (Below w8.heap.size w8 w')) (exact hold8 HBW.out.1 HBW.out.2 (by assumption)) (first | (go_at_call 48; refine (same_any _ v u ⟨.int .i64 t1, .int .u64 (m1 : Int), .slice P1 i1 i2, .slice P2 i3 i4⟩ ⟨.int .i64 t3, .int .u64 (m3 : Int), .slice P3 k1 k2, .slice P4 k3 k4⟩ _ AnyB AnyB (Nat.lt_succ_self _) (HAW.out.1.low' (Hid.out (by assumption))) (HAW.out.2.low' (Hid.out (by assumption)))).mono ?_; rintro e w12 ⟨rfl, hb12⟩; have hB12 := next_below (by assumption) hb12) | (go_at_call 26; refine (bytes_any _ _ _ U1 U2 kk kk u1 u2 _ _ (HR.out.1.after (Hid.out (by assumption))) (HR.out.2.after (Hid.out (by assumption))) (by omega) (by omega)).mono ?_; rintro e w13 ⟨rfl, dd, rfl⟩; have hB13 := Lib.hid (below_drewN (Hid.out hB12) dd); rw [HE.out]) | (go_at_call 19; refine (alive_any _).mono ?_; rintro e w14 ⟨rfl, hb14⟩; have hB14 := next_below (by assumption) hb14))
          go_wp2_with fail
          go_ret
          exact ⟨rfl, HB.out.trans (hB14.out.mono HB.out.size)⟩
    · rw [f1, putF_not f2]
      clear f1 f2
      go_wp2_with fail
      refine (alive_any _).mono ?_
      rintro e w9 ⟨rfl, hb9⟩
      have HF := Lib.hid (HB8.out.trans (hb9.mono HB8.out.size))
      clear hb9
      go_wp2_with fail
      go_ret
      exact ⟨rfl, HF.out⟩
  · rw [putF_not f1]
    clear f1
    go_wp2_with fail
    refine (alive_any _).mono ?_
    rintro e w9 ⟨rfl, hb9⟩
    have HF := Lib.hid (HB8.out.trans (hb9.mono HB8.out.size))
    clear hb9
    go_wp2_with fail
    go_ret
    exact ⟨rfl, HF.out⟩
set_option maxRecDepth 10000 in
theorem tlvCuts_any (w : World) (S S' : Nat → Prop) (A B : Option Addr) (n c n' c' : Nat) (l m : List ND) (hx : NR w S A n c l) (hy : NR w S' B n' c' m) (cut : Int) :
    Calls Try.prog 10 #[.slice A n c, .slice B n' c', .int .i64 cut] w fun e w' => e = .returned (.bool true) ∧ Below w.heap.size w w' := by
  have hnot : ∀ (x : Bool) (w : World), (Op.unary .not (.bool x)).run Try.prog w = .ok (.bool (!x)) w := fun _ _ => rfl
  by_cases hl : lightB l = true
  · by_cases hm : lightB m = true
    · exact tlvCuts_in w S S' A B n c n' c' l m hx hy hl hm cut
    · have HX := Lib.hid hx
      have HY := Lib.hid hy.old
      have HL := Lib.hid (And.intro hl (eq_false_of_ne_true hm))
      clear hx hy hl hm
      go_enter Try.func10, Try.ntmps10
      go_wp2_with fail
      refine (light_any w _ A n c l HX.out).mono ?_
      rintro e w1 ⟨rfl, hb1⟩
      rw [HL.out.1]
      have HB1 := Lib.hid hb1
      clear hb1
      go_wp2_with fail
      refine (light_any w1 _ B n' c' m (HY.out.lower HB1.out)).mono ?_
      rintro e w2 ⟨rfl, hb2⟩
      rw [HL.out.2]
      have HB2 := Lib.hid (HB1.out.trans (hb2.mono HB1.out.size))
      clear hb2 HB1
      go_wp2_with fail
      refine (alive_any _).mono ?_
      rintro e w3 ⟨rfl, hb3⟩
      have HB3 := Lib.hid (HB2.out.trans (hb3.mono HB2.out.size))
      clear hb3
      go_wp2_with fail
      go_ret
      exact ⟨rfl, HB3.out⟩
  · have HX := Lib.hid hx
    have HL := Lib.hid (eq_false_of_ne_true hl)
    clear hx hy hl
    go_enter Try.func10, Try.ntmps10
    go_wp2_with fail
    refine (light_any w _ A n c l HX.out).mono ?_
    rintro e w1 ⟨rfl, hb1⟩
    rw [HL.out]
    have HB1 := Lib.hid hb1
    clear hb1
    go_wp2_with fail
    refine (alive_any _).mono ?_
    rintro e w3 ⟨rfl, hb3⟩
    have HB3 := Lib.hid (HB1.out.trans (hb3.mono HB1.out.size))
    clear hb3
    go_wp2_with fail
    go_ret
    exact ⟨rfl, HB3.out⟩
end Go.Proofs.Ytaebmhbggbpnoaa
