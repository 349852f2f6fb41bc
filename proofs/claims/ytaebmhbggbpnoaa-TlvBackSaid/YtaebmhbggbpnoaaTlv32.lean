/- The walk of TlvBack. Conditions: each theorem's premises. -/
import Derived.Test.YtaebmhbggbpnoaaTlv31
namespace Go.Proofs.Ytaebmhbggbpnoaa
open Go.RowKit
theorem read_own {v : TV} (h : putF v = 0) (hv : OkT v) (rest : List UInt8) : readT 8 (putB v ++ rest) = some (v, rest) := by
  have hp := putF_zero h
  unfold putT at hp
  rw [Option.map_eq_some_iff] at hp
  obtain ⟨x, hx, e⟩ := hp
  rw [← e]
  exact read_put 8 v x rest hv hx
theorem put_got {b : List UInt8} {v : TV} (h : readT 8 b = some (v, [])) : putF v = 0 ∧ putB v = b := by
  obtain ⟨-, x, hx, e⟩ := put_read 8 _ _ _ h
  have hp := putT_some hx
  unfold putF putB
  rw [hp]
  simp [e]
theorem vr_zero (w : World) : VR w AnyB ⟨.int .i64 0, .int .u64 ((0 : Nat) : Int), .slice none 0 0, .slice none 0 0⟩ (.mk 0 0 [] []) := VR.shut (by simp [u64ok]) (Bs.nil _ _ _) (by omega) (LR.nil _ _ _)
theorem box_one (w : World) (q : Quad) (t : TypeId) : Blk (w.alloc (.cells #[q.a, q.b, q.c, q.d] t)) w.heap.size t #[q.a, q.b, q.c, q.d] ∧ Below w.heap.size w (w.alloc (.cells #[q.a, q.b, q.c, q.d] t)) := ⟨Blk.new w t _, (Below.refl _ _).alloc (Nat.le_refl _) _⟩
set_option maxRecDepth 100000 in
set_option maxHeartbeats 16000000 in
theorem tlvBack_in (w : World) (S S' S2 : Nat → Prop) (A B C : Option Addr) (n c n' c' n3 c3 : Nat) (l : List ND) (rs bs : List UInt8) (hx : NR w S A n c l) (hy : Bs w S' B n' c' rs) (hz : Bs w S2 C n3 c3 bs) (hl : lightB l = true) (hn' : n' ≤ 300) (hn3 : n3 ≤ 3000) :
    Calls Try.prog 11 #[.slice A n c, .slice B n' c', .slice C n3 c3] w fun e w' => e = .returned (.bool true) ∧ Below w.heap.size w w' := by
  have HX := Lib.hid hx.old
  have HY := Lib.hid hy.old
  have HZ := Lib.hid hz.old
  have HL := Lib.hid hl
  clear hx hy hl hz
  have l1 : ¬ (300 : Int) < (n' : Int) := by omega
  have l2 : ¬ (3000 : Int) < (n3 : Int) := by omega
  have hnot : ∀ (x : Bool) (w : World), (Op.unary .not (.bool x)).run Try.prog w = .ok (.bool (!x)) w := fun _ _ => rfl
  go_enter Try.func11, Try.ntmps11
  go_wp2_with fail
  refine (light_any w _ A n c l HX.out).mono ?_
  rintro e w2 ⟨rfl, hb1⟩
  rw [HL.out]
  have HB2 := Lib.hid hb1
  clear hb1
  go_wp2_with fail
  refine (buildL_any w2 _ A n c l (HX.out.lower HB2.out) HL.out).mono ?_
  rintro e w3 ⟨t1, m1, P1, i1, i2, P2, i3, i4, t2, m2, Q1, j1, j2, Q2, j3, j4, v, b1, rfl, ha, hb, hv, hb3⟩
  have HA3 := Lib.hid ha
  have HB3 := Lib.hid (HB2.out.trans (hb3.mono HB2.out.size))
  have HOV := Lib.hid hv
  clear ha hb hb3 HB2 hv
  obtain ⟨hX4, hY4, hb4⟩ := two_boxes w3 ⟨.int .i64 t1, .int .u64 (m1 : Int), .slice P1 i1 i2, .slice P2 i3 i4⟩ ⟨.int .i64 t2, .int .u64 (m2 : Int), .slice Q1 j1 j2, .slice Q2 j3 j4⟩ 27 33
  obtain ⟨W4, hW4⟩ : ∃ W4, W4 = (w3.alloc (.cells #[.int .i64 t1, .int .u64 (m1 : Int), .slice P1 i1 i2, .slice P2 i3 i4] 27)).alloc (.cells #[.int .i64 t2, .int .u64 (m2 : Int), .slice Q1 j1 j2, .slice Q2 j3 j4] 33) := ⟨_, rfl⟩
  go_upto_region 4 with (fail)
  rw [← hW4] at hX4 hY4 hb4 ⊢
  clear hW4
  have HB4 := Lib.hid (HB3.out.trans (hb4.mono HB3.out.size))
  have HA4 := Lib.hid (HA3.out.low' hb4)
  have HX4 := Lib.hid hX4
  clear hX4 hY4 hb4 HA3 HB3
  obtain ⟨a0, a1, a2, a3, -, -, -, -, hz1⟩ := HX4.out.four
  go_wp2_with fail
  refine (put_one v ⟨.int .i64 t1, .int .u64 (m1 : Int), .slice P1 i1 i2, .slice P2 i3 i4⟩ W4 _ HA4.out).mono ?_
  rintro e w5 ⟨X1, x1, y1, rfl, hx5, hl5, hb5⟩
  have HX5 := Lib.hid hx5.any
  have HB5 := Lib.hid (HB4.out.trans (hb5.mono HB4.out.size))
  have HA5 := Lib.hid (HA4.out.low' hb5)
  have HBX5 := Lib.hid (HX4.out.after hb5)
  have HSZ : Hid (sizeT v = x1) := Lib.hid (by rw [size_put, hx5.len])
  clear hx5 hb5 a0 a1 a2 a3 hz1 HB4 HA4 HX4
  by_cases f1 : putF v = 0
  · have HR := Lib.hid (read_own f1 HOV.out rs)
    rw [f1]
    clear f1
    have tok1 : True := trivial
    go_wp2_with (at_builtin; (first | (have _t := tok1; refine wpList_append_u8 rfl (.tmp 47) (.tmp 48) rfl (base := w5.heap.size) (v := .slice (some ⟨w5.heap.size, 0, none⟩) 0 0) (n := 0) (xs := []) rfl (World.ownsRow_made w5 #[] 0 (Nat.le_refl _) (by simp [maxLen]) rfl : World.ownsRow _ _ _ _ _ _ (u8s [])) (m := x1) (c := y1) (ys := putB v) rfl (HX5.out.after ((Below.refl _ _).alloc (Nat.le_refl _) _)) (by omega) (by simp) ?_; intro v1 w6 hown1 hg1 hat1; clear tok1; simp only [Nat.zero_add, List.nil_append] at hown1; obtain ⟨A1, c1, rfl, _⟩ := own_shape hown1; have HO := Lib.hid (And.intro hown1 (((Below.refl w5.heap.size w5).alloc (Nat.le_refl _) _).grown hg1 (by simp) (by simp [Value.ownBlock]))); clear hown1 hg1 hat1) | go_loud (refine wpList_append_u8 rfl (.tmp 49) (.tmp 50) rfl (base := w5.heap.size) (v := .slice A1 x1 c1) (n := x1) (xs := putB v) rfl HO.out.1 (m := n') (c := c') (ys := rs) rfl ((HY.out.below HB5.out).after HO.out.2) (by omega) HO.out.2.size ?_; intro v3 w7 hown3 hg3 hat3; have HQ := Lib.hid (And.intro hown3 (Below.grown HO.out.2 hg3 HO.out.2.size (own_base HO.out.1))); clear hown3 hg3 hat3)))
    obtain ⟨A3, c4, rfl, hbs3⟩ := own_bs HQ.out.1
    have HT := Lib.hid (take_some w7 _ A3 (x1 + n') c4 _ rs v hbs3 (by omega) HR.out)
    have HB7 := Lib.hid (HB5.out.trans (HQ.out.2.mono HB5.out.size))
    have HA7 := Lib.hid (HA5.out.low' HQ.out.2)
    have HBX7 := Lib.hid (HBX5.out.after HQ.out.2)
    clear hbs3 HQ HO HB5 HA5 HBX5
    refine (HT.out).mono ?_
    rintro e w8 ⟨q, A8, n8, c8, rfl, hv8, hown8, hn8, hb8⟩
    obtain ⟨t5, m5, xx, yy, R1, R2, o1, o2, o3, o4, rfl, -⟩ := hv8.opens
    dsimp only [Quad.agg]
    obtain ⟨_, _, e8, hB8⟩ := own_bs hown8
    cases e8
    obtain ⟨hX9, hb9⟩ := box_one w8 ⟨.int .i64 t5, .int .u64 (m5 : Int), .slice R1 o1 o2, .slice R2 o3 o4⟩ 27
    obtain ⟨W9, hW9⟩ : ∃ W9, W9 = w8.alloc (.cells #[.int .i64 t5, .int .u64 (m5 : Int), .slice R1 o1 o2, .slice R2 o3 o4] 27) := ⟨_, rfl⟩
    go_upto_region 7 with (fail)
    rw [← hW9] at hX9 hb9 ⊢
    clear hW9
    have hb79 := hb8.trans (hb9.mono hb8.size)
    have HB9 := Lib.hid (HB7.out.trans (hb79.mono HB7.out.size))
    have HV9 := Lib.hid (And.intro (hv8.low' hb9) (HA7.out.low' hb79))
    have HX9 := Lib.hid (And.intro hX9 (HBX7.out.after hb79))
    have HR9 := Lib.hid (hB8.after hb9)
    clear hX9 hb9 hb79 hv8 hown8 hB8 hb8 HB7 HA7 HBX7 HT
    obtain ⟨a0, a1, a2, a3, -, -, -, -, hz1⟩ := HX9.out.1.four
    obtain ⟨b0, b1', b2', b3, -, -, -, -, hz2⟩ := HX9.out.2.four
    go_wp2_with fail
    refine (same_any _ v v ⟨.int .i64 t5, .int .u64 (m5 : Int), .slice R1 o1 o2, .slice R2 o3 o4⟩ ⟨.int .i64 t1, .int .u64 (m1 : Int), .slice P1 i1 i2, .slice P2 i3 i4⟩ W9 AnyB AnyB (Nat.lt_succ_self _) HV9.out.1 HV9.out.2).mono ?_
    rintro e w10 ⟨rfl, hb10⟩
    rw [sameB_of rfl]
    have HB10 := Lib.hid (HB9.out.trans (hb10.mono HB9.out.size))
    have HA10 := Lib.hid (HV9.out.2.low' hb10)
    have HX10 := Lib.hid (HX9.out.2.after hb10)
    have HR10 := Lib.hid (HR9.out.after hb10)
    clear hb10 a0 a1 a2 a3 b0 b1' b2' b3 HB9 HV9 HX9 HR9 hz1 hz2
    go_wp2_with fail
    refine (bytes_any w10 _ _ A8 B n8 n' c8 c' _ _ HR10.out (HY.out.below HB10.out) (by omega) (by omega)).mono ?_
    rintro e w11 ⟨rfl, dd, rfl⟩
    rw [decide_eq_true rfl]
    obtain ⟨w11, hw11⟩ : ∃ w11, w11 = w10.drewN dd := ⟨_, rfl⟩
    have hb11 : Below w10.heap.size w10 w11 := by rw [hw11]; exact below_drewN (Below.refl _ _) dd
    rw [← hw11]
    clear hw11
    have HA11 := Lib.hid (HA10.out.low' hb11)
    obtain ⟨b0, b1', b2', b3, -, -, -, -, hz2⟩ := (HX10.out.after hb11).four
    have HB11 := Lib.hid (HB10.out.trans (hb11.mono HB10.out.size))
    clear hb11 HA10 HX10 HR10 HB10
    go_wp2_with fail
    refine (size_any v ⟨.int .i64 t1, .int .u64 (m1 : Int), .slice P1 i1 i2, .slice P2 i3 i4⟩ w11 _ HA11.out).mono ?_
    rintro e w12 ⟨rfl, hb12⟩
    rw [HSZ.out]
    have HB := Lib.hid (HB11.out.trans (hb12.mono HB11.out.size))
    clear hb12 HB11 HA11 b0 b1' b2' b3 hz2
    cases hrd : readT 8 bs with
    | none =>
      have HG := Lib.hid (get_none w12 _ C n3 c3 bs (HZ.out.below HB.out) (by omega) hrd)
      clear hrd
      go_wp2_with fail
      refine (HG.out).mono ?_
      rintro e w6 ⟨rfl, hb6⟩
      obtain ⟨hX7, hb7⟩ := box_one w6 ⟨.int .i64 0, .int .u64 ((0 : Nat) : Int), .slice none 0 0, .slice none 0 0⟩ 27
      have HB7 := Lib.hid ((HB.out.trans (hb6.mono HB.out.size)).trans (hb7.mono (Nat.le_trans HB.out.size hb6.size)))
      obtain ⟨W7, hW7⟩ : ∃ W7, W7 = w6.alloc (.cells #[.int .i64 0, .int .u64 ((0 : Nat) : Int), .slice none 0 0, .slice none 0 0] 27) := ⟨_, rfl⟩
      go_upto_region 10 with (fail)
      first | rw [← hW7] at hX7 HB7 ⊢ | (have hW7' : W7 = w6.alloc (.cells #[.int .i64 0, .int .u64 0, .slice none 0 0, .slice none 0 0] 27) := hW7; rw [← hW7'] ; rw [← hW7] at hX7 HB7)
      clear hb6 hb7
      obtain ⟨a0, a1, a2, a3, -, -, -, -, hz1⟩ := hX7.four
      clear hX7
      try clear hW7'
      clear hW7
      have HS := Lib.hid (same_any _ (.mk 0 0 [] []) (.mk 0 0 [] []) ⟨.int .i64 0, .int .u64 ((0 : Nat) : Int), .slice none 0 0, .slice none 0 0⟩ ⟨.int .i64 0, .int .u64 ((0 : Nat) : Int), .slice none 0 0, .slice none 0 0⟩ W7 AnyB AnyB (Nat.lt_succ_self _) (vr_zero W7) (vr_zero W7))
      have a1z : W7.cell? ⟨w6.heap.size, 1, none⟩ = some (.int .u64 0) := a1
      clear a1
      go_wp2_with fail
      refine (HS.out).mono ?_
      rintro e w8 ⟨rfl, hb8⟩
      rw [sameB_of rfl]
      have HB8 := Lib.hid (HB7.out.trans (hb8.mono HB7.out.size))
      clear hb8
      go_wp2_with fail
      refine (alive_any _).mono ?_
      rintro e w9 ⟨rfl, hb9⟩
      have HF := Lib.hid (HB8.out.trans (hb9.mono HB8.out.size))
      clear hb9
      go_wp2_with fail
      go_ret
      exact ⟨rfl, HF.out⟩
    | some p =>
      obtain ⟨u, rr⟩ := p
      by_cases hrr : rr = []
      · subst hrr
        have HG := Lib.hid (get_some w12 _ C n3 c3 bs u (HZ.out.below HB.out) (by omega) hrd)
        have HPG := Lib.hid (put_got hrd)
        clear hrd
        go_wp2_with fail
        refine (HG.out).mono ?_
        rintro e w6 ⟨q, rfl, hv6, hb6⟩
        obtain ⟨t5, m5, xx, yy, R1, R2, o1, o2, o3, o4, rfl, -⟩ := hv6.opens
        dsimp only [Quad.agg]
        obtain ⟨hX7, hb7⟩ := box_one w6 ⟨.int .i64 t5, .int .u64 (m5 : Int), .slice R1 o1 o2, .slice R2 o3 o4⟩ 27
        have HB7 := Lib.hid ((HB.out.trans (hb6.mono HB.out.size)).trans (hb7.mono (Nat.le_trans HB.out.size hb6.size)))
        have HV7 := Lib.hid (hv6.low' hb7)
        obtain ⟨W7, hW7⟩ : ∃ W7, W7 = w6.alloc (.cells #[.int .i64 t5, .int .u64 (m5 : Int), .slice R1 o1 o2, .slice R2 o3 o4] 27) := ⟨_, rfl⟩
        go_upto_region 10 with (fail)
        rw [← hW7] at hX7 HB7 HV7 ⊢
        clear hb6 hb7 hv6 hW7
        obtain ⟨a0, a1, a2, a3, -, -, -, -, hz1⟩ := hX7.four
        clear hX7
        go_wp2_with fail
        refine (put_one u ⟨.int .i64 t5, .int .u64 (m5 : Int), .slice R1 o1 o2, .slice R2 o3 o4⟩ W7 _ HV7.out).mono ?_
        rintro e w8 ⟨X8, x8, y8, rfl, hx8, hl8, hb8⟩
        rw [HPG.out.2] at hx8
        rw [HPG.out.1]
        have HX8 := Lib.hid hx8
        have HB8 := Lib.hid (HB7.out.trans (hb8.mono HB7.out.size))
        clear hx8 hb8
        go_wp2_with fail
        refine (bytes_any w8 _ _ X8 C x8 n3 y8 c3 _ _ HX8.out (HZ.out.below HB8.out) (by omega) (by omega)).mono ?_
        rintro e w9 ⟨rfl, dd, rfl⟩
        rw [decide_eq_true rfl]
        have HB9 := Lib.hid (below_drewN HB8.out dd)
        go_wp2_with fail
        refine (alive_any _).mono ?_
        rintro e w10 ⟨rfl, hb10⟩
        have HF := Lib.hid (HB9.out.trans (hb10.mono HB9.out.size))
        clear hb10
        go_wp2_with fail
        go_ret
        exact ⟨rfl, HF.out⟩
      · have HG := Lib.hid (get_rest w12 _ C n3 c3 bs rr u (HZ.out.below HB.out) (by omega) hrd hrr)
        clear hrd hrr
        go_wp2_with fail
        refine (HG.out).mono ?_
        rintro e w6 ⟨rfl, hb6⟩
        obtain ⟨hX7, hb7⟩ := box_one w6 ⟨.int .i64 0, .int .u64 ((0 : Nat) : Int), .slice none 0 0, .slice none 0 0⟩ 27
        have HB7 := Lib.hid ((HB.out.trans (hb6.mono HB.out.size)).trans (hb7.mono (Nat.le_trans HB.out.size hb6.size)))
        obtain ⟨W7, hW7⟩ : ∃ W7, W7 = w6.alloc (.cells #[.int .i64 0, .int .u64 ((0 : Nat) : Int), .slice none 0 0, .slice none 0 0] 27) := ⟨_, rfl⟩
        go_upto_region 10 with (fail)
        first | rw [← hW7] at hX7 HB7 ⊢ | (have hW7' : W7 = w6.alloc (.cells #[.int .i64 0, .int .u64 0, .slice none 0 0, .slice none 0 0] 27) := hW7; rw [← hW7'] ; rw [← hW7] at hX7 HB7)
        clear hb6 hb7
        obtain ⟨a0, a1, a2, a3, -, -, -, -, hz1⟩ := hX7.four
        clear hX7
        try clear hW7'
        clear hW7
        have HS := Lib.hid (same_any _ (.mk 0 0 [] []) (.mk 0 0 [] []) ⟨.int .i64 0, .int .u64 ((0 : Nat) : Int), .slice none 0 0, .slice none 0 0⟩ ⟨.int .i64 0, .int .u64 ((0 : Nat) : Int), .slice none 0 0, .slice none 0 0⟩ W7 AnyB AnyB (Nat.lt_succ_self _) (vr_zero W7) (vr_zero W7))
        have a1z : W7.cell? ⟨w6.heap.size, 1, none⟩ = some (.int .u64 0) := a1
        clear a1
        go_wp2_with fail
        refine (HS.out).mono ?_
        rintro e w8 ⟨rfl, hb8⟩
        rw [sameB_of rfl]
        have HB8 := Lib.hid (HB7.out.trans (hb8.mono HB7.out.size))
        clear hb8
        go_wp2_with fail
        refine (alive_any _).mono ?_
        rintro e w9 ⟨rfl, hb9⟩
        have HF := Lib.hid (HB8.out.trans (hb9.mono HB8.out.size))
        clear hb9
        go_wp2_with fail
        go_ret
        exact ⟨rfl, HF.out⟩
  · rw [putF_not f1]
    clear f1
    have HB := HB5
    clear HB5 HA5 HBX5 HX5
    cases hrd : readT 8 bs with
    | none =>
      have HG := Lib.hid (get_none w5 _ C n3 c3 bs (HZ.out.below HB.out) (by omega) hrd)
      clear hrd
      go_wp2_with fail
      refine (HG.out).mono ?_
      rintro e w6 ⟨rfl, hb6⟩
      obtain ⟨hX7, hb7⟩ := box_one w6 ⟨.int .i64 0, .int .u64 ((0 : Nat) : Int), .slice none 0 0, .slice none 0 0⟩ 27
      have HB7 := Lib.hid ((HB.out.trans (hb6.mono HB.out.size)).trans (hb7.mono (Nat.le_trans HB.out.size hb6.size)))
      obtain ⟨W7, hW7⟩ : ∃ W7, W7 = w6.alloc (.cells #[.int .i64 0, .int .u64 ((0 : Nat) : Int), .slice none 0 0, .slice none 0 0] 27) := ⟨_, rfl⟩
      go_upto_region 10 with (fail)
      first | rw [← hW7] at hX7 HB7 ⊢ | (have hW7' : W7 = w6.alloc (.cells #[.int .i64 0, .int .u64 0, .slice none 0 0, .slice none 0 0] 27) := hW7; rw [← hW7'] ; rw [← hW7] at hX7 HB7)
      clear hb6 hb7
      obtain ⟨a0, a1, a2, a3, -, -, -, -, hz1⟩ := hX7.four
      clear hX7
      try clear hW7'
      clear hW7
      have HS := Lib.hid (same_any _ (.mk 0 0 [] []) (.mk 0 0 [] []) ⟨.int .i64 0, .int .u64 ((0 : Nat) : Int), .slice none 0 0, .slice none 0 0⟩ ⟨.int .i64 0, .int .u64 ((0 : Nat) : Int), .slice none 0 0, .slice none 0 0⟩ W7 AnyB AnyB (Nat.lt_succ_self _) (vr_zero W7) (vr_zero W7))
      have a1z : W7.cell? ⟨w6.heap.size, 1, none⟩ = some (.int .u64 0) := a1
      clear a1
      go_wp2_with fail
      refine (HS.out).mono ?_
      rintro e w8 ⟨rfl, hb8⟩
      rw [sameB_of rfl]
      have HB8 := Lib.hid (HB7.out.trans (hb8.mono HB7.out.size))
      clear hb8
      go_wp2_with fail
      refine (alive_any _).mono ?_
      rintro e w9 ⟨rfl, hb9⟩
      have HF := Lib.hid (HB8.out.trans (hb9.mono HB8.out.size))
      clear hb9
      go_wp2_with fail
      go_ret
      exact ⟨rfl, HF.out⟩
    | some p =>
      obtain ⟨u, rr⟩ := p
      by_cases hrr : rr = []
      · subst hrr
        have HG := Lib.hid (get_some w5 _ C n3 c3 bs u (HZ.out.below HB.out) (by omega) hrd)
        have HPG := Lib.hid (put_got hrd)
        clear hrd
        go_wp2_with fail
        refine (HG.out).mono ?_
        rintro e w6 ⟨q, rfl, hv6, hb6⟩
        obtain ⟨t5, m5, xx, yy, R1, R2, o1, o2, o3, o4, rfl, -⟩ := hv6.opens
        dsimp only [Quad.agg]
        obtain ⟨hX7, hb7⟩ := box_one w6 ⟨.int .i64 t5, .int .u64 (m5 : Int), .slice R1 o1 o2, .slice R2 o3 o4⟩ 27
        have HB7 := Lib.hid ((HB.out.trans (hb6.mono HB.out.size)).trans (hb7.mono (Nat.le_trans HB.out.size hb6.size)))
        have HV7 := Lib.hid (hv6.low' hb7)
        obtain ⟨W7, hW7⟩ : ∃ W7, W7 = w6.alloc (.cells #[.int .i64 t5, .int .u64 (m5 : Int), .slice R1 o1 o2, .slice R2 o3 o4] 27) := ⟨_, rfl⟩
        go_upto_region 10 with (fail)
        rw [← hW7] at hX7 HB7 HV7 ⊢
        clear hb6 hb7 hv6 hW7
        obtain ⟨a0, a1, a2, a3, -, -, -, -, hz1⟩ := hX7.four
        clear hX7
        go_wp2_with fail
        refine (put_one u ⟨.int .i64 t5, .int .u64 (m5 : Int), .slice R1 o1 o2, .slice R2 o3 o4⟩ W7 _ HV7.out).mono ?_
        rintro e w8 ⟨X8, x8, y8, rfl, hx8, hl8, hb8⟩
        rw [HPG.out.2] at hx8
        rw [HPG.out.1]
        have HX8 := Lib.hid hx8
        have HB8 := Lib.hid (HB7.out.trans (hb8.mono HB7.out.size))
        clear hx8 hb8
        go_wp2_with fail
        refine (bytes_any w8 _ _ X8 C x8 n3 y8 c3 _ _ HX8.out (HZ.out.below HB8.out) (by omega) (by omega)).mono ?_
        rintro e w9 ⟨rfl, dd, rfl⟩
        rw [decide_eq_true rfl]
        have HB9 := Lib.hid (below_drewN HB8.out dd)
        go_wp2_with fail
        refine (alive_any _).mono ?_
        rintro e w10 ⟨rfl, hb10⟩
        have HF := Lib.hid (HB9.out.trans (hb10.mono HB9.out.size))
        clear hb10
        go_wp2_with fail
        go_ret
        exact ⟨rfl, HF.out⟩
      · have HG := Lib.hid (get_rest w5 _ C n3 c3 bs rr u (HZ.out.below HB.out) (by omega) hrd hrr)
        clear hrd hrr
        go_wp2_with fail
        refine (HG.out).mono ?_
        rintro e w6 ⟨rfl, hb6⟩
        obtain ⟨hX7, hb7⟩ := box_one w6 ⟨.int .i64 0, .int .u64 ((0 : Nat) : Int), .slice none 0 0, .slice none 0 0⟩ 27
        have HB7 := Lib.hid ((HB.out.trans (hb6.mono HB.out.size)).trans (hb7.mono (Nat.le_trans HB.out.size hb6.size)))
        obtain ⟨W7, hW7⟩ : ∃ W7, W7 = w6.alloc (.cells #[.int .i64 0, .int .u64 ((0 : Nat) : Int), .slice none 0 0, .slice none 0 0] 27) := ⟨_, rfl⟩
        go_upto_region 10 with (fail)
        first | rw [← hW7] at hX7 HB7 ⊢ | (have hW7' : W7 = w6.alloc (.cells #[.int .i64 0, .int .u64 0, .slice none 0 0, .slice none 0 0] 27) := hW7; rw [← hW7'] ; rw [← hW7] at hX7 HB7)
        clear hb6 hb7
        obtain ⟨a0, a1, a2, a3, -, -, -, -, hz1⟩ := hX7.four
        clear hX7
        try clear hW7'
        clear hW7
        have HS := Lib.hid (same_any _ (.mk 0 0 [] []) (.mk 0 0 [] []) ⟨.int .i64 0, .int .u64 ((0 : Nat) : Int), .slice none 0 0, .slice none 0 0⟩ ⟨.int .i64 0, .int .u64 ((0 : Nat) : Int), .slice none 0 0, .slice none 0 0⟩ W7 AnyB AnyB (Nat.lt_succ_self _) (vr_zero W7) (vr_zero W7))
        have a1z : W7.cell? ⟨w6.heap.size, 1, none⟩ = some (.int .u64 0) := a1
        clear a1
        go_wp2_with fail
        refine (HS.out).mono ?_
        rintro e w8 ⟨rfl, hb8⟩
        rw [sameB_of rfl]
        have HB8 := Lib.hid (HB7.out.trans (hb8.mono HB7.out.size))
        clear hb8
        go_wp2_with fail
        refine (alive_any _).mono ?_
        rintro e w9 ⟨rfl, hb9⟩
        have HF := Lib.hid (HB8.out.trans (hb9.mono HB8.out.size))
        clear hb9
        go_wp2_with fail
        go_ret
        exact ⟨rfl, HF.out⟩
set_option maxRecDepth 100000 in
theorem tlvBack_any (w : World) (S S' S2 : Nat → Prop) (A B C : Option Addr) (n c n' c' n3 c3 : Nat) (l : List ND) (rs bs : List UInt8) (hx : NR w S A n c l) (hy : Bs w S' B n' c' rs) (hz : Bs w S2 C n3 c3 bs) :
    Calls Try.prog 11 #[.slice A n c, .slice B n' c', .slice C n3 c3] w fun e w' => e = .returned (.bool true) ∧ Below w.heap.size w w' := by
  have hnot : ∀ (x : Bool) (w : World), (Op.unary .not (.bool x)).run Try.prog w = .ok (.bool (!x)) w := fun _ _ => rfl
  by_cases h : lightB l = true ∧ n' ≤ 300 ∧ n3 ≤ 3000
  · exact tlvBack_in w S S' S2 A B C n c n' c' n3 c3 l rs bs hx hy hz h.1 h.2.1 h.2.2
  · have HX := Lib.hid hx
    obtain ⟨lb, hlb⟩ : ∃ lb, lb = lightB l := ⟨_, rfl⟩
    rw [← hlb] at h
    have HL := Lib.hid hlb
    clear hx hy hz hlb
    by_cases h1 : lb = true
    · subst h1
      by_cases h2 : (300 : Int) < (n' : Int)
      · clear h
        go_enter Try.func11, Try.ntmps11
        go_wp2_with fail
        refine (light_any w _ A n c l HX.out).mono ?_
        rintro e w1 ⟨rfl, hb1⟩
        rw [← HL.out]
        have HB1 := Lib.hid hb1
        clear hb1
        go_wp2_with fail
        refine (alive_any _).mono ?_
        rintro e w3 ⟨rfl, hb3⟩
        have HB3 := Lib.hid (HB1.out.trans (hb3.mono HB1.out.size))
        clear hb3
        go_wp2_with fail
        go_ret
        exact ⟨rfl, HB3.out⟩
      · have h3 : (3000 : Int) < (n3 : Int) := by
          rcases Nat.lt_or_ge 3000 n3 with h3 | h3
          · omega
          · exact absurd ⟨rfl, by omega, h3⟩ h
        clear h
        go_enter Try.func11, Try.ntmps11
        go_wp2_with fail
        refine (light_any w _ A n c l HX.out).mono ?_
        rintro e w1 ⟨rfl, hb1⟩
        rw [← HL.out]
        have HB1 := Lib.hid hb1
        clear hb1
        go_wp2_with fail
        refine (alive_any _).mono ?_
        rintro e w3 ⟨rfl, hb3⟩
        have HB3 := Lib.hid (HB1.out.trans (hb3.mono HB1.out.size))
        clear hb3
        go_wp2_with fail
        go_ret
        exact ⟨rfl, HB3.out⟩
    · obtain rfl : lb = false := eq_false_of_ne_true h1
      clear h h1
      go_enter Try.func11, Try.ntmps11
      go_wp2_with fail
      refine (light_any w _ A n c l HX.out).mono ?_
      rintro e w1 ⟨rfl, hb1⟩
      rw [← HL.out]
      have HB1 := Lib.hid hb1
      clear hb1
      go_wp2_with fail
      refine (alive_any _).mono ?_
      rintro e w3 ⟨rfl, hb3⟩
      have HB3 := Lib.hid (HB1.out.trans (hb3.mono HB1.out.size))
      clear hb3
      go_wp2_with fail
      go_ret
      exact ⟨rfl, HB3.out⟩
end Go.Proofs.Ytaebmhbggbpnoaa
