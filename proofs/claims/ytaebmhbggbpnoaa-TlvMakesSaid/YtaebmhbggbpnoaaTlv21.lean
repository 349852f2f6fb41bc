/- The walk of TlvMakes (hayloftlaw01). Conditions: each theorem's premises. -/
import Derived.Test.YtaebmhbggbpnoaaTlv18
import Derived.Test.YtaebmhbggbpnoaaTlv20
import Derived.Deep.RegionHeld3
namespace Go.Proofs.Ytaebmhbggbpnoaa
open Go.RowKit
set_option maxRecDepth 10000 in
set_option maxHeartbeats 4000000 in
theorem makes_out (w : World) (A : Option Addr) (n c : Nat) (m k : Int) (hn : 3000 < n ∨ k < 0 ∨ 10 < k) :
    Calls Try.prog 4 #[.int .u64 m, .slice A n c, .int .i64 k] w fun e w' => e = .returned (.bool true) ∧ Below w.heap.size w w' := by
  have HA := Lib.hid (alive_any w)
  by_cases h1 : (3000 : Int) < (n : Int)
  · clear hn
    go_enter Try.func4, Try.ntmps4
    go_wp2_with fail
    refine (HA.out).mono ?_
    rintro e w1 ⟨rfl, hb⟩
    go_wp2_with fail
    go_ret
    exact ⟨rfl, hb⟩
  by_cases h2 : k < 0
  · clear hn
    go_enter Try.func4, Try.ntmps4
    go_wp2_with fail
    refine (HA.out).mono ?_
    rintro e w1 ⟨rfl, hb⟩
    go_wp2_with fail
    go_ret
    exact ⟨rfl, hb⟩
  have h3 : (10 : Int) < k := by omega
  clear hn
  go_enter Try.func4, Try.ntmps4
  go_wp2_with fail
  refine (HA.out).mono ?_
  rintro e w1 ⟨rfl, hb⟩
  go_wp2_with fail
  go_ret
  exact ⟨rfl, hb⟩
theorem hold12 {W w' : World} {b3 b6 b9 : Nat} {t3 t6 t9 : TypeId} {a0 a1 a2 a3 e0 e1 e2 e3 i0 i1 i2 i3 : Value} (h3 : Blk W b3 t3 #[a0, a1, a2, a3]) (h6 : Blk W b6 t6 #[e0, e1, e2, e3]) (h9 : Blk W b9 t9 #[i0, i1, i2, i3]) (hb : Hid (Below W.heap.size W w')) :
    w'.cell? ⟨b3, 0, none⟩ = some a0 ∧ w'.cell? ⟨b3, 1, none⟩ = some a1 ∧ w'.cell? ⟨b3, 2, none⟩ = some a2 ∧ w'.cell? ⟨b3, 3, none⟩ = some a3 ∧
    w'.cell? ⟨b6, 0, none⟩ = some e0 ∧ w'.cell? ⟨b6, 1, none⟩ = some e1 ∧ w'.cell? ⟨b6, 2, none⟩ = some e2 ∧ w'.cell? ⟨b6, 3, none⟩ = some e3 ∧
    w'.cell? ⟨b9, 0, none⟩ = some i0 ∧ w'.cell? ⟨b9, 1, none⟩ = some i1 ∧ w'.cell? ⟨b9, 2, none⟩ = some i2 ∧ w'.cell? ⟨b9, 3, none⟩ = some i3 ∧ Hid (Below W.heap.size W w') := by
  obtain ⟨x0, x1, x2, x3, -⟩ := (h3.after hb.out).four
  obtain ⟨y0, y1, y2, y3, -⟩ := (h6.after hb.out).four
  obtain ⟨z0, z1, z2, z3, -⟩ := (h9.after hb.out).four
  exact ⟨x0, x1, x2, x3, y0, y1, y2, y3, z0, z1, z2, z3, hb⟩
theorem VR.low {w w' : World} {S : Nat → Prop} {q : Quad} {v : TV} (h : VR w S q v) (hb : Below w.heap.size w w') : VR w' AnyB q v := (h.after hb).any
/-- The sizes of what the law makes. -/
theorem makes_size (m : Nat) (bs : List UInt8) (k : Nat) (hm : u64ok m) (hb : bs.length ≤ 3000) (hk : k ≤ 10) :
    sizeT (.mk 3 0 [] (pairsT m bs k)) = 3 + k * (sizeT (.mk 1 m [] []) + sizeT (.mk 2 0 bs [])) ∧ sizeT (.mk 1 m [] []) ≤ 11 ∧ sizeT (.mk 2 0 bs []) ≤ 3003 := by
  obtain ⟨x, h1, h2⟩ := pairs_forms 7 m bs hm hb k
  have h8 := numE_len8 m hm
  have e1 : sizeT (.mk 1 m [] []) = (numE m).length + 3 := by unfold sizeT; rw [num_body 8 m hm]
  have e2 : sizeT (.mk 2 0 bs []) = bs.length + 3 := by unfold sizeT; rw [bytes_body 8 bs hb]
  have h9 : x.length ≤ 65535 := by
    rw [h2]
    have := Nat.mul_le_mul hk (show (numE m).length + 3 + (bs.length + 3) ≤ 3014 by omega)
    omega
  have e3 : bodyT 8 (.mk 3 0 [] (pairsT m bs k)) = some x := by
    rw [bodyT_succ, if_pos (by simp [onlyT]), h1]
    simp [numE_zero, fitT, h9]
  refine ⟨?_, by omega, by omega⟩
  rw [e1, e2]
  unfold sizeT
  rw [e3]
  simp only [h2]
  omega
set_option maxRecDepth 10000 in
set_option maxHeartbeats 8000000 in
theorem makes_in (w : World) (S : Nat → Prop) (A : Option Addr) (n c : Nat) (bs : List UInt8) (hx : Bs w S A n c bs) (hn : n ≤ 3000) (m k : Nat) (hm : u64ok m) (hk : k ≤ 10) :
    Calls Try.prog 4 #[.int .u64 (m : Int), .slice A n c, .int .i64 (k : Int)] w fun e w' => e = .returned (.bool true) ∧ Below w.heap.size w w' := by
  have h1 : ¬ (3000 : Int) < (n : Int) := by omega
  have h2 : ¬ (k : Int) < 0 := by omega
  have h3 : ¬ (10 : Int) < (k : Int) := by omega
  have HX := Lib.hid hx
  obtain ⟨i0, hi0, hz0, hz1, hz2⟩ := info_parts Try.info27
  clear hx
  go_enter Try.func4, Try.ntmps4
  go_wp2_with fail
  go_loopw [7, 8] (fun sl i wr => ∃ (j : Nat) (Al : Option Addr) (cl : Nat), j ≤ k ∧ i = .int .i64 (j : Int) ∧ sl = .slice Al (2 * j) cl ∧ Hid (LO wr (fun p => w.heap.size ≤ p) w.heap.size 27 (.slice Al (2 * j) cl) (2 * j) (pairsT m bs j)) ∧ Hid (Below w.heap.size w wr)) (fun _ i _ => k - (intOf i).toNat)
  case atStart => exact ⟨0, none, 0, Nat.zero_le _, rfl, rfl, Lib.hid (LO.nil _ _ _ _), Lib.hid (Below.refl _ _)⟩
  case round =>
    obtain ⟨j, Al, cl, hj, rfl, rfl, hLO, hbr⟩ := hrel
    by_cases hlt : j < k
    · have hlt' : (j : Int) < (k : Int) := by omega
      go_wp2_with fail
      refine (number_any (m : Int) wr).mono ?_
      rintro e w1 ⟨rfl, hb1⟩
      go_wp2_with fail
      refine (bytesV_own w1 S A n c bs ((HX.out.after hbr.out).after hb1) (by omega)).mono ?_
      rintro e w2 ⟨A2, c2, rfl, hv2, hb2⟩
      have hb12 : Below wr.heap.size wr w2 := hb1.trans (hb2.mono hb1.size)
      have hv1 : VR w2 (fun p => w1.heap.size ≤ p) ⟨.int .i64 1, .int .u64 (m : Int), .slice none 0 0, .slice none 0 0⟩ (.mk 1 m [] []) := VR.shut hm (Bs.nil _ _ _) (by omega) (LR.nil _ _ _)
      have hsz := hLO.out
      obtain ⟨qs, hq, hown, hvo, hvn, hrd, hone⟩ := hLO.out.ready2 (e' := 27) hb12 hv1 hv2 (fun p hp _ => by
        obtain ⟨_, _, _, _, ho, _⟩ := hsz
        refine ⟨by have := hbr.out.size; have := hb1.size; omega, fun he => ?_⟩
        have := (ho.lt _ he.symm).2
        have := hb1.size
        omega)
      have Hq := Lib.hid (And.intro hq (And.intro hvo hvn))
      have hbw2 := hbr.out.trans (hb12.mono hbr.out.size)
      clear hq hvo hvn hsz
      go_wp2_with (at_builtin; go_must ((refine wpList_append_any _ rfl (.tmp 29) (.tmp 34) 25 rfl w.heap.size 27 i0 _ 4 64 Try.underlying25 hi0 hz0 hz1 hz2 rfl (by omega) (.slice Al (2 * j) cl) (2 * j) (flat qs) rfl hown AnyB _ 2 2 (flat [⟨.int .i64 1, .int .u64 (m : Int), .slice none 0 0, .slice none 0 0⟩, ⟨.int .i64 2, .int .u64 ((0 : Nat) : Int), .slice A2 n c2, .slice none 0 0⟩]) rfl hrd hone (by simp only [maxLen]; omega) (by omega) (by have := hbw2.size; simp; omega) ?_; intro v4 w4 hown4 hg4 hat4; obtain ⟨A7, c7, rfl, hc7⟩ := own_shape hown4)))
      have hlen := pairs_len m bs j
      have hL := LO.more (m := 2) Hq.out.1 hlen rfl rfl (by omega) hown4 hg4 hat4 Hq.out.2.1 Hq.out.2.2
      have hbw4 : Below w.heap.size w w4 := (hbw2.alloc hbw2.size _).grown hg4 (by have := hbw2.size; simp; omega) (fun p hp => (hown.lt p hp).1)
      exact ⟨⟨j + 1, A7, c7, by omega, by go_num, rfl, Lib.hid hL, Lib.hid hbw4⟩, by simp [intOf]; omega⟩
    · obtain rfl : j = k := by omega
      go_wp2_with fail
      have HM := Lib.hid (many_any wr _ _ _ _ _ hLO.out.reads)
      refine (HM.out).mono ?_
      rintro e w1 ⟨q1, rfl, hv1, hb1⟩
      have hbl1 : Below w.heap.size w w1 := hbr.out.trans (hb1.mono hbr.out.size)
      obtain ⟨t1, m1, x1, y1, P1, P2, i1, i2, i3, i4, rfl, hV1, -, -, -, hl1⟩ := hv1.opens
      have hlen : i3 = 2 * j := by rw [← hl1.len]; cases hV1; exact pairs_len m bs j
      cases hV1
      subst hlen
      dsimp only [Quad.agg]
      have hbl1' : Below w.heap.size w (w1.alloc (.cells #[.int .i64 3, .int .u64 ((0 : Nat) : Int), .slice P1 i1 i2, .slice P2 (2 * j) i4] 27)) := hbl1.alloc hbl1.size _
      go_wp2_with fail
      refine (number_any (m : Int) _).mono ?_
      rintro e w2 ⟨rfl, hb2⟩
      have hbl2 : Below w.heap.size w w2 := hbl1'.trans (hb2.mono hbl1'.size)
      go_wp2_with fail
      refine (bytesV_own w2 S A n c bs (HX.out.after hbl2) (by omega)).mono ?_
      rintro e w3 ⟨A3, c3, rfl, hv3, hb3⟩
      have hbl3 : Below w.heap.size w w3 := hbl2.trans (hb3.mono hbl2.size)
      obtain ⟨W, hW⟩ : ∃ W, W = (w3.alloc (.cells #[.int .i64 1, .int .u64 (m : Int), .slice none 0 0, .slice none 0 0] 27)).alloc (.cells #[.int .i64 2, .int .u64 0, .slice A3 n c3, .slice none 0 0] 27) := ⟨_, rfl⟩
      have g3 : Below w3.heap.size w3 W := by rw [hW]; exact ((Below.refl _ _).alloc (Nat.le_refl _) _).alloc (by simp) _
      have hblW : Below w.heap.size w W := hbl3.trans (g3.mono hbl3.size)
      have g2 := hb3.trans (g3.mono hb3.size)
      have g1' := hb2.trans (g2.mono hb2.size)
      have g1 : Below w1.heap.size w1 W := ((Below.refl w1.heap.size w1).alloc (Nat.le_refl _) _).trans (g1'.mono (by simp))
      have b9 := Lib.hid ((Blk.new w1 27 #[.int .i64 3, .int .u64 ((0 : Nat) : Int), .slice P1 i1 i2, .slice P2 (2 * j) i4]).after g1')
      have b10 : Hid (Blk W w3.heap.size 27 #[.int .i64 1, .int .u64 (m : Int), .slice none 0 0, .slice none 0 0]) := Lib.hid (by rw [hW]; exact (Blk.new _ _ _).alloc _)
      have b11 : Hid (Blk W (w3.heap.size + 1) 27 #[.int .i64 2, .int .u64 0, .slice A3 n c3, .slice none 0 0]) := Lib.hid (by rw [hW]; have := Blk.new (w3.alloc (.cells #[.int .i64 1, .int .u64 (m : Int), .slice none 0 0, .slice none 0 0] 27)) 27 #[.int .i64 2, .int .u64 0, .slice A3 n c3, .slice none 0 0]; simpa only [World.size_alloc] using this)
      have hvm := Lib.hid ((hv1.after g1).any)
      have hvb := Lib.hid ((hv3.after g3).any)
      have hvn : Hid (VR W AnyB ⟨.int .i64 1, .int .u64 (m : Int), .slice none 0 0, .slice none 0 0⟩ (.mk 1 m [] [])) := Lib.hid (VR.shut hm (Bs.nil _ _ _) (by omega) (LR.nil _ _ _))
      obtain ⟨_, _, _, _, _, _, _, _, _, _, he, hve, -, hb33, -, -⟩ := hv3.opens
      cases hve
      cases he
      have HE := Lib.hid (bytes_any W _ _ _ _ n n _ _ _ _ (hb33.after g3) (HX.out.after hblW) (by omega) (by omega))
      have HBL := Lib.hid hblW
      have HW := Lib.hid hW
      obtain ⟨z0, z1, z2, z3, -⟩ := b9.out.four
      obtain ⟨y0, y1, y2, y3, -⟩ := b10.out.four
      obtain ⟨v0, v1, v2, v3, -⟩ := b11.out.four
      have hmul : (((2 * j : Nat) : Int) != 2 * (j : Int)) = false := by simp
      clear hW hblW g1 g1' g2 g3 hbl1 hbl1' hbl2 hbl3 hb1 hb2 hb3 hv1 hv3 hb33 hl1
      go_wp2_with fail
      have hW := HW.out
      rw [← hW]
      clear hW HW
      refine (HE.out).mono ?_
      rintro e w7 ⟨rfl, kk, rfl⟩
      go_wp2_with fail
      obtain ⟨sv, hs1, hsv⟩ : ∃ sv : Nat, ((sizeT (.mk 3 0 [] (pairsT m bs j)) : Nat) : Int) = (sv : Int) ∧ sv = sizeT (.mk 3 0 [] (pairsT m bs j)) := ⟨_, rfl, rfl⟩
      obtain ⟨sx, hs2, hsx⟩ : ∃ sx : Nat, ((sizeT (.mk 1 m [] []) : Nat) : Int) = (sx : Int) ∧ sx = sizeT (.mk 1 m [] []) := ⟨_, rfl, rfl⟩
      obtain ⟨sy, hs3, hsy⟩ : ∃ sy : Nat, ((sizeT (.mk 2 0 bs []) : Nat) : Int) = (sy : Int) ∧ sy = sizeT (.mk 2 0 bs []) := ⟨_, rfl, rfl⟩
      obtain ⟨hq0, hq1, hq2⟩ := makes_size m bs j hm (by have := HX.out.len; omega) (by omega)
      rw [← hsv, ← hsx, ← hsy] at hq0
      rw [← hsx] at hq1
      rw [← hsy] at hq2
      have h9 : j * (sx + sy) ≤ 10 * (11 + 3003) := Nat.mul_le_mul hk (by omega)
      have hwa : IntKind.i64.wrap ((sx : Int) + (sy : Int)) = ((sx + sy : Nat) : Int) := by rw [IntKind.wrap_i64]; omega
      have hwb : IntKind.i64.wrap ((j : Int) * ((sx + sy : Nat) : Int)) = ((j * (sx + sy) : Nat) : Int) := by rw [IntKind.wrap_i64, ← Int.natCast_mul]; omega
      have hwc : IntKind.i64.wrap (3 + ((j * (sx + sy) : Nat) : Int)) = (sv : Int) := by rw [IntKind.wrap_i64, hq0]; omega
      generalize ((sx + sy : Nat) : Int) = sa at hwa hwb
      generalize ((j * (sx + sy) : Nat) : Int) = sb at hwb hwc
      clear h9
      clear hsv hsx hsy hq0 z0 z1 z2 z3 y0 y1 y2 y3 v0 v1 v2 v3
      have hB0 : Hid (Below W.heap.size W (W.drewN kk).drew) := Lib.hid (below_drewN (Below.refl _ _) _).drew
      go_region_held3 (fun w' => w'.cell? ⟨w1.heap.size, 0, none⟩ = some (.int .i64 3) ∧ w'.cell? ⟨w1.heap.size, 1, none⟩ = some (.int .u64 ((0 : Nat) : Int)) ∧ w'.cell? ⟨w1.heap.size, 2, none⟩ = some (.slice P1 i1 i2) ∧ w'.cell? ⟨w1.heap.size, 3, none⟩ = some (.slice P2 (2 * j) i4) ∧ w'.cell? ⟨w3.heap.size, 0, none⟩ = some (.int .i64 1) ∧ w'.cell? ⟨w3.heap.size, 1, none⟩ = some (.int .u64 (m : Int)) ∧ w'.cell? ⟨w3.heap.size, 2, none⟩ = some (.slice none 0 0) ∧ w'.cell? ⟨w3.heap.size, 3, none⟩ = some (.slice none 0 0) ∧ w'.cell? ⟨(w3.heap.size + 1), 0, none⟩ = some (.int .i64 2) ∧ w'.cell? ⟨(w3.heap.size + 1), 1, none⟩ = some (.int .u64 0) ∧ w'.cell? ⟨(w3.heap.size + 1), 2, none⟩ = some (.slice A3 n c3) ∧ w'.cell? ⟨(w3.heap.size + 1), 3, none⟩ = some (.slice none 0 0) ∧ Hid (Below W.heap.size W w')) (exact hold12 b9.out b10.out b11.out (by assumption)) (first | (have _g2 := hB22; go_at_call 30; refine (size_any (.mk 2 0 bs []) ⟨.int .i64 2, .int .u64 0, .slice A3 n c3, .slice none 0 0⟩ _ AnyB (hvb.out.low (Hid.out (by assumption)))).mono ?_; rintro e w23 ⟨rfl, hb23⟩; have hB23 := next_below (by assumption) hb23; rw [hs3]) | (have _g1 := hB21; go_at_call 30; refine (size_any (.mk 1 m [] []) ⟨.int .i64 1, .int .u64 (m : Int), .slice none 0 0, .slice none 0 0⟩ _ AnyB (hvn.out.low (Hid.out (by assumption)))).mono ?_; rintro e w22 ⟨rfl, hb22⟩; have hB22 := next_below (by assumption) hb22; rw [hs2]) | (go_at_call 30; refine (size_any (.mk 3 0 [] (pairsT m bs j)) ⟨.int .i64 3, .int .u64 ((0 : Nat) : Int), .slice P1 i1 i2, .slice P2 (2 * j) i4⟩ _ AnyB (hvm.out.low (Hid.out (by assumption)))).mono ?_; rintro e w21 ⟨rfl, hb21⟩; have hB21 := next_below (by assumption) hb21; rw [hs1]) | (go_at_call 19; refine (alive_any _).mono ?_; rintro e w24 ⟨rfl, hb24⟩; have hB24 := next_below (by assumption) hb24))
      go_wp2_with fail
      go_ret
      exact ⟨rfl, HBL.out.trans (hB24.out.mono HBL.out.size)⟩
theorem makes_any (w : World) (S : Nat → Prop) (A : Option Addr) (n c : Nat) (bs : List UInt8) (hx : Bs w S A n c bs) (m : Nat) (k : Int) (hm : u64ok m) :
    Calls Try.prog 4 #[.int .u64 (m : Int), .slice A n c, .int .i64 k] w fun e w' => e = .returned (.bool true) ∧ Below w.heap.size w w' := by
  by_cases h : n ≤ 3000 ∧ 0 ≤ k ∧ k ≤ 10
  · obtain ⟨h1, h2, h3⟩ := h
    have := makes_in w S A n c bs hx h1 m k.toNat hm (by omega)
    rwa [Int.toNat_of_nonneg h2] at this
  · exact makes_out w A n c m k (by omega)
end Go.Proofs.Ytaebmhbggbpnoaa
