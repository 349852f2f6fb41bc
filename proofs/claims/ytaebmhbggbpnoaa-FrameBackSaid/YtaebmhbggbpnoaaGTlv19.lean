/- The walk of TlvReads (hayloftlaw01). Conditions: each theorem's premises. -/
import Derived.Test.YtaebmhbggbpnoaaGTlv18
import Derived.Deep.RegionHeld3
namespace Go.Proofs.Ytaebmhbggbpnoaa
open Go.RowKit
set_option maxRecDepth 10000 in
set_option maxHeartbeats 4000000 in
theorem reads_long (w : World) (A : Option Addr) (n c : Nat) (hn : 3000 < n) :
    Calls Try.prog 3 #[.slice A n c] w fun e w' => e = .returned (.bool true) ∧ Below w.heap.size w w' := by
  have hn' : (3000 : Int) < (n : Int) := by omega
  have HA := Lib.hid (alive_any w)
  go_enter Try.func3, Try.ntmps3
  go_wp2_with fail
  refine (HA.out).mono ?_
  rintro e w1 ⟨rfl, hb⟩
  go_wp2_with fail
  go_ret
  exact ⟨rfl, hb⟩
theorem VR.low {w w' : World} {S : Nat → Prop} {q : Quad} {v : TV} (h : VR w S q v) (hb : Below w.heap.size w w') : VR w' AnyB q v := (h.after hb).any
set_option maxRecDepth 10000 in
set_option maxHeartbeats 8000000 in
theorem reads_short (w : World) (S : Nat → Prop) (A : Option Addr) (n c : Nat) (bs : List UInt8) (hx : Bs w S A n c bs) (hn : n ≤ 3000) :
    Calls Try.prog 3 #[.slice A n c] w fun e w' => e = .returned (.bool true) ∧ Below w.heap.size w w' := by
  have hn' : ¬ (3000 : Int) < (n : Int) := by omega
  have HX := Lib.hid hx
  obtain ⟨V, hV⟩ : ∃ V, V = takeV bs := ⟨_, rfl⟩
  obtain ⟨R, hR⟩ : ∃ R, R = takeR bs := ⟨_, rfl⟩
  obtain ⟨F, hF⟩ : ∃ F, F = takeF bs := ⟨_, rfl⟩
  obtain ⟨G, hG⟩ : ∃ G, G = getV bs := ⟨_, rfl⟩
  obtain ⟨H, hH⟩ : ∃ H, H = getF bs := ⟨_, rfl⟩
  have K1 : Hid (∀ w', Below w.heap.size w w' → _) := Lib.hid fun w' hb => take_any w' S A n c bs (HX.out.after hb) (by omega)
  have K2 : Hid (∀ w', Below w.heap.size w w' → _) := Lib.hid fun w' hb => rtake_any w' S A n c bs (HX.out.after hb) (by omega)
  have K3 : Hid (∀ w', Below w.heap.size w w' → _) := Lib.hid fun w' hb => get_any w' S A n c bs (HX.out.after hb) (by omega)
  have K4 : Hid (∀ w', Below w.heap.size w w' → _) := Lib.hid fun w' hb => rget_any w' S A n c bs (HX.out.after hb) (by omega)
  simp only [← hV, ← hR, ← hF, ← hG, ← hH] at K1 K2 K3 K4
  clear hV hR hF hG hH hx
  go_enter Try.func3, Try.ntmps3
  go_wp2_with fail
  refine (K1.out w (Below.refl _ _)).mono ?_
  rintro e w1 ⟨q1, A1, n1, c1, rfl, hv1, hr1, hn1, hb1⟩
  obtain ⟨t1, m1, x1, y1, P1, P2, i1, i2, i3, i4, rfl, hV1, -⟩ := hv1.opens
  have hbl1 : Below w.heap.size w (w1.alloc (.cells #[.int .i64 t1, .int .u64 (m1 : Int), .slice P1 i1 i2, .slice P2 i3 i4] 27)) := hb1.alloc hb1.size _
  dsimp only [Quad.agg]
  clear hV1
  go_wp2_with fail
  refine (K2.out _ hbl1).mono ?_
  rintro e w2 ⟨q2, A2, n2, c2, rfl, hv2, hr2, hn2, hb2⟩
  obtain ⟨t2, m2, x2, y2, P3, P4, j1, j2, j3, j4, rfl, hV2, -⟩ := hv2.opens
  have hbl2 := hbl1.trans (hb2.mono hbl1.size)
  have hbl2' : Below w.heap.size w (w2.alloc (.cells #[.int .i64 t2, .int .u64 (m2 : Int), .slice P3 j1 j2, .slice P4 j3 j4] 33)) := hbl2.alloc hbl2.size _
  dsimp only [Quad.agg]
  clear hV2
  go_wp2_with fail
  refine (K3.out _ hbl2').mono ?_
  rintro e w3 ⟨q3, rfl, hv3, hb3⟩
  obtain ⟨t3, m3, x3, y3, P5, P6, k1, k2, k3, k4, rfl, hV3, -⟩ := hv3.opens
  have hbl3 := hbl2'.trans (hb3.mono hbl2'.size)
  have hbl3' : Below w.heap.size w (w3.alloc (.cells #[.int .i64 t3, .int .u64 (m3 : Int), .slice P5 k1 k2, .slice P6 k3 k4] 27)) := hbl3.alloc hbl3.size _
  dsimp only [Quad.agg]
  clear hV3
  go_wp2_with fail
  refine (K4.out _ hbl3').mono ?_
  rintro e w4 ⟨q4, rfl, hv4, hb4⟩
  obtain ⟨t4, m4, x4, y4, P7, P8, l1, l2, l3, l4, rfl, hV4, -⟩ := hv4.opens
  have hbl4 := hbl3'.trans (hb4.mono hbl3'.size)
  obtain ⟨W, hW⟩ : ∃ W, W = w4.alloc (.cells #[.int .i64 t4, .int .u64 (m4 : Int), .slice P7 l1 l2, .slice P8 l3 l4] 33) := ⟨_, rfl⟩
  have hbl : Below w.heap.size w W := by rw [hW]; exact hbl4.alloc hbl4.size _
  have g4 : Below w4.heap.size w4 W := by rw [hW]; exact (Below.refl _ _).alloc (Nat.le_refl _) _
  have g3' := hb4.trans (g4.mono hb4.size)
  have g3 : Below w3.heap.size w3 W := ((Below.refl w3.heap.size w3).alloc (Nat.le_refl _) _).trans (g3'.mono (by simp))
  have g2' := hb3.trans (g3.mono hb3.size)
  have g2 : Below w2.heap.size w2 W := ((Below.refl w2.heap.size w2).alloc (Nat.le_refl _) _).trans (g2'.mono (by simp))
  have g1' := hb2.trans (g2.mono hb2.size)
  have g1 : Below w1.heap.size w1 W := ((Below.refl w1.heap.size w1).alloc (Nat.le_refl _) _).trans (g1'.mono (by simp))
  have b3 := Lib.hid ((Blk.new w1 27 #[.int .i64 t1, .int .u64 (m1 : Int), .slice P1 i1 i2, .slice P2 i3 i4]).after g1')
  have b6 := Lib.hid ((Blk.new w2 33 #[.int .i64 t2, .int .u64 (m2 : Int), .slice P3 j1 j2, .slice P4 j3 j4]).after g2')
  have b9 := Lib.hid ((Blk.new w3 27 #[.int .i64 t3, .int .u64 (m3 : Int), .slice P5 k1 k2, .slice P6 k3 k4]).after g3')
  have b11 : Hid (Blk W w4.heap.size 33 #[.int .i64 t4, .int .u64 (m4 : Int), .slice P7 l1 l2, .slice P8 l3 l4]) := Lib.hid (by rw [hW]; exact Blk.new _ _ _)
  have hv1' := Lib.hid (hv1.low g1)
  have hv2' := Lib.hid (hv2.low g2)
  have hv3' := Lib.hid (hv3.low g3)
  have hv4' := Lib.hid (hv4.low g4)
  have hr1' := Lib.hid (hr1.after g1)
  have hr2' := Lib.hid (hr2.after g2)
  have HW := Lib.hid hW
  have HBL := Lib.hid hbl
  dsimp only [Quad.agg]
  clear hW hbl hV4
  go_wp2_with fail
  have hW := HW.out
  rw [← hW]
  clear hW HW hv1 hv2 hv3 hv4 hr1 hr2 g1 g1' g2 g2' g3 g3' g4 hbl1 hbl2 hbl2' hbl3 hbl3' hbl4 hb1 hb2 hb3 hb4
  have hB0 : Hid (Below W.heap.size W W.drew) := Lib.hid (Below.refl _ _).drew
  go_region_held3 (fun w' => w'.cell? ⟨w1.heap.size, 0, none⟩ = some (.int .i64 t1) ∧ w'.cell? ⟨w1.heap.size, 1, none⟩ = some (.int .u64 (m1 : Int)) ∧ w'.cell? ⟨w1.heap.size, 2, none⟩ = some (.slice P1 i1 i2) ∧ w'.cell? ⟨w1.heap.size, 3, none⟩ = some (.slice P2 i3 i4) ∧ w'.cell? ⟨w2.heap.size, 0, none⟩ = some (.int .i64 t2) ∧ w'.cell? ⟨w2.heap.size, 1, none⟩ = some (.int .u64 (m2 : Int)) ∧ w'.cell? ⟨w2.heap.size, 2, none⟩ = some (.slice P3 j1 j2) ∧ w'.cell? ⟨w2.heap.size, 3, none⟩ = some (.slice P4 j3 j4) ∧ w'.cell? ⟨w3.heap.size, 0, none⟩ = some (.int .i64 t3) ∧ w'.cell? ⟨w3.heap.size, 1, none⟩ = some (.int .u64 (m3 : Int)) ∧ w'.cell? ⟨w3.heap.size, 2, none⟩ = some (.slice P5 k1 k2) ∧ w'.cell? ⟨w3.heap.size, 3, none⟩ = some (.slice P6 k3 k4) ∧ w'.cell? ⟨w4.heap.size, 0, none⟩ = some (.int .i64 t4) ∧ w'.cell? ⟨w4.heap.size, 1, none⟩ = some (.int .u64 (m4 : Int)) ∧ w'.cell? ⟨w4.heap.size, 2, none⟩ = some (.slice P7 l1 l2) ∧ w'.cell? ⟨w4.heap.size, 3, none⟩ = some (.slice P8 l3 l4) ∧ Hid (Below W.heap.size W w')) (exact hold16 b3.out b6.out b9.out b11.out (by assumption)) (first | (have _g7 := hB7; go_at_call 25; refine (back_any _ G ⟨.int .i64 t3, .int .u64 (m3 : Int), .slice P5 k1 k2, .slice P6 k3 k4⟩ _ AnyB (Nat.lt_succ_self _) (hv3'.out.low (Hid.out (by assumption)))).mono ?_; rintro e w8 ⟨q8, rfl, hv8, hb8⟩; have hB8 := next_below (by assumption) hb8) | (have _g8 := hB8; go_at_call 24; refine (rsame_any _ G G q8 ⟨.int .i64 t4, .int .u64 (m4 : Int), .slice P7 l1 l2, .slice P8 l3 l4⟩ _ _ AnyB (Nat.lt_succ_self _) hv8 (hv4'.out.low (Hid.out (by assumption)))).mono ?_; rintro e w9 ⟨rfl, hb9⟩; have hB9 := next_below (by assumption) hb9; rw [sameB_of rfl]) | (go_at_call 25; refine (back_any _ V ⟨.int .i64 t1, .int .u64 (m1 : Int), .slice P1 i1 i2, .slice P2 i3 i4⟩ _ AnyB (Nat.lt_succ_self _) (hv1'.out.low (Hid.out (by assumption)))).mono ?_; rintro e w5 ⟨q5, rfl, hv5, hb5⟩; have hB5 := next_below (by assumption) hb5) | (go_at_call 24; refine (rsame_any _ V V q5 ⟨.int .i64 t2, .int .u64 (m2 : Int), .slice P3 j1 j2, .slice P4 j3 j4⟩ _ _ AnyB (Nat.lt_succ_self _) hv5 (hv2'.out.low (Hid.out (by assumption)))).mono ?_; rintro e w6 ⟨rfl, hb6⟩; have hB6 := next_below (by assumption) hb6; rw [sameB_of rfl]) | (go_at_call 26; refine (bytes_any _ AnyB AnyB A1 A2 n1 n2 c1 c2 R R (hr1'.out.after (Hid.out (by assumption))) (hr2'.out.after (Hid.out (by assumption))) hn1 hn2).mono ?_; rintro e w7 ⟨rfl, kk, rfl⟩; have hB7 := Lib.hid (below_drewN (Hid.out hB6) kk); rw [decide_eq_true rfl]) | (go_at_call 19; refine (alive_any _).mono ?_; rintro e w10 ⟨rfl, hb10⟩; have hB10 := next_below (by assumption) hb10))
  go_wp2_with fail
  go_ret
  exact ⟨rfl, HBL.out.trans (hB10.out.mono HBL.out.size)⟩
theorem reads_any (w : World) (S : Nat → Prop) (A : Option Addr) (n c : Nat) (bs : List UInt8) (hx : Bs w S A n c bs) :
    Calls Try.prog 3 #[.slice A n c] w fun e w' => e = .returned (.bool true) ∧ Below w.heap.size w w' := by
  by_cases hn : n ≤ 3000
  · exact reads_short w S A n c bs hx hn
  · exact reads_long w A n c (by omega)
end Go.Proofs.Ytaebmhbggbpnoaa
