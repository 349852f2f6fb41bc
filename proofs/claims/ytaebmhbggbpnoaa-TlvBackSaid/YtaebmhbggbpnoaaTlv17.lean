/- The walk of alive (hayloftlaw01). Conditions: each theorem's premises. -/
import Derived.Test.YtaebmhbggbpnoaaTlv16
import Derived.Test.YtaebmhbggbpnoaaTlv5
import Derived.Test.YtaebmhbggbpnoaaLaw
import Derived.Lib.SlBytesConst
namespace Go.Proofs.Ytaebmhbggbpnoaa
open Go.RowKit
def aliveV : TV := .mk 3 0 [] [.mk 1 300 [] [], .mk 2 0 [97] []]
theorem numE300 : numE 300 = [1, 44] := by
  rw [numE_pos (by decide), show 300 / 256 = 1 from rfl, numE_pos (by decide), show 1 / 256 = 0 from rfl, numE_zero]
  rfl
theorem alive_put : putT 8 aliveV = some [3, 0, 9, 1, 0, 2, 1, 44, 2, 0, 1, 97] := by
  simp [aliveV, putT, bodyT, onlyT, formsT, numE300, numE_zero, fitT, headT, TV.tag]
theorem alive_ok : OkT aliveV := .mk (by decide) (fun i v h => by
  match i with
  | 0 => simp at h; subst h; exact .mk (by decide) (by simp)
  | 1 => simp at h; subst h; exact .mk (by decide) (by simp)
  | i + 2 => simp at h)
theorem alive_read : readT 8 [3, 0, 9, 1, 0, 2, 1, 44, 2, 0, 1, 97] = some (aliveV, []) := by
  have h := alive_put
  unfold putT at h
  simp only [Option.map_eq_some_iff] at h
  obtain ⟨x, h1, h2⟩ := h
  have := read_put 8 aliveV x [] alive_ok h1
  rwa [List.append_nil, h2] at this
theorem bs_lit (w : World) (cs : Array Value) (t : TypeId) (fz : Nat × Nat) (n : Nat) (bs : List UInt8) (h : cs.toList = u8s bs) (hn : bs.length = n) : Bs (w.alloc (.cells cs t fz)) AnyB (some ⟨w.heap.size, 0, none⟩) n n bs := by
  refine ⟨hn, Nat.le_refl _, by rw [u8s_length, hn, Nat.mul_one], fun _ => ⟨_, rfl, trivial, fun j u hu => ?_⟩⟩
  rw [add_plain, cell_of_row _ _ _ _ _ _ (heap_alloc_new w _)]
  rw [← h] at hu
  simpa using hu
theorem reads_lit4 (w : World) (cs : Array Value) (t : TypeId) (n : Nat) (h : cs.size = n * 4) : Reads (w.alloc (.cells cs t)) AnyB 4 (some ⟨w.heap.size, 0, none⟩) n cs.toList :=
  ⟨by simpa using h, fun _ => ⟨_, rfl, trivial, fun j u hu => by rw [add_plain, World.cell?_alloc_new]; simpa using hu⟩⟩
/-- Two values laid one behind the other. -/
theorem lr_two {w : World} {q1 q2 : Quad} {v1 v2 : TV} (t : TypeId) (h1 : VR w AnyB q1 v1) (h2 : VR w AnyB q2 v2) :
    LR (w.alloc (.cells #[q1.a, q1.b, q1.c, q1.d, q2.a, q2.b, q2.c, q2.d] t)) AnyB (some ⟨w.heap.size, 0, none⟩) 2 2 [v1, v2] := by
  have hb : Below w.heap.size w (w.alloc (.cells #[q1.a, q1.b, q1.c, q1.d, q2.a, q2.b, q2.c, q2.d] t)) := (Below.refl _ _).alloc (Nat.le_refl _) _
  refine ⟨rfl, Nat.le_refl _, by omega, [q1, q2], rfl, reads_lit4 w _ t 2 rfl, fun i q v hq hv => ?_⟩
  match i with
  | 0 => simp at hq hv; subst hq; subst hv; exact h1.after hb
  | 1 => simp at hq hv; subst hq; subst hv; exact h2.after hb
  | i + 2 => simp at hq
set_option maxRecDepth 10000 in
set_option maxHeartbeats 1000000 in
theorem alive_any (w : World) : Calls Try.prog 19 #[] w fun e w' => e = .returned (.bool true) ∧ Below w.heap.size w w' := by
  have kc := fun (w : World) (C : Array Value) (n c : Nat) => Lib.run_convert_bytes_const (P := Try.prog) w 22 5 C n c Try.underlying22 Try.underlying5
  go_enter Try.func19, Try.ntmps19
  go_wp2_with fail
  refine (number_any 300 _).mono ?_
  rintro e w1 ⟨rfl, hb1⟩
  go_wp2_with fail
  refine (bytesV_any _ AnyB _ 1 1 [97] (bs_lit w1 #[.int .u8 97] 5 (1, 2) 1 [97] rfl rfl) (by omega)).mono ?_
  rintro e w2 ⟨q2, rfl, hv2, hb2⟩
  have hbl2 : Below w.heap.size w w2 := (hb1.alloc hb1.size _).trans (hb2.mono (by have := hb1.size; simp; omega))
  obtain ⟨u1, m1, x1, y1, P1, P2, i1, i2, i3, i4, rfl, hvv, -⟩ := hv2.opens
  cases hvv
  have hv1 : VR w2 AnyB ⟨.int .i64 1, .int .u64 ((300 : Nat) : Int), .slice none 0 0, .slice none 0 0⟩ (.mk 1 300 [] []) := VR.shut (by simp [u64ok]) (Bs.nil _ _ _) (by omega) (LR.nil _ _ _)
  have hL := Lib.hid (lr_two 27 hv1 hv2)
  dsimp only [Quad.agg]
  go_wp2_with fail
  refine (many_any _ AnyB _ 2 2 [.mk 1 300 [] [], .mk 2 0 [97] []] hL.out).mono ?_
  rintro e w3 ⟨q3, rfl, hv3, hb3⟩
  have hbl3 : Below w.heap.size w w3 := (hbl2.alloc hbl2.size _).trans (hb3.mono (by have := hbl2.size; simp; omega))
  obtain ⟨u3, m3, x3, y3, P3, P4, i5, i6, i7, i8, rfl, hvv, -⟩ := hv3.opens
  cases hvv
  have HP := put_any aliveV _ w3 _ hv3
  rw [alive_put] at HP
  have HPP : Hid (Calls Try.prog 45 #[.agg #[.int .i64 3, .int .u64 ((0 : Nat) : Int), .slice P3 i5 i6, .slice P4 i7 i8]] w3 fun e w' => ∃ A c, e = .returned (.tuple #[.slice A 12 c, .int .i64 0]) ∧ Bs w' (fun k => w3.heap.size ≤ k) A 12 c [3, 0, 9, 1, 0, 2, 1, 44, 2, 0, 1, 97] ∧ Below w3.heap.size w3 w') :=
    Lib.hid (HP.mono (by rintro e w4 ⟨A4, c4, rfl, hb4, -, hbe4⟩; exact ⟨A4, c4, rfl, hb4, hbe4⟩))
  clear HP
  dsimp only [Quad.agg]
  go_wp2_with fail
  refine (HPP.out).mono ?_
  rintro e w4 ⟨A4, c4, rfl, hb4, hbe4⟩
  have hbl4 := hbl3.trans (hbe4.mono hbl3.size)
  have HG := Lib.hid (get_some w4 _ _ _ _ _ aliveV hb4 (by simp) alive_read)
  go_wp2_with fail
  refine (HG.out).mono ?_
  rintro e w5 ⟨q5, rfl, hv5, hbe5⟩
  have hbl5 := hbl4.trans (hbe5.mono hbl4.size)
  obtain ⟨u5, m5, x5, y5, P5, P6, j5, j6, j7, j8, rfl, hvv, -, -, -, hl5⟩ := hv5.opens
  cases hvv
  have hlen : j7 = 2 := hl5.len.symm
  subst hlen
  obtain ⟨W6, hW6⟩ : ∃ W6, W6 = (w5.alloc (.cells #[.int .i64 3, .int .u64 0, .slice P5 j5 j6, .slice P6 2 j8] 27)).alloc (.cells #[.int .u8 3, .int .u8 0, .int .u8 9, .int .u8 1, .int .u8 0, .int .u8 2, .int .u8 1, .int .u8 44, .int .u8 2, .int .u8 0, .int .u8 1, .int .u8 97] 5) := ⟨_, rfl⟩
  have hb6 : Below w5.heap.size w5 W6 := by rw [hW6]; exact ((Below.refl _ _).alloc (Nat.le_refl _) _).alloc (by simp) _
  have hl6 := hl5.after hb6
  have hX : Blk W6 w5.heap.size 27 #[.int .i64 3, .int .u64 0, .slice P5 j5 j6, .slice P6 2 j8] := by rw [hW6]; exact (Blk.new _ _ _).alloc _
  have hlit : Bs W6 AnyB (some ⟨(w5.alloc (.cells #[.int .i64 3, .int .u64 0, .slice P5 j5 j6, .slice P6 2 j8] 27)).heap.size, 0, none⟩) 12 12 [3, 0, 9, 1, 0, 2, 1, 44, 2, 0, 1, 97] := by rw [hW6]; exact bs_lit _ _ _ _ _ _ rfl rfl
  rw [World.size_alloc] at hlit
  have hb46 := (hb4.after hbe5).after hb6
  have HE := Lib.hid (bytes_any W6 _ _ _ _ 12 12 _ _ _ _ hb46 hlit (by omega) (by omega))
  obtain ⟨ad, px, qx, vx, rfl, hpx, hvx, hrx, a0, a1, a2, a3, -, -⟩ := hl6.at_ (k := 0) (by omega)
  obtain rfl : px = ad := by rw [← hpx]; simp [Addr.add]
  obtain rfl : vx = .mk 1 300 [] [] := by have := hvx.out; simpa using this.symm
  obtain ⟨_, _, _, _, R1, R2, r1, r2, r3, r4, rfl, hvv, -⟩ := hrx.opens
  cases hvv
  obtain ⟨z0, z1, z2, z3, f0, f1, f2, f3, hz⟩ := hX.four
  have a1' : W6.cell? ⟨px.block, px.off + 1, none⟩ = some (.int .u64 300) := a1
  have HW := Lib.hid hW6
  clear hW6
  dsimp only [Quad.agg]
  go_wp2_with fail
  have hW6 := HW.out
  rw [← hW6]
  clear hW6 HW
  refine (HE.out).mono ?_
  rintro e w7 ⟨rfl, k, rfl⟩
  go_wp2_with fail
  go_ret
  exact ⟨rfl, below_drewN (hbl5.trans (hb6.mono hbl5.size)) _⟩
end Go.Proofs.Ytaebmhbggbpnoaa
