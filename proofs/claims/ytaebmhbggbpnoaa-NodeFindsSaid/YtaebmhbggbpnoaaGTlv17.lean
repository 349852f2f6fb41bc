/- The walk of alive (hayloftlaw01). Conditions: each theorem's premises. -/
import Derived.Test.YtaebmhbggbpnoaaGTlv15
import Derived.Test.YtaebmhbggbpnoaaGTlv5
import Derived.Test.YtaebmhbggbpnoaaGPut
import Derived.Lib.SlBytesConst
namespace Go.Proofs.Ytaebmhbggbpnoaa
open Go.RowKit
def aliveV : TV := .mk 3 0 [] [.mk 1 300 [] [], .mk 2 0 [97] []]
theorem numE300 : numE 300 = [1, 44] := by
  rw [numE_pos (by decide), show 300 / 256 = 1 from rfl, numE_pos (by decide), show 1 / 256 = 0 from rfl, numE_zero]
  rfl
theorem alive_put : putT 8 aliveV = some [3, 0, 9, 1, 0, 2, 1, 44, 2, 0, 1, 97] := by
  simp [aliveV, putT, bodyT, onlyT, formsT, numE300, numE_zero, fitT, headT, TV.tag]
theorem alive_ok : OkT aliveV := .mk (by decide) (fun i v h => by
  match i with
  | 0 => simp at h; subst h; exact .mk (by decide) (by simp)
  | 1 => simp at h; subst h; exact .mk (by decide) (by simp)
  | i + 2 => simp at h)
theorem alive_read : readT 8 [3, 0, 9, 1, 0, 2, 1, 44, 2, 0, 1, 97] = some (aliveV, []) := by
  have h := alive_put
  unfold putT at h
  simp only [Option.map_eq_some_iff] at h
  obtain ⟨x, h1, h2⟩ := h
  have := read_put 8 aliveV x [] alive_ok h1
  rwa [List.append_nil, h2] at this
theorem bs_lit (w : World) (cs : Array Value) (t : TypeId) (fz : Nat × Nat) (n : Nat) (bs : List UInt8) (h : cs.toList = u8s bs) (hn : bs.length = n) : Bs (w.alloc (.cells cs t fz)) AnyB (some ⟨w.heap.size, 0, none⟩) n n bs := by
  refine ⟨hn, Nat.le_refl _, by rw [u8s_length, hn, Nat.mul_one], fun _ => ⟨_, rfl, trivial, fun j u hu => ?_⟩⟩
  rw [add_plain, cell_of_row _ _ _ _ _ _ (heap_alloc_new w _)]
  rw [← h] at hu
  simpa using hu
theorem reads_lit4 (w : World) (cs : Array Value) (t : TypeId) (n : Nat) (h : cs.size = n * 4) : Reads (w.alloc (.cells cs t)) AnyB 4 (some ⟨w.heap.size, 0, none⟩) n cs.toList :=
  ⟨by simpa using h, fun _ => ⟨_, rfl, trivial, fun j u hu => by rw [add_plain, World.cell?_alloc_new]; simpa using hu⟩⟩
/-- Two values laid one behind the other. -/
theorem lr_two {w : World} {q1 q2 : Quad} {v1 v2 : TV} (t : TypeId) (h1 : VR w AnyB q1 v1) (h2 : VR w AnyB q2 v2) :
    LR (w.alloc (.cells #[q1.a, q1.b, q1.c, q1.d, q2.a, q2.b, q2.c, q2.d] t)) AnyB (some ⟨w.heap.size, 0, none⟩) 2 2 [v1, v2] := by
  have hb : Below w.heap.size w (w.alloc (.cells #[q1.a, q1.b, q1.c, q1.d, q2.a, q2.b, q2.c, q2.d] t)) := (Below.refl _ _).alloc (Nat.le_refl _) _
  refine ⟨rfl, Nat.le_refl _, by omega, [q1, q2], rfl, reads_lit4 w _ t 2 rfl, fun i q v hq hv => ?_⟩
  match i with
  | 0 => simp at hq hv; subst hq; subst hv; exact h1.after hb
  | 1 => simp at hq hv; subst hq; subst hv; exact h2.after hb
  | i + 2 => simp at hq
set_option maxRecDepth 10000 in
set_option maxHeartbeats 1000000 in
theorem alive_any (w : World) : Calls Try.prog 19 #[] w fun e w' => e = .returned (.bool true) ∧ Below w.heap.size w w' := by
  have kc := fun (w : World) (C : Array Value) (n c : Nat) => Lib.run_convert_bytes_const (P := Try.prog) w 22 5 C n c Try.underlying22 Try.underlying5
  go_enter Try.func19, Try.ntmps19
  go_wp2_with fail
  refine (number_any 300 _).mono ?_
  rintro e w1 ⟨rfl, hb1⟩
  go_wp2_with fail
  refine (bytesV_any _ AnyB _ 1 1 [97] (bs_lit w1 #[.int .u8 97] 5 (1, 2) 1 [97] rfl rfl) (by omega)).mono ?_
  rintro e w2 ⟨q2, rfl, hv2, hb2⟩
  have hbl2 : Below w.heap.size w w2 := (hb1.alloc hb1.size _).trans (hb2.mono (by have := hb1.size; simp; omega))
  obtain ⟨u1, m1, x1, y1, P1, P2, i1, i2, i3, i4, rfl, hvv, -⟩ := hv2.opens
  cases hvv
  have hv1 : VR w2 AnyB ⟨.int .i64 1, .int .u64 ((300 : Nat) : Int), .slice none 0 0, .slice none 0 0⟩ (.mk 1 300 [] []) := VR.shut (by simp [u64ok]) (Bs.nil _ _ _) (by omega) (LR.nil _ _ _)
  have hL := Lib.hid (lr_two 27 hv1 hv2)
  dsimp only [Quad.agg]
  go_wp2_with fail
  refine (many_any _ AnyB _ 2 2 [.mk 1 300 [] [], .mk 2 0 [97] []] hL.out).mono ?_
  rintro e w3 ⟨q3, rfl, hv3, hb3⟩
  have hbl3 : Below w.heap.size w w3 := (hbl2.alloc hbl2.size _).trans (hb3.mono (by have := hbl2.size; simp; omega))
  obtain ⟨u3, m3, x3, y3, P3, P4, i5, i6, i7, i8, rfl, hvv, -⟩ := hv3.opens
  cases hvv
  have HP := put_any aliveV _ w3 _ hv3
  rw [alive_put] at HP
  have HPP : Hid (Calls Try.prog 45 #[.agg #[.int .i64 3, .int .u64 ((0 : Nat) : Int), .slice P3 i5 i6, .slice P4 i7 i8]] w3 fun e w' => ∃ A c, e = .returned (.tuple #[.slice A 12 c, .int .i64 0]) ∧ Bs w' (fun k => w3.heap.size ≤ k) A 12 c [3, 0, 9, 1, 0, 2, 1, 44, 2, 0, 1, 97] ∧ Below w3.heap.size w3 w') :=
    Lib.hid (HP.mono (by rintro e w4 ⟨A4, c4, rfl, hb4, -, hbe4⟩; exact ⟨A4, c4, rfl, hb4, hbe4⟩))
  clear HP
  dsimp only [Quad.agg]
  go_wp2_with fail
  refine (HPP.out).mono ?_
  rintro e w4 ⟨A4, c4, rfl, hb4, hbe4⟩
  have hbl4 := hbl3.trans (hbe4.mono hbl3.size)
  have HG := Lib.hid (get_some w4 _ _ _ _ _ aliveV hb4 (by simp) alive_read)
  go_wp2_with fail
  refine (HG.out).mono ?_
  rintro e w5 ⟨q5, rfl, hv5, hbe5⟩
  have hbl5 := hbl4.trans (hbe5.mono hbl4.size)
  obtain ⟨u5, m5, x5, y5, P5, P6, j5, j6, j7, j8, rfl, hvv, -, -, -, hl5⟩ := hv5.opens
  cases hvv
  have hlen : j7 = 2 := hl5.len.symm
  subst hlen
  obtain ⟨W6, hW6⟩ : ∃ W6, W6 = (w5.alloc (.cells #[.int .i64 3, .int .u64 0, .slice P5 j5 j6, .slice P6 2 j8] 27)).alloc (.cells #[.int .u8 3, .int .u8 0, .int .u8 9, .int .u8 1, .int .u8 0, .int .u8 2, .int .u8 1, .int .u8 44, .int .u8 2, .int .u8 0, .int .u8 1, .int .u8 97] 5) := ⟨_, rfl⟩
  have hb6 : Below w5.heap.size w5 W6 := by rw [hW6]; exact ((Below.refl _ _).alloc (Nat.le_refl _) _).alloc (by simp) _
  have hl6 := hl5.after hb6
  have hX : Blk W6 w5.heap.size 27 #[.int .i64 3, .int .u64 0, .slice P5 j5 j6, .slice P6 2 j8] := by rw [hW6]; exact (Blk.new _ _ _).alloc _
  have hlit : Bs W6 AnyB (some ⟨(w5.alloc (.cells #[.int .i64 3, .int .u64 0, .slice P5 j5 j6, .slice P6 2 j8] 27)).heap.size, 0, none⟩) 12 12 [3, 0, 9, 1, 0, 2, 1, 44, 2, 0, 1, 97] := by rw [hW6]; exact bs_lit _ _ _ _ _ _ rfl rfl
  rw [World.size_alloc] at hlit
  have hb46 := (hb4.after hbe5).after hb6
  have HE := Lib.hid (bytes_any W6 _ _ _ _ 12 12 _ _ _ _ hb46 hlit (by omega) (by omega))
  obtain ⟨ad, px, qx, vx, rfl, hpx, hvx, hrx, a0, a1, a2, a3, -, -⟩ := hl6.at_ (k := 0) (by omega)
  obtain rfl : px = ad := by rw [← hpx]; simp [Addr.add]
  obtain rfl : vx = .mk 1 300 [] [] := by have := hvx.out; simpa using this.symm
  obtain ⟨_, _, _, _, R1, R2, r1, r2, r3, r4, rfl, hvv, -⟩ := hrx.opens
  cases hvv
  obtain ⟨z0, z1, z2, z3, f0, f1, f2, f3, hz⟩ := hX.four
  have a1' : W6.cell? ⟨px.block, px.off + 1, none⟩ = some (.int .u64 300) := a1
  have HW := Lib.hid hW6
  clear hW6
  dsimp only [Quad.agg]
  go_wp2_with fail
  have hW6 := HW.out
  rw [← hW6]
  clear hW6 HW
  refine (HE.out).mono ?_
  rintro e w7 ⟨rfl, k, rfl⟩
  go_wp2_with fail
  go_ret
  exact ⟨rfl, below_drewN (hbl5.trans (hb6.mono hbl5.size)) _⟩
end Go.Proofs.Ytaebmhbggbpnoaa
namespace Go.Proofs.Ytaebmhbggbpnoaa
open Go.RowKit
/-- A node: its tag, how many are in it, its number, its bytes. -/
structure ND where
  tag : Int
  many : Int
  num : Nat
  bytes : List UInt8
/-- A node's cells. -/
def NDR (w : World) (S : Nat → Prop) (q : Quad) (x : ND) : Prop := ∃ (A2 : Option Addr) (n2 c2 : Nat), q = ⟨.int .i64 x.tag, .int .i64 x.many, .int .u64 (x.num : Int), .slice A2 n2 c2⟩ ∧ u64ok x.num ∧ (-9223372036854775808 ≤ x.many ∧ x.many ≤ 9223372036854775807) ∧ Bs w S A2 n2 c2 x.bytes ∧ n2 ≤ 9223372036854775807
/-- A list of nodes. -/
structure NR (w : World) (S : Nat → Prop) (A : Option Addr) (n c : Nat) (l : List ND) : Prop where
  len : l.length = n
  cap : n ≤ c
  few : n ≤ 9223372036854775807
  rd : ∃ qs : List Quad, qs.length = l.length ∧ Reads w S 4 A n (flat qs) ∧ ∀ (i : Nat) (q : Quad) (x : ND), qs[i]? = some q → l[i]? = some x → NDR w S q x
section
variable {w w' : World} {S S' : Nat → Prop} {A : Option Addr} {n c : Nat} {l : List ND}
theorem NDR.keep {q : Quad} {x : ND} (h : NDR w S q x) (hk : ∀ p : Addr, S p.block → p.block < w.heap.size → w'.cell? p = w.cell? p) (hS : ∀ k, S k → k < w.heap.size → S' k) : NDR w' S' q x := by
  obtain ⟨A2, n2, c2, e, hu, hm, hb, hn⟩ := h
  exact ⟨A2, n2, c2, e, hu, hm, hb.keep hk hS, hn⟩
theorem NR.keep (h : NR w S A n c l) (hk : ∀ p : Addr, S p.block → p.block < w.heap.size → w'.cell? p = w.cell? p) (hS : ∀ k, S k → k < w.heap.size → S' k) : NR w' S' A n c l := by
  obtain ⟨hl, hc, hf, qs, hq, hr, hv⟩ := h
  exact ⟨hl, hc, hf, qs, hq, hr.keep (by omega) hk hS, fun i q x h1 h2 => (hv i q x h1 h2).keep hk hS⟩
theorem NR.after (h : NR w S A n c l) (hb : Below w.heap.size w w') : NR w' S A n c l := h.keep (fun _ _ hp => hb.cell hp) (fun _ h _ => h)
theorem NR.old (h : NR w S A n c l) : NR w (Lo w.heap.size) A n c l := h.keep (fun _ _ _ => rfl) (fun _ _ h => h)
theorem NR.lower {B : Nat} (h : NR w (Lo B) A n c l) (hb : Below B w w') : NR w' (Lo B) A n c l := h.keep (fun _ hp _ => hb.cell hp) (fun _ h _ => h)
/-- An element of a list of nodes. -/
theorem NR.at_ (h : NR w S A n c l) {k : Nat} (hk : k < n) : ∃ ad x A2 n2 c2 y, A = some ad ∧ ad.add (k * 4) = x ∧ Hid (l[k]? = some y) ∧ u64ok y.num ∧ (-9223372036854775808 ≤ y.many ∧ y.many ≤ 9223372036854775807) ∧ Bs w S A2 n2 c2 y.bytes ∧ n2 ≤ 9223372036854775807 ∧
    w.cell? x = some (.int .i64 y.tag) ∧ w.cell? ⟨x.block, x.off + 1, none⟩ = some (.int .i64 y.many) ∧ w.cell? ⟨x.block, x.off + 2, none⟩ = some (.int .u64 (y.num : Int)) ∧ w.cell? ⟨x.block, x.off + 3, none⟩ = some (.slice A2 n2 c2) := by
  obtain ⟨hl, hc, hf, qs, hq, hr, hv⟩ := h
  obtain ⟨ad, e, hS, hcell⟩ := hr.2 (by omega)
  have hkl : k < l.length := by omega
  have hkq : k < qs.length := by omega
  have h1 := flat_at qs k qs[k] (List.getElem?_eq_getElem hkq)
  have c0 := hcell _ _ h1.1
  have e1 : ∀ j, ad.add (k * 4 + (j + 1)) = ⟨(ad.add (k * 4)).block, (ad.add (k * 4)).off + (j + 1), none⟩ := fun j => by rw [← add_of_add, Addr.add_succ']
  obtain ⟨A2, n2, c2, he, hu, hm, hb, hn⟩ := hv k _ _ (List.getElem?_eq_getElem hkq) (List.getElem?_eq_getElem hkl)
  have c1 := hcell _ _ h1.2.1
  have c2' := hcell _ _ h1.2.2.1
  have c3 := hcell _ _ h1.2.2.2
  rw [he] at c0 c1 c2' c3
  refine ⟨ad, _, A2, n2, c2, l[k], e, rfl, List.getElem?_eq_getElem hkl, hu, hm, hb, hn, c0, ?_, ?_, ?_⟩
  · rw [← e1 0]; exact c1
  · rw [← e1 1]; exact c2'
  · rw [← e1 2]; exact c3
/-- A list from a place on. -/
theorem NR.from_ (h : NR w S A n c l) (lo : Int) (j k : Nat) (hl : lo = (j : Int)) (hk : j + k = n) :
    ∃ A' c', (∀ W, (Instr.sliceAt 65 (.slice A n c) (some (.int .i64 lo)) none none).run Try.prog W = .ok (.slice A' k c') W) ∧ NR w S A' k c' (l.drop j) := by
  obtain ⟨i0, hi0, _, hz1, _⟩ := info_parts (show (Try.prog.info? 175).map (fun i => (i.zero, i.size, i.bytes)) = some (some (.agg #[.int .i64 0, .int .i64 0, .int .u64 0, .slice none 0 0]), 4, 48) by kernel_rfl)
  refine ⟨_, _, run_cut_from Try.underlying65 hi0 hz1 A n c lo j k hl hk, ?_⟩
  obtain ⟨hll, hc, hf, qs, hq, hr, hv⟩ := h
  refine ⟨by rw [List.length_drop]; omega, by omega, by omega, qs.drop j, by rw [List.length_drop, List.length_drop, hq], ?_, fun i q x h1 h2 => hv (j + i) q x (by rw [← h1, List.getElem?_drop]) (by rw [← h2, List.getElem?_drop])⟩
  have h1 := hr.drop (k := j) (cap := c) (by omega) hc
  have h2 : (flat qs).drop (j * 4) = flat (qs.drop j) := by
    have e : flat qs = flat (qs.take j) ++ flat (qs.drop j) := by rw [← flat_append, List.take_append_drop]
    rw [e, List.drop_append_of_le_length (by rw [flat_length, List.length_take]; omega), List.drop_eq_nil_of_le (by rw [flat_length, List.length_take]; omega)]
    rfl
  rw [h2, show n - j = k from by omega] at h1
  exact h1
end
/-- Are nodes few, and short? -/
def lightB (l : List ND) : Bool := decide (l.length ≤ 40) && l.all fun x => decide (x.bytes.length ≤ 3000)
set_option maxRecDepth 10000 in
set_option maxHeartbeats 2000000 in
theorem light_any (w : World) (S : Nat → Prop) (A : Option Addr) (n c : Nat) (l : List ND) (h : NR w S A n c l) : Calls Try.prog 43 #[.slice A n c] w fun e w' => e = .returned (.bool (lightB l)) ∧ Below w.heap.size w w' := by
  have hf := h.few
  have hln := h.len
  by_cases hn : n ≤ 40
  · have hn' : ¬ (40 : Int) < (n : Int) := by omega
    have hb : lightB l = l.all fun x => decide (x.bytes.length ≤ 3000) := by unfold lightB; rw [hln]; simp [hn]
    rw [hb]
    have HLN := Lib.hid hln
    clear hb hln
    go_enter Try.func43, Try.ntmps43
    go_wp2_with fail
    go_loopw [3] (fun i wr => ∃ k : Nat, k ≤ n ∧ i = .int .i64 (k : Int) ∧ Hid ((l.take k).all (fun x => decide (x.bytes.length ≤ 3000)) = true) ∧ wr = w) (fun i _ => n - (intOf i).toNat)
    case atStart => exact ⟨0, Nat.zero_le _, rfl, Lib.hid (by simp), rfl⟩
    case round =>
      obtain ⟨k, hk, rfl, hal, rfl⟩ := hrel
      by_cases hlt : k < n
      · obtain ⟨ad, x, A2, n2, c2, y, rfl, hx, hy, -, -, hbs, hn2, y0, y1, y2, y3⟩ := h.at_ hlt
        have hlt' : (k : Int) < (n : Int) := by omega
        have hbl := hbs.len
        by_cases hs : n2 ≤ 3000
        · have hs' : ¬ (3000 : Int) < (n2 : Int) := by omega
          have hal' : Hid ((l.take (k + 1)).all (fun x => decide (x.bytes.length ≤ 3000)) = true) := Lib.hid (by rw [take_snoc hy.out, List.all_append, hal.out]; simp; omega)
          clear hbl hs
          go_wp2_with fail
          exact ⟨⟨k + 1, by omega, by go_num, hal', trivial⟩, by simp [intOf]; omega⟩
        · have hs' : (3000 : Int) < (n2 : Int) := by omega
          have hR : Hid ((l.all fun x => decide (x.bytes.length ≤ 3000)) = false) := Lib.hid (by
            rw [List.all_eq_false]
            exact ⟨y, List.mem_of_getElem? hy.out, by simp; omega⟩)
          clear hbl hs
          go_wp2_with fail
          go_ret
          exact ⟨ret_bool hR.out.symm, Below.refl _ _⟩
      · obtain rfl : k = n := by omega
        have hR : Hid ((l.all fun x => decide (x.bytes.length ≤ 3000)) = true) := Lib.hid (by
          have := hal.out
          rwa [List.take_of_length_le (by rw [HLN.out]; exact Nat.le_refl _)] at this)
        go_wp2_with fail
        go_ret
        exact ⟨ret_bool hR.out.symm, Below.refl _ _⟩
  · have hn' : (40 : Int) < (n : Int) := by omega
    have hb : lightB l = false := by unfold lightB; rw [hln]; simp [hn]
    rw [hb]
    clear hb hln hn
    go_enter Try.func43, Try.ntmps43
    go_wp2_with fail
    go_ret
    exact ⟨rfl, Below.refl _ _⟩
end Go.Proofs.Ytaebmhbggbpnoaa
