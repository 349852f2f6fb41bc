/- Walks of the plain reading of a value (hayloftref01.read): numbers, bytes. Conditions: each theorem's premises. -/
import Derived.Test.YtaebmhbggbpnoaaTlv6
namespace Go.Proofs.Ytaebmhbggbpnoaa
open Go.RowKit
/-- What the plain reading leaves: n bytes came in. -/
def RReadPost (w : World) (n : Nat) : Option (TV × List UInt8) → Ending → World → Prop
  | none => fun e w' => e = .returned (.tuple #[.agg #[.int .i64 0, .int .u64 0, .slice none 0 0, .slice none 0 0], .int .i64 0]) ∧ Below w.heap.size w w'
  | some (v, rest) => fun e w' => ∃ (q : Quad) (k : Nat), e = .returned (.tuple #[q.agg, .int .i64 (k : Int)]) ∧ k + rest.length = n ∧ 3 ≤ k ∧ VR w' (fun k => w.heap.size ≤ k) q v ∧ Below w.heap.size w w'
/-- The last steps: the box is laid out, and read. -/
theorem rread_end {w W : World} {q : Quad} {v : TV} {rest : List UInt8} {n k : Nat} {kk : Int} (hkk : kk = (k : Int)) (hb : Below w.heap.size w W) (hv : VR W (fun k => w.heap.size < k) q v) (hk : k + rest.length = n) (h3 : 3 ≤ k) (a b c' d : Value) :
    RReadPost w n (some (v, rest)) (.returned (.tuple #[q.agg, .int .i64 kk])) ((((W.setCell ⟨w.heap.size, 0, none⟩ a).setCell ⟨w.heap.size, 1, none⟩ b).setCell ⟨w.heap.size, 2, none⟩ c').setCell ⟨w.heap.size, 3, none⟩ d) :=
  ⟨q, k, by rw [hkk], hk, h3, hv.keep (fun p hp _ => set4_other _ _ _ _ _ _ p (by omega)) (fun k hk _ => by omega), set4_below hb _ (Nat.le_refl _) _ _ _ _⟩
set_option maxRecDepth 10000 in
set_option maxHeartbeats 2000000 in
theorem rread_num0 (d : Nat) (w : World) (S : Nat → Prop) (A : Option Addr) (n c : Nat) (t h l : UInt8) (xs : List UInt8) (hx : Bs w S A n c (t :: h :: l :: xs)) (hn : n ≤ 1000000000) (hlt : ¬ xs.length < h.toNat * 256 + l.toNat) (h1 : t = 1) (h0 : h.toNat * 256 + l.toNat = 0) :
    Calls Try.prog 89 #[.slice A n c, .int .i64 (d : Int)] w (RReadPost w n (some (.mk 1 0 [] [], xs))) := by
  have hl := hx.len
  simp only [List.length_cons] at hl
  have h3 : ¬ n < 3 := by omega
  obtain ⟨ad, b0, rfl, e0, c0⟩ := hx.at0 (by omega)
  obtain ⟨_, b1, he, e1, c1⟩ := hx.atS 0 (by omega)
  cases he
  obtain ⟨_, b2, he, e2, c2⟩ := hx.atS 1 (by omega)
  cases he
  obtain rfl : t = b0 := by simpa using e0.out
  obtain rfl : h = b1 := by simpa using e1.out
  obtain rfl : l = b2 := by simpa using e2.out
  have hadb : ad.block < w.heap.size := by
    obtain ⟨ad', he, h', _⟩ := hx.oldS.rd.2 (by omega)
    cases he
    exact h'.2
  have c0' : (w.alloc (.cells #[.int .i64 0, .int .u64 0, .slice none 0 0, .slice none 0 0] 33)).cell? ad = _ := (World.cell?_alloc_lt _ _ _ hadb).trans c0
  have n1 : ((1:Int) < (n : Int)) := by omega
  have n2 : ((2:Int) < (n : Int)) := by omega
  have n0 : ((0:Int) < (n : Int)) := by omega
  have u1 := u8_lt h
  have u2 := u8_lt l
  have u0 := u8_lt t
  obtain ⟨m, hm0⟩ : ∃ m, m = h.toNat * 256 + l.toNat := ⟨_, rfl⟩
  have hm : (h.toNat : Int) * 256 + (l.toNat : Int) = (m : Int) := by omega
  have hm16 : m ≤ 65535 := by have := h.toNat_lt; have := l.toNat_lt; omega
  rw [← hm0] at hlt
  have Hm0 := Lib.hid hm0
  have d1 : decide ((n : Int) < 3 + (m : Int)) = false := by simp; omega
  have hblk := Blk.new w 33 #[.int .i64 0, .int .u64 0, .slice none 0 0, .slice none 0 0]
  have hb0 : Below w.heap.size w (w.alloc (.cells #[.int .i64 0, .int .u64 0, .slice none 0 0, .slice none 0 0] 33)) := (Below.refl _ _).alloc (Nat.le_refl _) _
  obtain ⟨A1, k1, s1, r1⟩ := hx.oldS.cut 3 (3 + (m : Int)) 3 m rfl rfl (by omega)
  simp only [List.drop_succ_cons, List.drop_zero] at r1
  have ht : (t.toNat : Int) = 1 := by subst h1; rfl
  rw [← hm0] at h0
  have Hlen : Hid (3 + m + xs.length = n) := Lib.hid (by omega)
  have q0 : ¬ (0 : Int) < (m : Int) := by omega
  have q8 : ¬ (8 : Int) < (m : Int) := by omega
  clear h0
  clear hl hlt e0 e1 e2 hm0
  go_enter Try.func89, Try.ntmps89
  go_wp2_with fail
  go_quiet (fail)
  obtain ⟨W, hW⟩ : ∃ W, W = (w.alloc (.cells #[.int .i64 0, .int .u64 0, .slice none 0 0, .slice none 0 0] 33)).drewN nq := ⟨_, rfl⟩
  have hR : Blk W w.heap.size 33 #[.int .i64 0, .int .u64 0, .slice none 0 0, .slice none 0 0] := by rw [hW]; exact hblk.drewN _
  have hbW : Below w.heap.size w W := by rw [hW]; exact below_drewN hb0 _
  have cW : W.cell? ad = some (.int .u8 (t.toNat : Int)) := (hbW.cell hadb).trans c0
  have rW := r1.under (fun k h => h.2) hbW
  rw [← hW]
  clear hW hblk hb0 c0 c0' c1 c2 r1 hx
  obtain ⟨z0, z1, z2, z3, f0, f1, f2, f3, hz⟩ := hR.four
  rw [ht] at cW
  clear ht u0
  have hB := Blk.new W 33 #[.int .i64 1, .int .u64 0, .slice none 0 0, .slice none 0 0]
  go_wp2_with fail
  refine wp_loop_rounds 1 ?_
  rw [rounds_succ]
  go_wp2_with fail
  refine bodyPost_ret (results_cell2 rfl rfl (load33 ((set4_blk hR _ _ _ _).alloc _))) rfl ?_
  exact ⟨⟨.int .i64 1, .int .u64 ((0 : Nat) : Int), .slice none 0 0, .slice none 0 0⟩, 3 + m, by simp [Quad.agg], Hlen.out, by omega, VR.shut (tag := 1) (n := 0) (by simp [u64ok]) (Bs.nil _ _ _) (by omega) (LR.nil _ _ _), (set4_below hbW _ (Nat.le_refl _) _ _ _ _).alloc (by simp; omega) _⟩
set_option maxRecDepth 10000 in
set_option maxHeartbeats 2000000 in
theorem rread_num1 (d : Nat) (w : World) (S : Nat → Prop) (A : Option Addr) (n c : Nat) (t h l : UInt8) (xs : List UInt8) (hx : Bs w S A n c (t :: h :: l :: xs)) (hn : n ≤ 1000000000) (hlt : ¬ xs.length < h.toNat * 256 + l.toNat) (h1 : t = 1) (h8 : ¬ 8 < h.toNat * 256 + l.toNat) (hp : 0 < h.toNat * 256 + l.toNat) (h0 : xs.head? ≠ some 0) :
    Calls Try.prog 89 #[.slice A n c, .int .i64 (d : Int)] w (RReadPost w n (some (.mk 1 (bigE (xs.take (h.toNat * 256 + l.toNat))) [] [], xs.drop (h.toNat * 256 + l.toNat)))) := by
  have hl := hx.len
  simp only [List.length_cons] at hl
  have h3 : ¬ n < 3 := by omega
  obtain ⟨ad, b0, rfl, e0, c0⟩ := hx.at0 (by omega)
  obtain ⟨_, b1, he, e1, c1⟩ := hx.atS 0 (by omega)
  cases he
  obtain ⟨_, b2, he, e2, c2⟩ := hx.atS 1 (by omega)
  cases he
  obtain rfl : t = b0 := by simpa using e0.out
  obtain rfl : h = b1 := by simpa using e1.out
  obtain rfl : l = b2 := by simpa using e2.out
  have hadb : ad.block < w.heap.size := by
    obtain ⟨ad', he, h', _⟩ := hx.oldS.rd.2 (by omega)
    cases he
    exact h'.2
  have c0' : (w.alloc (.cells #[.int .i64 0, .int .u64 0, .slice none 0 0, .slice none 0 0] 33)).cell? ad = _ := (World.cell?_alloc_lt _ _ _ hadb).trans c0
  have n1 : ((1:Int) < (n : Int)) := by omega
  have n2 : ((2:Int) < (n : Int)) := by omega
  have n0 : ((0:Int) < (n : Int)) := by omega
  have u1 := u8_lt h
  have u2 := u8_lt l
  have u0 := u8_lt t
  obtain ⟨m, hm0⟩ : ∃ m, m = h.toNat * 256 + l.toNat := ⟨_, rfl⟩
  have hm : (h.toNat : Int) * 256 + (l.toNat : Int) = (m : Int) := by omega
  have hm16 : m ≤ 65535 := by have := h.toNat_lt; have := l.toNat_lt; omega
  rw [← hm0] at hlt
  have Hm0 := Lib.hid hm0
  have d1 : decide ((n : Int) < 3 + (m : Int)) = false := by simp; omega
  have hblk := Blk.new w 33 #[.int .i64 0, .int .u64 0, .slice none 0 0, .slice none 0 0]
  have hb0 : Below w.heap.size w (w.alloc (.cells #[.int .i64 0, .int .u64 0, .slice none 0 0, .slice none 0 0] 33)) := (Below.refl _ _).alloc (Nat.le_refl _) _
  obtain ⟨A1, k1, s1, r1⟩ := hx.oldS.cut 3 (3 + (m : Int)) 3 m rfl rfl (by omega)
  simp only [List.drop_succ_cons, List.drop_zero] at r1
  have ht : (t.toNat : Int) = 1 := by subst h1; rfl
  rw [← hm0] at h8 hp
  have Hlen : Hid (3 + m + (xs.drop m).length = n) := Lib.hid (by simp; omega)
  have q0 : (0 : Int) < (m : Int) := by omega
  have q8 : ¬ (8 : Int) < (m : Int) := by omega
  have H0 := Lib.hid h0
  rw [← hm0]
  clear h0
  have hil : Hid ((xs.take m).length = m) := Lib.hid r1.len
  obtain ⟨inn, hinn⟩ : ∃ inn, inn = xs.take m := ⟨_, rfl⟩
  have H0' : Hid (inn.head? ≠ some 0) := Lib.hid (by
    rw [hinn]
    cases xs with
    | nil => simp
    | cons x xs =>
      cases m with
      | zero => simp
      | succ m => simpa using H0.out)
  rw [← hinn] at r1 hil ⊢
  clear H0 hinn
  clear hl hlt e0 e1 e2 hm0
  go_enter Try.func89, Try.ntmps89
  go_wp2_with fail
  go_quiet (fail)
  obtain ⟨W, hW⟩ : ∃ W, W = (w.alloc (.cells #[.int .i64 0, .int .u64 0, .slice none 0 0, .slice none 0 0] 33)).drewN nq := ⟨_, rfl⟩
  have hR : Blk W w.heap.size 33 #[.int .i64 0, .int .u64 0, .slice none 0 0, .slice none 0 0] := by rw [hW]; exact hblk.drewN _
  have hbW : Below w.heap.size w W := by rw [hW]; exact below_drewN hb0 _
  have cW : W.cell? ad = some (.int .u8 (t.toNat : Int)) := (hbW.cell hadb).trans c0
  have rW := r1.under (fun k h => h.2) hbW
  rw [← hW]
  clear hW hblk hb0 c0 c0' c1 c2 r1 hx
  obtain ⟨z0, z1, z2, z3, f0, f1, f2, f3, hz⟩ := hR.four
  rw [ht] at cW
  clear ht u0
  obtain ⟨ad1, y, rfl, hy0, hc0⟩ := rW.at0 hp
  have hyne : ((y.toNat : Int) == 0) = false := by
    have h1 := hy0.out
    have h2 := H0'.out
    cases inn with
    | nil => simp at h1
    | cons x xs => simp at h1 h2; subst h1; simp; exact fun e => h2 (UInt8.toNat_inj.1 (by simpa using e))
  have hadb1 : ad1.block < w.heap.size := by
    obtain ⟨ad', he, h', _⟩ := rW.rd.2 hp
    cases he
    exact h'.2
  have hlt1 : ad1.block < W.heap.size := by omega
  clear hy0
  go_wp2_with fail
  go_loopw [9] (fun i wr => ∃ k : Nat, k ≤ m ∧ i = .int .i64 k ∧ Hid (Blk wr W.heap.size 33 #[.int .i64 1, .int .u64 (bigE (inn.take k) : Int), .slice none 0 0, .slice none 0 0]) ∧ Hid (Below W.heap.size W wr)) (fun i _ => m - (intOf i).toNat)
  case atStart => exact ⟨0, Nat.zero_le _, rfl, Lib.hid (Blk.new W 33 _), Lib.hid ((Below.refl _ _).alloc (Nat.le_refl _) _)⟩
  case round =>
    clear z0 z1 z2 z3 f0 f1 f2 f3 hc0 cW
    obtain ⟨k, hk, rfl, hB, hbr⟩ := hrel
    obtain ⟨z0, z1, z2, z3, f0, f1, f2, f3, hz'⟩ := hB.out.four
    by_cases hlt : k < m
    · obtain ⟨ad', b', he, hb', hc'⟩ := (rW.after hbr.out).at_ hlt
      cases he
      have hu := u8_lt b'
      have hle : bigE (inn.take k) ≤ 72057594037927935 := bigE_le (by omega)
      have hsn := Lib.hid (bigE_take hb'.out)
      obtain ⟨N, hN⟩ : ∃ N, N = bigE (inn.take k) := ⟨_, rfl⟩
      rw [← hN] at hle hsn hB z1
      have hsum : (N : Int) * 256 + (b'.toNat : Int) = ((bigE (inn.take (k + 1)) : Nat) : Int) := by rw [hsn.out]; omega
      have hlt2 : (k : Int) < (m : Int) := by omega
      clear hN
      go_wp2_with fail
      go_region
      go_wp2_with fail
      refine ⟨⟨k + 1, by omega, by go_num, Lib.hid ?_, Lib.hid (hbr.out.setCell (p := ⟨W.heap.size, 1, none⟩) (Nat.le_refl _) _).drew⟩, by simp [intOf]; omega⟩
      exact (hB.out.set_ 1 _).drew
    · obtain rfl : k = m := by omega
      have e : inn.take k = inn := List.take_of_length_le (by have := hil.out; omega)
      rw [e] at hB z1
      have hok := bigE_ok (show inn.length ≤ 8 by have := hil.out; omega)
      have hbb : Below w.heap.size w wr := hbW.trans (hbr.out.mono (by omega))
      have hR2 := hR.after hbr.out
      generalize hN : bigE inn = N at z1
      have HN := Lib.hid hN
      clear hN hB
      obtain ⟨y0, y1, y2, y3, g0, g1, g2, g3, hy⟩ := hR2.four
      go_wp2_with fail
      refine bodyPost_ret (results_cell2 rfl rfl (load33 (set4_blk hR2 _ _ _ _))) rfl ?_
      rw [← HN.out]
      exact rread_end (k := 3 + k) (kk := 3 + (k : Int)) (by omega) hbb (VR.shut (tag := 1) hok (Bs.nil _ _ _) (by omega) (LR.nil _ _ _)) Hlen.out (by omega) _ _ _ _
set_option maxRecDepth 10000 in
set_option maxHeartbeats 2000000 in
theorem rread_bytes (d : Nat) (w : World) (S : Nat → Prop) (A : Option Addr) (n c : Nat) (t h l : UInt8) (xs : List UInt8) (hx : Bs w S A n c (t :: h :: l :: xs)) (hn : n ≤ 1000000000) (hlt : ¬ xs.length < h.toNat * 256 + l.toNat) (h1 : t = 2) :
    Calls Try.prog 89 #[.slice A n c, .int .i64 (d : Int)] w (RReadPost w n (some (.mk 2 0 (xs.take (h.toNat * 256 + l.toNat)) [], xs.drop (h.toNat * 256 + l.toNat)))) := by
  have hl := hx.len
  simp only [List.length_cons] at hl
  have h3 : ¬ n < 3 := by omega
  obtain ⟨ad, b0, rfl, e0, c0⟩ := hx.at0 (by omega)
  obtain ⟨_, b1, he, e1, c1⟩ := hx.atS 0 (by omega)
  cases he
  obtain ⟨_, b2, he, e2, c2⟩ := hx.atS 1 (by omega)
  cases he
  obtain rfl : t = b0 := by simpa using e0.out
  obtain rfl : h = b1 := by simpa using e1.out
  obtain rfl : l = b2 := by simpa using e2.out
  have hadb : ad.block < w.heap.size := by
    obtain ⟨ad', he, h', _⟩ := hx.oldS.rd.2 (by omega)
    cases he
    exact h'.2
  have c0' : (w.alloc (.cells #[.int .i64 0, .int .u64 0, .slice none 0 0, .slice none 0 0] 33)).cell? ad = _ := (World.cell?_alloc_lt _ _ _ hadb).trans c0
  have n1 : ((1:Int) < (n : Int)) := by omega
  have n2 : ((2:Int) < (n : Int)) := by omega
  have n0 : ((0:Int) < (n : Int)) := by omega
  have u1 := u8_lt h
  have u2 := u8_lt l
  have u0 := u8_lt t
  obtain ⟨m, hm0⟩ : ∃ m, m = h.toNat * 256 + l.toNat := ⟨_, rfl⟩
  have hm : (h.toNat : Int) * 256 + (l.toNat : Int) = (m : Int) := by omega
  have hm16 : m ≤ 65535 := by have := h.toNat_lt; have := l.toNat_lt; omega
  rw [← hm0] at hlt
  have Hm0 := Lib.hid hm0
  have d1 : decide ((n : Int) < 3 + (m : Int)) = false := by simp; omega
  have hblk := Blk.new w 33 #[.int .i64 0, .int .u64 0, .slice none 0 0, .slice none 0 0]
  have hb0 : Below w.heap.size w (w.alloc (.cells #[.int .i64 0, .int .u64 0, .slice none 0 0, .slice none 0 0] 33)) := (Below.refl _ _).alloc (Nat.le_refl _) _
  obtain ⟨A1, k1, s1, r1⟩ := hx.oldS.cut 3 (3 + (m : Int)) 3 m rfl rfl (by omega)
  simp only [List.drop_succ_cons, List.drop_zero] at r1
  have ht : (t.toNat : Int) = 2 := by subst h1; rfl
  have Hlen : Hid (3 + m + (xs.drop m).length = n) := Lib.hid (by simp; omega)
  rw [← hm0]
  generalize xs.take m = inn at r1 ⊢
  clear hl hlt e0 e1 e2 hm0
  go_enter Try.func89, Try.ntmps89
  go_wp2_with fail
  go_quiet (fail)
  obtain ⟨W, hW⟩ : ∃ W, W = (w.alloc (.cells #[.int .i64 0, .int .u64 0, .slice none 0 0, .slice none 0 0] 33)).drewN nq := ⟨_, rfl⟩
  have hR : Blk W w.heap.size 33 #[.int .i64 0, .int .u64 0, .slice none 0 0, .slice none 0 0] := by rw [hW]; exact hblk.drewN _
  have hbW : Below w.heap.size w W := by rw [hW]; exact below_drewN hb0 _
  have cW : W.cell? ad = some (.int .u8 (t.toNat : Int)) := (hbW.cell hadb).trans c0
  have rW := r1.under (fun k h => h.2) hbW
  rw [← hW]
  clear hW hblk hb0 c0 c0' c1 c2 r1 hx
  obtain ⟨z0, z1, z2, z3, f0, f1, f2, f3, hz⟩ := hR.four
  rw [ht] at cW
  clear ht u0
  have hrw2 := rW.after (w' := W.alloc (.cells #[.int .i64 2, .int .u64 0, .slice none 0 0, .slice none 0 0] 33)) ((Below.refl _ _).alloc (Nat.le_refl _) _)
  have hB := (Blk.new W 33 #[.int .i64 2, .int .u64 0, .slice none 0 0, .slice none 0 0])
  have hbA : Below w.heap.size w (W.alloc (.cells #[.int .i64 2, .int .u64 0, .slice none 0 0, .slice none 0 0] 33)) := hbW.alloc (Nat.le_of_lt hz) _
  have hRA := hR.alloc (.cells #[.int .i64 2, .int .u64 0, .slice none 0 0, .slice none 0 0] 33)
  clear rW
  go_wp2_with (at_builtin; go_must ((refine wpList_append_u8 (A := A1) (m := m) (c := k1) (ys := inn) (v := .slice none 0 0) (n := 0) (xs := []) (base := W.heap.size + 1) rfl (.tmp 78) (.tmp 79) rfl rfl (World.ownsRow_nil _ _ _ _) rfl hrw2 (by omega) (by simp) ?_; intro v1 w1 hown hg hat; simp only [Nat.zero_add, List.nil_append] at hown; obtain ⟨A3, c3, rfl, hc3⟩ := own_shape hown; obtain ⟨y0, y1, y2, y3, g0, g1, g2, g3, hy⟩ := (hB.grown hg (by simp [Value.ownBlock])).four; have hR2 := (hRA.grown hg (by simp [Value.ownBlock])); obtain ⟨z0, z1, z2, z3, f0, f1, f2, f3, hz2⟩ := hR2.four; have hne1 : ¬ W.heap.size = w.heap.size := (by omega); have hne2 : ¬ w.heap.size = W.heap.size := (by omega))))
  have hR3 := hR2.far (p := ⟨W.heap.size, 2, none⟩) (by dsimp only; omega) (.slice A3 m c3)
  refine bodyPost_ret (results_cell2 rfl rfl (load33 (set4_blk hR3 _ _ _ _))) rfl ?_
  obtain ⟨_, _, he, hbs⟩ := own_bs hown
  cases he
  have hb1 : Below w.heap.size w w1 := hbA.grown hg (by simp; omega) (by simp [Value.ownBlock])
  exact rread_end (k := 3 + m) (kk := 3 + (m : Int)) (by omega) (hb1.setCell (p := ⟨W.heap.size, 2, none⟩) (Nat.le_of_lt hz) _) (VR.shut (tag := 2) (n := 0) (by simp [u64ok]) (hbs.keep (fun p hp _ => World.cell?_setCell_other _ _ _ _ (fun e => by subst e; simp at hp; omega)) (fun k hk _ => by omega)) (by omega) (LR.nil _ _ _)) Hlen.out (by omega) _ _ _ _
end Go.Proofs.Ytaebmhbggbpnoaa
