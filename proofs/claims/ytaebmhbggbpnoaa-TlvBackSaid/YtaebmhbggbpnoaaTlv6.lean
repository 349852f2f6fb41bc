/- Walks of the plain reading of a value (hayloftref01.read): what is none. Conditions: each theorem's premises. -/
import Derived.Test.YtaebmhbggbpnoaaTlv5
namespace Go.Proofs.Ytaebmhbggbpnoaa
open Go.RowKit
set_option maxRecDepth 10000 in
set_option maxHeartbeats 1000000 in
theorem rread_short (d : Nat) (w : World) (A : Option Addr) (n c : Nat) (hn : n < 3) :
    Calls Try.prog 89 #[.slice A n c, .int .i64 (d : Int)] w fun e w' => e = .returned (.tuple #[.agg #[.int .i64 0, .int .u64 0, .slice none 0 0, .slice none 0 0], .int .i64 0]) ∧ Below w.heap.size w w' := by
  have hblk := Blk.new w 33 #[.int .i64 0, .int .u64 0, .slice none 0 0, .slice none 0 0]
  go_enter Try.func89, Try.ntmps89
  go_wp2_with fail
  exact bodyPost_ret (results_cell2 rfl rfl (load33 hblk)) rfl ⟨rfl, (Below.refl _ _).alloc (Nat.le_refl _) _⟩
set_option maxRecDepth 10000 in
set_option maxHeartbeats 1000000 in
theorem rread_long (d : Nat) (w : World) (S : Nat → Prop) (A : Option Addr) (n c : Nat) (t h l : UInt8) (xs : List UInt8) (hx : Bs w S A n c (t :: h :: l :: xs)) (hn : n ≤ 1000000000) (hlt : xs.length < h.toNat * 256 + l.toNat) :
    Calls Try.prog 89 #[.slice A n c, .int .i64 (d : Int)] w fun e w' => e = .returned (.tuple #[.agg #[.int .i64 0, .int .u64 0, .slice none 0 0, .slice none 0 0], .int .i64 0]) ∧ Below w.heap.size w w' := by
  have hl := hx.len
  simp only [List.length_cons] at hl
  have h3 : ¬ n < 3 := by omega
  obtain ⟨ad, b0, rfl, e0, c0⟩ := hx.at0 (by omega)
  obtain ⟨_, b1, he, e1, c1⟩ := hx.atS 0 (by omega)
  cases he
  obtain ⟨_, b2, he, e2, c2⟩ := hx.atS 1 (by omega)
  cases he
  obtain rfl : t = b0 := by simpa using e0.out
  obtain rfl : h = b1 := by simpa using e1.out
  obtain rfl : l = b2 := by simpa using e2.out
  have hadb : ad.block < w.heap.size := by
    obtain ⟨ad', he, h', _⟩ := hx.oldS.rd.2 (by omega)
    cases he
    exact h'.2
  have c0' : (w.alloc (.cells #[.int .i64 0, .int .u64 0, .slice none 0 0, .slice none 0 0] 33)).cell? ad = _ := (World.cell?_alloc_lt _ _ _ hadb).trans c0
  have n1 : ((1:Int) < (n : Int)) := by omega
  have n2 : ((2:Int) < (n : Int)) := by omega
  have n0 : ((0:Int) < (n : Int)) := by omega
  have u1 := u8_lt h
  have u2 := u8_lt l
  have u0 := u8_lt t
  obtain ⟨m, hm0⟩ : ∃ m, m = h.toNat * 256 + l.toNat := ⟨_, rfl⟩
  have hm : (h.toNat : Int) * 256 + (l.toNat : Int) = (m : Int) := by omega
  have hm16 : m ≤ 65535 := by have := h.toNat_lt; have := l.toNat_lt; omega
  rw [← hm0] at hlt
  have Hm0 := Lib.hid hm0
  have d1 : decide ((n : Int) < 3 + (m : Int)) = true := by simp; omega
  have hblk := Blk.new w 33 #[.int .i64 0, .int .u64 0, .slice none 0 0, .slice none 0 0]
  clear hl hlt e0 e1 e2 hm0
  go_enter Try.func89, Try.ntmps89
  go_wp2_with fail
  go_quiet (fail)
  go_wp2_with fail
  exact bodyPost_ret (results_cell2 rfl rfl (load33 (set4_blk (hblk.drewN _) _ _ _ _))) rfl ⟨rfl, set4_below (below_drewN ((Below.refl _ _).alloc (Nat.le_refl _) _) _) _ (Nat.le_refl _) _ _ _ _⟩
set_option maxRecDepth 10000 in
set_option maxHeartbeats 2000000 in
theorem rread_other (d : Nat) (w : World) (S : Nat → Prop) (A : Option Addr) (n c : Nat) (t h l : UInt8) (xs : List UInt8) (hx : Bs w S A n c (t :: h :: l :: xs)) (hn : n ≤ 1000000000) (hlt : ¬ xs.length < h.toNat * 256 + l.toNat) (h1 : t ≠ 1) (h2 : t ≠ 2) (h3' : t ≠ 3) :
    Calls Try.prog 89 #[.slice A n c, .int .i64 (d : Int)] w fun e w' => e = .returned (.tuple #[.agg #[.int .i64 0, .int .u64 0, .slice none 0 0, .slice none 0 0], .int .i64 0]) ∧ Below w.heap.size w w' := by
  have hl := hx.len
  simp only [List.length_cons] at hl
  have h3 : ¬ n < 3 := by omega
  obtain ⟨ad, b0, rfl, e0, c0⟩ := hx.at0 (by omega)
  obtain ⟨_, b1, he, e1, c1⟩ := hx.atS 0 (by omega)
  cases he
  obtain ⟨_, b2, he, e2, c2⟩ := hx.atS 1 (by omega)
  cases he
  obtain rfl : t = b0 := by simpa using e0.out
  obtain rfl : h = b1 := by simpa using e1.out
  obtain rfl : l = b2 := by simpa using e2.out
  have hadb : ad.block < w.heap.size := by
    obtain ⟨ad', he, h', _⟩ := hx.oldS.rd.2 (by omega)
    cases he
    exact h'.2
  have c0' : (w.alloc (.cells #[.int .i64 0, .int .u64 0, .slice none 0 0, .slice none 0 0] 33)).cell? ad = _ := (World.cell?_alloc_lt _ _ _ hadb).trans c0
  have n1 : ((1:Int) < (n : Int)) := by omega
  have n2 : ((2:Int) < (n : Int)) := by omega
  have n0 : ((0:Int) < (n : Int)) := by omega
  have u1 := u8_lt h
  have u2 := u8_lt l
  have u0 := u8_lt t
  obtain ⟨m, hm0⟩ : ∃ m, m = h.toNat * 256 + l.toNat := ⟨_, rfl⟩
  have hm : (h.toNat : Int) * 256 + (l.toNat : Int) = (m : Int) := by omega
  have hm16 : m ≤ 65535 := by have := h.toNat_lt; have := l.toNat_lt; omega
  rw [← hm0] at hlt
  have Hm0 := Lib.hid hm0
  have d1 : decide ((n : Int) < 3 + (m : Int)) = false := by simp; omega
  have hblk := Blk.new w 33 #[.int .i64 0, .int .u64 0, .slice none 0 0, .slice none 0 0]
  have hb0 : Below w.heap.size w (w.alloc (.cells #[.int .i64 0, .int .u64 0, .slice none 0 0, .slice none 0 0] 33)) := (Below.refl _ _).alloc (Nat.le_refl _) _
  obtain ⟨A1, k1, s1, r1⟩ := hx.oldS.cut 3 (3 + (m : Int)) 3 m rfl rfl (by omega)
  simp only [List.drop_succ_cons, List.drop_zero] at r1
  have q1 : ((t.toNat : Int) == 1) = false := by simp; exact fun e => h1 (UInt8.toNat_inj.1 (by simpa using (by omega : t.toNat = 1)))
  have q2 : ((t.toNat : Int) == 2) = false := by simp; exact fun e => h2 (UInt8.toNat_inj.1 (by simpa using (by omega : t.toNat = 2)))
  have q3 : ((t.toNat : Int) == 3) = false := by simp; exact fun e => h3' (UInt8.toNat_inj.1 (by simpa using (by omega : t.toNat = 3)))
  clear h1 h2 h3'
  clear hl hlt e0 e1 e2 hm0
  go_enter Try.func89, Try.ntmps89
  go_wp2_with fail
  go_quiet (fail)
  obtain ⟨W, hW⟩ : ∃ W, W = (w.alloc (.cells #[.int .i64 0, .int .u64 0, .slice none 0 0, .slice none 0 0] 33)).drewN nq := ⟨_, rfl⟩
  have hR : Blk W w.heap.size 33 #[.int .i64 0, .int .u64 0, .slice none 0 0, .slice none 0 0] := by rw [hW]; exact hblk.drewN _
  have hbW : Below w.heap.size w W := by rw [hW]; exact below_drewN hb0 _
  have cW : W.cell? ad = some (.int .u8 (t.toNat : Int)) := (hbW.cell hadb).trans c0
  have rW := r1.under (fun k h => h.2) hbW
  rw [← hW]
  clear hW hblk hb0 c0 c0' c1 c2 r1 hx
  obtain ⟨z0, z1, z2, z3, f0, f1, f2, f3, hz⟩ := hR.four
  go_wp2_with fail
  exact bodyPost_ret (results_cell2 rfl rfl (load33 ((set4_blk hR _ _ _ _).alloc _))) rfl ⟨rfl, (set4_below hbW _ (Nat.le_refl _) _ _ _ _).alloc (by simp; omega) _⟩
set_option maxRecDepth 10000 in
set_option maxHeartbeats 2000000 in
theorem rread_deep (w : World) (S : Nat → Prop) (A : Option Addr) (n c : Nat) (t h l : UInt8) (xs : List UInt8) (hx : Bs w S A n c (t :: h :: l :: xs)) (hn : n ≤ 1000000000) (hlt : ¬ xs.length < h.toNat * 256 + l.toNat) (h1 : t = 3) :
    Calls Try.prog 89 #[.slice A n c, .int .i64 ((0 : Nat) : Int)] w fun e w' => e = .returned (.tuple #[.agg #[.int .i64 0, .int .u64 0, .slice none 0 0, .slice none 0 0], .int .i64 0]) ∧ Below w.heap.size w w' := by
  have hl := hx.len
  simp only [List.length_cons] at hl
  have h3 : ¬ n < 3 := by omega
  obtain ⟨ad, b0, rfl, e0, c0⟩ := hx.at0 (by omega)
  obtain ⟨_, b1, he, e1, c1⟩ := hx.atS 0 (by omega)
  cases he
  obtain ⟨_, b2, he, e2, c2⟩ := hx.atS 1 (by omega)
  cases he
  obtain rfl : t = b0 := by simpa using e0.out
  obtain rfl : h = b1 := by simpa using e1.out
  obtain rfl : l = b2 := by simpa using e2.out
  have hadb : ad.block < w.heap.size := by
    obtain ⟨ad', he, h', _⟩ := hx.oldS.rd.2 (by omega)
    cases he
    exact h'.2
  have c0' : (w.alloc (.cells #[.int .i64 0, .int .u64 0, .slice none 0 0, .slice none 0 0] 33)).cell? ad = _ := (World.cell?_alloc_lt _ _ _ hadb).trans c0
  have n1 : ((1:Int) < (n : Int)) := by omega
  have n2 : ((2:Int) < (n : Int)) := by omega
  have n0 : ((0:Int) < (n : Int)) := by omega
  have u1 := u8_lt h
  have u2 := u8_lt l
  have u0 := u8_lt t
  obtain ⟨m, hm0⟩ : ∃ m, m = h.toNat * 256 + l.toNat := ⟨_, rfl⟩
  have hm : (h.toNat : Int) * 256 + (l.toNat : Int) = (m : Int) := by omega
  have hm16 : m ≤ 65535 := by have := h.toNat_lt; have := l.toNat_lt; omega
  rw [← hm0] at hlt
  have Hm0 := Lib.hid hm0
  have d1 : decide ((n : Int) < 3 + (m : Int)) = false := by simp; omega
  have hblk := Blk.new w 33 #[.int .i64 0, .int .u64 0, .slice none 0 0, .slice none 0 0]
  have hb0 : Below w.heap.size w (w.alloc (.cells #[.int .i64 0, .int .u64 0, .slice none 0 0, .slice none 0 0] 33)) := (Below.refl _ _).alloc (Nat.le_refl _) _
  obtain ⟨A1, k1, s1, r1⟩ := hx.oldS.cut 3 (3 + (m : Int)) 3 m rfl rfl (by omega)
  simp only [List.drop_succ_cons, List.drop_zero] at r1
  have ht : (t.toNat : Int) = 3 := by subst h1; rfl
  clear hl hlt e0 e1 e2 hm0
  go_enter Try.func89, Try.ntmps89
  go_wp2_with fail
  go_quiet (fail)
  obtain ⟨W, hW⟩ : ∃ W, W = (w.alloc (.cells #[.int .i64 0, .int .u64 0, .slice none 0 0, .slice none 0 0] 33)).drewN nq := ⟨_, rfl⟩
  have hR : Blk W w.heap.size 33 #[.int .i64 0, .int .u64 0, .slice none 0 0, .slice none 0 0] := by rw [hW]; exact hblk.drewN _
  have hbW : Below w.heap.size w W := by rw [hW]; exact below_drewN hb0 _
  have cW : W.cell? ad = some (.int .u8 (t.toNat : Int)) := (hbW.cell hadb).trans c0
  have rW := r1.under (fun k h => h.2) hbW
  rw [← hW]
  clear hW hblk hb0 c0 c0' c1 c2 r1 hx
  obtain ⟨z0, z1, z2, z3, f0, f1, f2, f3, hz⟩ := hR.four
  rw [ht] at cW
  clear ht u0
  go_wp2_with fail
  exact bodyPost_ret (results_cell2 rfl rfl (load33 ((set4_blk hR _ _ _ _).alloc _))) rfl ⟨rfl, (set4_below hbW _ (Nat.le_refl _) _ _ _ _).alloc (by simp; omega) _⟩
set_option maxRecDepth 10000 in
set_option maxHeartbeats 2000000 in
theorem rread_big (d : Nat) (w : World) (S : Nat → Prop) (A : Option Addr) (n c : Nat) (t h l : UInt8) (xs : List UInt8) (hx : Bs w S A n c (t :: h :: l :: xs)) (hn : n ≤ 1000000000) (hlt : ¬ xs.length < h.toNat * 256 + l.toNat) (h1 : t = 1) (h8 : 8 < h.toNat * 256 + l.toNat) :
    Calls Try.prog 89 #[.slice A n c, .int .i64 (d : Int)] w fun e w' => e = .returned (.tuple #[.agg #[.int .i64 0, .int .u64 0, .slice none 0 0, .slice none 0 0], .int .i64 0]) ∧ Below w.heap.size w w' := by
  have hl := hx.len
  simp only [List.length_cons] at hl
  have h3 : ¬ n < 3 := by omega
  obtain ⟨ad, b0, rfl, e0, c0⟩ := hx.at0 (by omega)
  obtain ⟨_, b1, he, e1, c1⟩ := hx.atS 0 (by omega)
  cases he
  obtain ⟨_, b2, he, e2, c2⟩ := hx.atS 1 (by omega)
  cases he
  obtain rfl : t = b0 := by simpa using e0.out
  obtain rfl : h = b1 := by simpa using e1.out
  obtain rfl : l = b2 := by simpa using e2.out
  have hadb : ad.block < w.heap.size := by
    obtain ⟨ad', he, h', _⟩ := hx.oldS.rd.2 (by omega)
    cases he
    exact h'.2
  have c0' : (w.alloc (.cells #[.int .i64 0, .int .u64 0, .slice none 0 0, .slice none 0 0] 33)).cell? ad = _ := (World.cell?_alloc_lt _ _ _ hadb).trans c0
  have n1 : ((1:Int) < (n : Int)) := by omega
  have n2 : ((2:Int) < (n : Int)) := by omega
  have n0 : ((0:Int) < (n : Int)) := by omega
  have u1 := u8_lt h
  have u2 := u8_lt l
  have u0 := u8_lt t
  obtain ⟨m, hm0⟩ : ∃ m, m = h.toNat * 256 + l.toNat := ⟨_, rfl⟩
  have hm : (h.toNat : Int) * 256 + (l.toNat : Int) = (m : Int) := by omega
  have hm16 : m ≤ 65535 := by have := h.toNat_lt; have := l.toNat_lt; omega
  rw [← hm0] at hlt
  have Hm0 := Lib.hid hm0
  have d1 : decide ((n : Int) < 3 + (m : Int)) = false := by simp; omega
  have hblk := Blk.new w 33 #[.int .i64 0, .int .u64 0, .slice none 0 0, .slice none 0 0]
  have hb0 : Below w.heap.size w (w.alloc (.cells #[.int .i64 0, .int .u64 0, .slice none 0 0, .slice none 0 0] 33)) := (Below.refl _ _).alloc (Nat.le_refl _) _
  obtain ⟨A1, k1, s1, r1⟩ := hx.oldS.cut 3 (3 + (m : Int)) 3 m rfl rfl (by omega)
  simp only [List.drop_succ_cons, List.drop_zero] at r1
  have ht : (t.toNat : Int) = 1 := by subst h1; rfl
  rw [← hm0] at h8
  have q8 : (8 : Int) < (m : Int) := by omega
  clear hl hlt e0 e1 e2 hm0
  go_enter Try.func89, Try.ntmps89
  go_wp2_with fail
  go_quiet (fail)
  obtain ⟨W, hW⟩ : ∃ W, W = (w.alloc (.cells #[.int .i64 0, .int .u64 0, .slice none 0 0, .slice none 0 0] 33)).drewN nq := ⟨_, rfl⟩
  have hR : Blk W w.heap.size 33 #[.int .i64 0, .int .u64 0, .slice none 0 0, .slice none 0 0] := by rw [hW]; exact hblk.drewN _
  have hbW : Below w.heap.size w W := by rw [hW]; exact below_drewN hb0 _
  have cW : W.cell? ad = some (.int .u8 (t.toNat : Int)) := (hbW.cell hadb).trans c0
  have rW := r1.under (fun k h => h.2) hbW
  rw [← hW]
  clear hW hblk hb0 c0 c0' c1 c2 r1 hx
  obtain ⟨z0, z1, z2, z3, f0, f1, f2, f3, hz⟩ := hR.four
  rw [ht] at cW
  clear ht u0
  go_wp2_with fail
  exact bodyPost_ret (results_cell2 rfl rfl (load33 ((set4_blk hR _ _ _ _).alloc _))) rfl ⟨rfl, (set4_below hbW _ (Nat.le_refl _) _ _ _ _).alloc (by simp; omega) _⟩
set_option maxRecDepth 10000 in
set_option maxHeartbeats 2000000 in
theorem rread_nought (d : Nat) (w : World) (S : Nat → Prop) (A : Option Addr) (n c : Nat) (t h l : UInt8) (xs : List UInt8) (hx : Bs w S A n c (t :: h :: l :: xs)) (hn : n ≤ 1000000000) (hlt : ¬ xs.length < h.toNat * 256 + l.toNat) (h1 : t = 1) (h8 : ¬ 8 < h.toNat * 256 + l.toNat) (hp : 0 < h.toNat * 256 + l.toNat) (h0 : xs.head? = some 0) :
    Calls Try.prog 89 #[.slice A n c, .int .i64 (d : Int)] w fun e w' => e = .returned (.tuple #[.agg #[.int .i64 0, .int .u64 0, .slice none 0 0, .slice none 0 0], .int .i64 0]) ∧ Below w.heap.size w w' := by
  have hl := hx.len
  simp only [List.length_cons] at hl
  have h3 : ¬ n < 3 := by omega
  obtain ⟨ad, b0, rfl, e0, c0⟩ := hx.at0 (by omega)
  obtain ⟨_, b1, he, e1, c1⟩ := hx.atS 0 (by omega)
  cases he
  obtain ⟨_, b2, he, e2, c2⟩ := hx.atS 1 (by omega)
  cases he
  obtain rfl : t = b0 := by simpa using e0.out
  obtain rfl : h = b1 := by simpa using e1.out
  obtain rfl : l = b2 := by simpa using e2.out
  have hadb : ad.block < w.heap.size := by
    obtain ⟨ad', he, h', _⟩ := hx.oldS.rd.2 (by omega)
    cases he
    exact h'.2
  have c0' : (w.alloc (.cells #[.int .i64 0, .int .u64 0, .slice none 0 0, .slice none 0 0] 33)).cell? ad = _ := (World.cell?_alloc_lt _ _ _ hadb).trans c0
  have n1 : ((1:Int) < (n : Int)) := by omega
  have n2 : ((2:Int) < (n : Int)) := by omega
  have n0 : ((0:Int) < (n : Int)) := by omega
  have u1 := u8_lt h
  have u2 := u8_lt l
  have u0 := u8_lt t
  obtain ⟨m, hm0⟩ : ∃ m, m = h.toNat * 256 + l.toNat := ⟨_, rfl⟩
  have hm : (h.toNat : Int) * 256 + (l.toNat : Int) = (m : Int) := by omega
  have hm16 : m ≤ 65535 := by have := h.toNat_lt; have := l.toNat_lt; omega
  rw [← hm0] at hlt
  have Hm0 := Lib.hid hm0
  have d1 : decide ((n : Int) < 3 + (m : Int)) = false := by simp; omega
  have hblk := Blk.new w 33 #[.int .i64 0, .int .u64 0, .slice none 0 0, .slice none 0 0]
  have hb0 : Below w.heap.size w (w.alloc (.cells #[.int .i64 0, .int .u64 0, .slice none 0 0, .slice none 0 0] 33)) := (Below.refl _ _).alloc (Nat.le_refl _) _
  obtain ⟨A1, k1, s1, r1⟩ := hx.oldS.cut 3 (3 + (m : Int)) 3 m rfl rfl (by omega)
  simp only [List.drop_succ_cons, List.drop_zero] at r1
  have ht : (t.toNat : Int) = 1 := by subst h1; rfl
  rw [← hm0] at h8 hp
  have q8 : ¬ (8 : Int) < (m : Int) := by omega
  have q0 : (0 : Int) < (m : Int) := by omega
  have H0 := Lib.hid h0
  clear h0
  clear hl hlt e0 e1 e2 hm0
  go_enter Try.func89, Try.ntmps89
  go_wp2_with fail
  go_quiet (fail)
  obtain ⟨W, hW⟩ : ∃ W, W = (w.alloc (.cells #[.int .i64 0, .int .u64 0, .slice none 0 0, .slice none 0 0] 33)).drewN nq := ⟨_, rfl⟩
  have hR : Blk W w.heap.size 33 #[.int .i64 0, .int .u64 0, .slice none 0 0, .slice none 0 0] := by rw [hW]; exact hblk.drewN _
  have hbW : Below w.heap.size w W := by rw [hW]; exact below_drewN hb0 _
  have cW : W.cell? ad = some (.int .u8 (t.toNat : Int)) := (hbW.cell hadb).trans c0
  have rW := r1.under (fun k h => h.2) hbW
  rw [← hW]
  clear hW hblk hb0 c0 c0' c1 c2 r1 hx
  obtain ⟨z0, z1, z2, z3, f0, f1, f2, f3, hz⟩ := hR.four
  rw [ht] at cW
  clear ht u0
  obtain ⟨ad1, y, rfl, hy0, hc0⟩ := rW.at0 hp
  obtain rfl : y = 0 := by
    have h1 := H0.out
    have h2 := hy0.out
    cases xs with
    | nil => simp at h1
    | cons x xs => simp [hp] at h1 h2; rw [← h2, h1]
  have hadb1 : ad1.block < w.heap.size := by
    obtain ⟨ad', he, h', _⟩ := rW.rd.2 hp
    cases he
    exact h'.2
  have hc1 : W.cell? ad1 = some (.int .u8 0) := hc0
  have hlt1 : ad1.block < W.heap.size := by omega
  clear hy0 hc0
  go_wp2_with fail
  exact bodyPost_ret (results_cell2 rfl rfl (load33 ((set4_blk hR _ _ _ _).alloc _))) rfl ⟨rfl, (set4_below hbW _ (Nat.le_refl _) _ _ _ _).alloc (by simp; omega) _⟩
end Go.Proofs.Ytaebmhbggbpnoaa
