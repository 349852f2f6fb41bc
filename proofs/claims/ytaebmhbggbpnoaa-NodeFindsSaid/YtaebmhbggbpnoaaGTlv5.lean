/- Walks of package tlv: Take, Get. Conditions: each theorem's premises. -/
import Derived.Test.YtaebmhbggbpnoaaGTlvMem
import Derived.Deep.RegionWith
namespace Go.Proofs.Ytaebmhbggbpnoaa
open Go.RowKit
/-- What is owned from a block on is owned from every earlier one on. -/
theorem own_base' {w : World} {base base' : Nat} {e : TypeId} {size n : Nat} {v : Value} {xs : List Value} (h : w.ownsRow base e size v n xs) (hb : base' ≤ base) : w.ownsRow base' e size v n xs := by
  refine ⟨h.1, ?_⟩
  rcases h.2 with h2 | ⟨g, cap, cur, hv, hg, r⟩
  · exact .inl h2
  · exact .inr ⟨g, cap, cur, hv, Nat.le_trans hb hg, r⟩
theorem own_setCell {w : World} {base : Nat} {e : TypeId} {size n : Nat} {v : Value} {xs : List Value} (h : w.ownsRow base e size v n xs) {p : Addr} (hp : v.ownBlock ≠ some p.block) (u : Value) : (w.setCell p u).ownsRow base e size v n xs :=
  h.kept (row := some p.block) ⟨rfl, rfl, rfl, by simp, fun k _ hk => Below.heap_setCell _ _ _ _ (fun e => hk (by rw [e]))⟩ (.inr hp)
set_option maxRecDepth 10000 in
set_option maxHeartbeats 1000000 in
theorem take_none (w : World) (S : Nat → Prop) (A : Option Addr) (n c : Nat) (bs : List UInt8) (hx : Bs w S A n c bs) (hn : n ≤ 1000000000) (h : readT 8 bs = none) :
    Calls Try.prog 20 #[.slice A n c] w fun e w' => e = .returned (.tuple #[.agg #[.int .i64 0, .int .u64 0, .slice none 0 0, .slice none 0 0], .slice none 0 0, .int .i64 3]) ∧ Below w.heap.size w w' := by
  have K := read_any 8 (by omega) (w.alloc (.cells #[.int .i64 0, .int .u64 0, .slice none 0 0, .slice none 0 0] 27)) S A n c bs (hx.after ((Below.refl _ _).alloc (Nat.le_refl _) _)) hn
  rw [h] at K
  have KK := Lib.hid K
  clear h K
  go_enter Try.func20, Try.ntmps20
  go_wp2_with fail
  refine (KK.out).mono ?_
  rintro e w1 ⟨rfl, hb⟩
  clear KK
  simp only [World.size_alloc] at hb
  have hblk : Blk w1 w.heap.size 27 _ := (Blk.new w 27 _).below hb (by omega)
  obtain ⟨z0, z1, z2, z3, f0, f1, f2, f3, hz⟩ := hblk.four
  have hb1 : Below w.heap.size w w1 := ((Below.refl _ _).alloc (Nat.le_refl _) _).trans (hb.mono (by omega))
  go_wp2_with fail
  exact bodyPost_ret (results_cell3 rfl rfl (load27 (set4_blk (set4_blk hblk _ _ _ _) _ _ _ _))) rfl ⟨rfl, set4_below (set4_below hb1 _ (Nat.le_refl _) _ _ _ _) _ (Nat.le_refl _) _ _ _ _⟩
set_option maxRecDepth 10000 in
set_option maxHeartbeats 1000000 in
theorem take_some (w : World) (S : Nat → Prop) (A : Option Addr) (n c : Nat) (bs rest : List UInt8) (v : TV) (hx : Bs w S A n c bs) (hn : n ≤ 1000000000) (h : readT 8 bs = some (v, rest)) :
    Calls Try.prog 20 #[.slice A n c] w fun e w' => ∃ q A' n' c', e = .returned (.tuple #[q.agg, .slice A' n' c', .int .i64 0]) ∧ VR w' (fun k => w.heap.size ≤ k) q v ∧ w'.ownsRow w.heap.size 5 1 (.slice A' n' c') n' (u8s rest) ∧ n' ≤ 1000000000 ∧ Below w.heap.size w w' := by
  have K := read_any 8 (by omega) (w.alloc (.cells #[.int .i64 0, .int .u64 0, .slice none 0 0, .slice none 0 0] 27)) (fun k => S k ∧ k < w.heap.size) A n c bs (hx.oldS.after ((Below.refl _ _).alloc (Nat.le_refl _) _)) hn
  rw [h] at K
  have KK := Lib.hid K
  clear h K
  go_enter Try.func20, Try.ntmps20
  go_wp2_with fail
  refine (KK.out).mono ?_
  rintro e w1 ⟨q, A1, n1, c1, rfl, hv, hr, hn1, hb⟩
  clear KK
  simp only [World.size_alloc] at hb hv
  obtain ⟨tag, nn, bb, ll, A5, A6, n5, c5, n6, c6, rfl, rfl, -⟩ := hv.opens
  have hblk : Blk w1 w.heap.size 27 _ := (Blk.new w 27 _).below hb (by omega)
  obtain ⟨z0, z1, z2, z3, f0, f1, f2, f3, hz⟩ := hblk.four
  have hb1 : Below w.heap.size w w1 := ((Below.refl _ _).alloc (Nat.le_refl _) _).trans (hb.mono (by omega))
  dsimp only [Quad.agg]
  have hB2 := set4_blk hblk (.int .i64 tag) (.int .u64 (nn : Int)) (.slice A5 n5 c5) (.slice A6 n6 c6)
  have hb2 := set4_below hb1 w.heap.size (Nat.le_refl _) (.int .i64 tag) (.int .u64 (nn : Int)) (.slice A5 n5 c5) (.slice A6 n6 c6)
  have hr2 : Bs ((((w1.setCell ⟨w.heap.size, 0, none⟩ (.int .i64 tag)).setCell ⟨w.heap.size, 1, none⟩ (.int .u64 (nn : Int))).setCell ⟨w.heap.size, 2, none⟩ (.slice A5 n5 c5)).setCell ⟨w.heap.size, 3, none⟩ (.slice A6 n6 c6)) AnyB A1 n1 c1 rest :=
    hr.keep (fun p hp _ => set4_other _ _ _ _ _ _ p (by omega)) (fun _ _ _ => trivial)
  have hv2 : VR ((((w1.setCell ⟨w.heap.size, 0, none⟩ (.int .i64 tag)).setCell ⟨w.heap.size, 1, none⟩ (.int .u64 (nn : Int))).setCell ⟨w.heap.size, 2, none⟩ (.slice A5 n5 c5)).setCell ⟨w.heap.size, 3, none⟩ (.slice A6 n6 c6)) (fun k => w.heap.size < k) ⟨.int .i64 tag, .int .u64 (nn : Int), .slice A5 n5 c5, .slice A6 n6 c6⟩ (.mk tag nn bb ll) :=
    hv.keep (fun p hp _ => set4_other _ _ _ _ _ _ p (by omega)) (fun _ hk _ => hk)
  go_wp2_with fail
  clear hv hr hb1 hblk hb hz
  generalize ((((w1.setCell ⟨w.heap.size, 0, none⟩ (.int .i64 tag)).setCell ⟨w.heap.size, 1, none⟩ (.int .u64 (nn : Int))).setCell ⟨w.heap.size, 2, none⟩ (.slice A5 n5 c5)).setCell ⟨w.heap.size, 3, none⟩ (.slice A6 n6 c6)) = W at hB2 hb2 hr2 hv2 ⊢
  clear z0 z1 z2 z3 f0 f1 f2 f3
  obtain ⟨z0, z1, z2, z3, f0, f1, f2, f3, hz⟩ := hB2.four
  go_region_with (go_at_call 88; refine (clone_any _ AnyB _ _ _ _ hr2.drew hn1).mono ?_; rintro e w2 ⟨A3, c3, rfl, hown, hb3⟩; obtain ⟨y0, y1, y2, y3, g0, g1, g2, g3, hy⟩ := (hB2.drew.after hb3).four)
  all_goals
    go_wp2_with fail
    have hbW : Below w.heap.size w w2 := hb2.drew.trans (hb3.mono (by simp; omega))
    have hB5 := set4_blk (hB2.drew.after hb3) (.int .i64 tag) (.int .u64 (nn : Int)) (.slice A5 n5 c5) (.slice A6 n6 c6)
    refine bodyPost_ret (results_cell3 rfl rfl (load27 hB5)) rfl ?_
    refine ⟨⟨.int .i64 tag, .int .u64 (nn : Int), .slice A5 n5 c5, .slice A6 n6 c6⟩, A3, n1, c3, rfl, (hv2.drew.after hb3).keep (fun p hp _ => set4_other _ _ _ _ _ _ p (by omega)) (fun k hk _ => by omega), ?_, hn1, set4_below hbW _ (Nat.le_refl _) _ _ _ _⟩
    have hne : (Value.slice A3 n1 c3).ownBlock ≠ some w.heap.size := fun e => by have := (hown.lt _ e).1; simp at this; omega
    exact own_setCell (p := ⟨w.heap.size, 3, none⟩) (own_setCell (p := ⟨w.heap.size, 2, none⟩) (own_setCell (p := ⟨w.heap.size, 1, none⟩) (own_setCell (p := ⟨w.heap.size, 0, none⟩) (own_base' hown (by simp; omega)) hne _) hne _) hne _) hne _

set_option maxRecDepth 10000 in
set_option maxHeartbeats 1000000 in
theorem get_none (w : World) (S : Nat → Prop) (A : Option Addr) (n c : Nat) (bs : List UInt8) (hx : Bs w S A n c bs) (hn : n ≤ 1000000000) (h : readT 8 bs = none) :
    Calls Try.prog 22 #[.slice A n c] w fun e w' => e = .returned (.tuple #[.agg #[.int .i64 0, .int .u64 0, .slice none 0 0, .slice none 0 0], .int .i64 3]) ∧ Below w.heap.size w w' := by
  have K := read_any 8 (by omega) (w.alloc (.cells #[.int .i64 0, .int .u64 0, .slice none 0 0, .slice none 0 0] 27)) S A n c bs (hx.after ((Below.refl _ _).alloc (Nat.le_refl _) _)) hn
  rw [h] at K
  have KK := Lib.hid K
  clear h K
  go_enter Try.func22, Try.ntmps22
  go_wp2_with fail
  refine (KK.out).mono ?_
  rintro e w1 ⟨rfl, hb⟩
  clear KK
  simp only [World.size_alloc] at hb
  have hblk : Blk w1 w.heap.size 27 _ := (Blk.new w 27 _).below hb (by omega)
  obtain ⟨z0, z1, z2, z3, f0, f1, f2, f3, hz⟩ := hblk.four
  have hb1 : Below w.heap.size w w1 := ((Below.refl _ _).alloc (Nat.le_refl _) _).trans (hb.mono (by omega))
  go_wp2_with fail
  exact bodyPost_ret (results_cell2 rfl rfl (load27 ((set4_blk hblk _ _ _ _).alloc _))) rfl ⟨rfl, (set4_below hb1 _ (Nat.le_refl _) _ _ _ _).alloc (by simp; omega) _⟩
set_option maxRecDepth 10000 in
set_option maxHeartbeats 1000000 in
theorem get_rest (w : World) (S : Nat → Prop) (A : Option Addr) (n c : Nat) (bs rest : List UInt8) (v : TV) (hx : Bs w S A n c bs) (hn : n ≤ 1000000000) (h : readT 8 bs = some (v, rest)) (h0 : rest ≠ []) :
    Calls Try.prog 22 #[.slice A n c] w fun e w' => e = .returned (.tuple #[.agg #[.int .i64 0, .int .u64 0, .slice none 0 0, .slice none 0 0], .int .i64 3]) ∧ Below w.heap.size w w' := by
  have K := read_any 8 (by omega) (w.alloc (.cells #[.int .i64 0, .int .u64 0, .slice none 0 0, .slice none 0 0] 27)) S A n c bs (hx.after ((Below.refl _ _).alloc (Nat.le_refl _) _)) hn
  rw [h] at K
  have KK := Lib.hid K
  have H0 := Lib.hid h0
  clear h K h0
  go_enter Try.func22, Try.ntmps22
  go_wp2_with fail
  refine (KK.out).mono ?_
  rintro e w1 ⟨q, A1, n1, c1, rfl, hv, hr, hn1, hb⟩
  clear KK
  simp only [World.size_alloc] at hb hv
  obtain ⟨tag, nn, bb, ll, A5, A6, n5, c5, n6, c6, rfl, rfl, -⟩ := hv.opens
  have hblk : Blk w1 w.heap.size 27 _ := (Blk.new w 27 _).below hb (by omega)
  obtain ⟨z0, z1, z2, z3, f0, f1, f2, f3, hz⟩ := hblk.four
  have hb1 : Below w.heap.size w w1 := ((Below.refl _ _).alloc (Nat.le_refl _) _).trans (hb.mono (by omega))
  have hp : (0 : Int) < (n1 : Int) := by
    have := hr.len
    have h0 := H0.out
    cases rest with
    | nil => exact absurd rfl h0
    | cons x xs => simp at this; omega
  dsimp only [Quad.agg]
  go_wp2_with fail
  exact bodyPost_ret (results_cell2 rfl rfl (load27 ((set4_blk hblk _ _ _ _).alloc _))) rfl ⟨rfl, (set4_below hb1 _ (Nat.le_refl _) _ _ _ _).alloc (by simp; omega) _⟩
set_option maxRecDepth 10000 in
set_option maxHeartbeats 1000000 in
theorem get_some (w : World) (S : Nat → Prop) (A : Option Addr) (n c : Nat) (bs : List UInt8) (v : TV) (hx : Bs w S A n c bs) (hn : n ≤ 1000000000) (h : readT 8 bs = some (v, [])) :
    Calls Try.prog 22 #[.slice A n c] w fun e w' => ∃ q, e = .returned (.tuple #[q.agg, .int .i64 0]) ∧ VR w' (fun k => w.heap.size ≤ k) q v ∧ Below w.heap.size w w' := by
  have K := read_any 8 (by omega) (w.alloc (.cells #[.int .i64 0, .int .u64 0, .slice none 0 0, .slice none 0 0] 27)) S A n c bs (hx.after ((Below.refl _ _).alloc (Nat.le_refl _) _)) hn
  rw [h] at K
  have KK := Lib.hid K
  clear h K
  go_enter Try.func22, Try.ntmps22
  go_wp2_with fail
  refine (KK.out).mono ?_
  rintro e w1 ⟨q, A1, n1, c1, rfl, hv, hr, hn1, hb⟩
  clear KK
  simp only [World.size_alloc] at hb hv
  obtain ⟨tag, nn, bb, ll, A5, A6, n5, c5, n6, c6, rfl, rfl, -⟩ := hv.opens
  have hblk : Blk w1 w.heap.size 27 _ := (Blk.new w 27 _).below hb (by omega)
  obtain ⟨z0, z1, z2, z3, f0, f1, f2, f3, hz⟩ := hblk.four
  have hb1 : Below w.heap.size w w1 := ((Below.refl _ _).alloc (Nat.le_refl _) _).trans (hb.mono (by omega))
  obtain rfl : n1 = 0 := by have := hr.len; simpa using this.symm
  dsimp only [Quad.agg]
  go_wp2_with fail
  exact bodyPost_ret (results_cell2 rfl rfl (load27 ((set4_blk hblk _ _ _ _).alloc _))) rfl ⟨⟨.int .i64 tag, .int .u64 (nn : Int), .slice A5 n5 c5, .slice A6 n6 c6⟩, rfl, hv.keep (fun p hp hlt => (World.cell?_alloc_lt _ _ _ (by simpa using hlt)).trans (set4_other _ _ _ _ _ _ p (by omega))) (fun k hk _ => by omega), (set4_below hb1 _ (Nat.le_refl _) _ _ _ _).alloc (by simp; omega) _⟩
end Go.Proofs.Ytaebmhbggbpnoaa
namespace Go.Proofs.Ytaebmhbggbpnoaa
open Go.RowKit
set_option maxRecDepth 10000 in
set_option maxHeartbeats 1000000 in
theorem rread_short (d : Nat) (w : World) (A : Option Addr) (n c : Nat) (hn : n < 3) :
    Calls Try.prog 89 #[.slice A n c, .int .i64 (d : Int)] w fun e w' => e = .returned (.tuple #[.agg #[.int .i64 0, .int .u64 0, .slice none 0 0, .slice none 0 0], .int .i64 0]) ∧ Below w.heap.size w w' := by
  have hblk := Blk.new w 33 #[.int .i64 0, .int .u64 0, .slice none 0 0, .slice none 0 0]
  go_enter Try.func89, Try.ntmps89
  go_wp2_with fail
  exact bodyPost_ret (results_cell2 rfl rfl (load33 hblk)) rfl ⟨rfl, (Below.refl _ _).alloc (Nat.le_refl _) _⟩
set_option maxRecDepth 10000 in
set_option maxHeartbeats 1000000 in
theorem rread_long (d : Nat) (w : World) (S : Nat → Prop) (A : Option Addr) (n c : Nat) (t h l : UInt8) (xs : List UInt8) (hx : Bs w S A n c (t :: h :: l :: xs)) (hn : n ≤ 1000000000) (hlt : xs.length < h.toNat * 256 + l.toNat) :
    Calls Try.prog 89 #[.slice A n c, .int .i64 (d : Int)] w fun e w' => e = .returned (.tuple #[.agg #[.int .i64 0, .int .u64 0, .slice none 0 0, .slice none 0 0], .int .i64 0]) ∧ Below w.heap.size w w' := by
  have hl := hx.len
  simp only [List.length_cons] at hl
  have h3 : ¬ n < 3 := by omega
  obtain ⟨ad, b0, rfl, e0, c0⟩ := hx.at0 (by omega)
  obtain ⟨_, b1, he, e1, c1⟩ := hx.atS 0 (by omega)
  cases he
  obtain ⟨_, b2, he, e2, c2⟩ := hx.atS 1 (by omega)
  cases he
  obtain rfl : t = b0 := by simpa using e0.out
  obtain rfl : h = b1 := by simpa using e1.out
  obtain rfl : l = b2 := by simpa using e2.out
  have hadb : ad.block < w.heap.size := by
    obtain ⟨ad', he, h', _⟩ := hx.oldS.rd.2 (by omega)
    cases he
    exact h'.2
  have c0' : (w.alloc (.cells #[.int .i64 0, .int .u64 0, .slice none 0 0, .slice none 0 0] 33)).cell? ad = _ := (World.cell?_alloc_lt _ _ _ hadb).trans c0
  have n1 : ((1:Int) < (n : Int)) := by omega
  have n2 : ((2:Int) < (n : Int)) := by omega
  have n0 : ((0:Int) < (n : Int)) := by omega
  have u1 := u8_lt h
  have u2 := u8_lt l
  have u0 := u8_lt t
  obtain ⟨m, hm0⟩ : ∃ m, m = h.toNat * 256 + l.toNat := ⟨_, rfl⟩
  have hm : (h.toNat : Int) * 256 + (l.toNat : Int) = (m : Int) := by omega
  have hm16 : m ≤ 65535 := by have := h.toNat_lt; have := l.toNat_lt; omega
  rw [← hm0] at hlt
  have Hm0 := Lib.hid hm0
  have d1 : decide ((n : Int) < 3 + (m : Int)) = true := by simp; omega
  have hblk := Blk.new w 33 #[.int .i64 0, .int .u64 0, .slice none 0 0, .slice none 0 0]
  clear hl hlt e0 e1 e2 hm0
  go_enter Try.func89, Try.ntmps89
  go_wp2_with fail
  go_quiet (fail)
  go_wp2_with fail
  exact bodyPost_ret (results_cell2 rfl rfl (load33 (set4_blk (hblk.drewN _) _ _ _ _))) rfl ⟨rfl, set4_below (below_drewN ((Below.refl _ _).alloc (Nat.le_refl _) _) _) _ (Nat.le_refl _) _ _ _ _⟩
set_option maxRecDepth 10000 in
set_option maxHeartbeats 2000000 in
theorem rread_other (d : Nat) (w : World) (S : Nat → Prop) (A : Option Addr) (n c : Nat) (t h l : UInt8) (xs : List UInt8) (hx : Bs w S A n c (t :: h :: l :: xs)) (hn : n ≤ 1000000000) (hlt : ¬ xs.length < h.toNat * 256 + l.toNat) (h1 : t ≠ 1) (h2 : t ≠ 2) (h3' : t ≠ 3) :
    Calls Try.prog 89 #[.slice A n c, .int .i64 (d : Int)] w fun e w' => e = .returned (.tuple #[.agg #[.int .i64 0, .int .u64 0, .slice none 0 0, .slice none 0 0], .int .i64 0]) ∧ Below w.heap.size w w' := by
  have hl := hx.len
  simp only [List.length_cons] at hl
  have h3 : ¬ n < 3 := by omega
  obtain ⟨ad, b0, rfl, e0, c0⟩ := hx.at0 (by omega)
  obtain ⟨_, b1, he, e1, c1⟩ := hx.atS 0 (by omega)
  cases he
  obtain ⟨_, b2, he, e2, c2⟩ := hx.atS 1 (by omega)
  cases he
  obtain rfl : t = b0 := by simpa using e0.out
  obtain rfl : h = b1 := by simpa using e1.out
  obtain rfl : l = b2 := by simpa using e2.out
  have hadb : ad.block < w.heap.size := by
    obtain ⟨ad', he, h', _⟩ := hx.oldS.rd.2 (by omega)
    cases he
    exact h'.2
  have c0' : (w.alloc (.cells #[.int .i64 0, .int .u64 0, .slice none 0 0, .slice none 0 0] 33)).cell? ad = _ := (World.cell?_alloc_lt _ _ _ hadb).trans c0
  have n1 : ((1:Int) < (n : Int)) := by omega
  have n2 : ((2:Int) < (n : Int)) := by omega
  have n0 : ((0:Int) < (n : Int)) := by omega
  have u1 := u8_lt h
  have u2 := u8_lt l
  have u0 := u8_lt t
  obtain ⟨m, hm0⟩ : ∃ m, m = h.toNat * 256 + l.toNat := ⟨_, rfl⟩
  have hm : (h.toNat : Int) * 256 + (l.toNat : Int) = (m : Int) := by omega
  have hm16 : m ≤ 65535 := by have := h.toNat_lt; have := l.toNat_lt; omega
  rw [← hm0] at hlt
  have Hm0 := Lib.hid hm0
  have d1 : decide ((n : Int) < 3 + (m : Int)) = false := by simp; omega
  have hblk := Blk.new w 33 #[.int .i64 0, .int .u64 0, .slice none 0 0, .slice none 0 0]
  have hb0 : Below w.heap.size w (w.alloc (.cells #[.int .i64 0, .int .u64 0, .slice none 0 0, .slice none 0 0] 33)) := (Below.refl _ _).alloc (Nat.le_refl _) _
  obtain ⟨A1, k1, s1, r1⟩ := hx.oldS.cut 3 (3 + (m : Int)) 3 m rfl rfl (by omega)
  simp only [List.drop_succ_cons, List.drop_zero] at r1
  have q1 : ((t.toNat : Int) == 1) = false := by simp; exact fun e => h1 (UInt8.toNat_inj.1 (by simpa using (by omega : t.toNat = 1)))
  have q2 : ((t.toNat : Int) == 2) = false := by simp; exact fun e => h2 (UInt8.toNat_inj.1 (by simpa using (by omega : t.toNat = 2)))
  have q3 : ((t.toNat : Int) == 3) = false := by simp; exact fun e => h3' (UInt8.toNat_inj.1 (by simpa using (by omega : t.toNat = 3)))
  clear h1 h2 h3'
  clear hl hlt e0 e1 e2 hm0
  go_enter Try.func89, Try.ntmps89
  go_wp2_with fail
  go_quiet (fail)
  obtain ⟨W, hW⟩ : ∃ W, W = (w.alloc (.cells #[.int .i64 0, .int .u64 0, .slice none 0 0, .slice none 0 0] 33)).drewN nq := ⟨_, rfl⟩
  have hR : Blk W w.heap.size 33 #[.int .i64 0, .int .u64 0, .slice none 0 0, .slice none 0 0] := by rw [hW]; exact hblk.drewN _
  have hbW : Below w.heap.size w W := by rw [hW]; exact below_drewN hb0 _
  have cW : W.cell? ad = some (.int .u8 (t.toNat : Int)) := (hbW.cell hadb).trans c0
  have rW := r1.under (fun k h => h.2) hbW
  rw [← hW]
  clear hW hblk hb0 c0 c0' c1 c2 r1 hx
  obtain ⟨z0, z1, z2, z3, f0, f1, f2, f3, hz⟩ := hR.four
  go_wp2_with fail
  exact bodyPost_ret (results_cell2 rfl rfl (load33 ((set4_blk hR _ _ _ _).alloc _))) rfl ⟨rfl, (set4_below hbW _ (Nat.le_refl _) _ _ _ _).alloc (by simp; omega) _⟩
set_option maxRecDepth 10000 in
set_option maxHeartbeats 2000000 in
theorem rread_deep (w : World) (S : Nat → Prop) (A : Option Addr) (n c : Nat) (t h l : UInt8) (xs : List UInt8) (hx : Bs w S A n c (t :: h :: l :: xs)) (hn : n ≤ 1000000000) (hlt : ¬ xs.length < h.toNat * 256 + l.toNat) (h1 : t = 3) :
    Calls Try.prog 89 #[.slice A n c, .int .i64 ((0 : Nat) : Int)] w fun e w' => e = .returned (.tuple #[.agg #[.int .i64 0, .int .u64 0, .slice none 0 0, .slice none 0 0], .int .i64 0]) ∧ Below w.heap.size w w' := by
  have hl := hx.len
  simp only [List.length_cons] at hl
  have h3 : ¬ n < 3 := by omega
  obtain ⟨ad, b0, rfl, e0, c0⟩ := hx.at0 (by omega)
  obtain ⟨_, b1, he, e1, c1⟩ := hx.atS 0 (by omega)
  cases he
  obtain ⟨_, b2, he, e2, c2⟩ := hx.atS 1 (by omega)
  cases he
  obtain rfl : t = b0 := by simpa using e0.out
  obtain rfl : h = b1 := by simpa using e1.out
  obtain rfl : l = b2 := by simpa using e2.out
  have hadb : ad.block < w.heap.size := by
    obtain ⟨ad', he, h', _⟩ := hx.oldS.rd.2 (by omega)
    cases he
    exact h'.2
  have c0' : (w.alloc (.cells #[.int .i64 0, .int .u64 0, .slice none 0 0, .slice none 0 0] 33)).cell? ad = _ := (World.cell?_alloc_lt _ _ _ hadb).trans c0
  have n1 : ((1:Int) < (n : Int)) := by omega
  have n2 : ((2:Int) < (n : Int)) := by omega
  have n0 : ((0:Int) < (n : Int)) := by omega
  have u1 := u8_lt h
  have u2 := u8_lt l
  have u0 := u8_lt t
  obtain ⟨m, hm0⟩ : ∃ m, m = h.toNat * 256 + l.toNat := ⟨_, rfl⟩
  have hm : (h.toNat : Int) * 256 + (l.toNat : Int) = (m : Int) := by omega
  have hm16 : m ≤ 65535 := by have := h.toNat_lt; have := l.toNat_lt; omega
  rw [← hm0] at hlt
  have Hm0 := Lib.hid hm0
  have d1 : decide ((n : Int) < 3 + (m : Int)) = false := by simp; omega
  have hblk := Blk.new w 33 #[.int .i64 0, .int .u64 0, .slice none 0 0, .slice none 0 0]
  have hb0 : Below w.heap.size w (w.alloc (.cells #[.int .i64 0, .int .u64 0, .slice none 0 0, .slice none 0 0] 33)) := (Below.refl _ _).alloc (Nat.le_refl _) _
  obtain ⟨A1, k1, s1, r1⟩ := hx.oldS.cut 3 (3 + (m : Int)) 3 m rfl rfl (by omega)
  simp only [List.drop_succ_cons, List.drop_zero] at r1
  have ht : (t.toNat : Int) = 3 := by subst h1; rfl
  clear hl hlt e0 e1 e2 hm0
  go_enter Try.func89, Try.ntmps89
  go_wp2_with fail
  go_quiet (fail)
  obtain ⟨W, hW⟩ : ∃ W, W = (w.alloc (.cells #[.int .i64 0, .int .u64 0, .slice none 0 0, .slice none 0 0] 33)).drewN nq := ⟨_, rfl⟩
  have hR : Blk W w.heap.size 33 #[.int .i64 0, .int .u64 0, .slice none 0 0, .slice none 0 0] := by rw [hW]; exact hblk.drewN _
  have hbW : Below w.heap.size w W := by rw [hW]; exact below_drewN hb0 _
  have cW : W.cell? ad = some (.int .u8 (t.toNat : Int)) := (hbW.cell hadb).trans c0
  have rW := r1.under (fun k h => h.2) hbW
  rw [← hW]
  clear hW hblk hb0 c0 c0' c1 c2 r1 hx
  obtain ⟨z0, z1, z2, z3, f0, f1, f2, f3, hz⟩ := hR.four
  rw [ht] at cW
  clear ht u0
  go_wp2_with fail
  exact bodyPost_ret (results_cell2 rfl rfl (load33 ((set4_blk hR _ _ _ _).alloc _))) rfl ⟨rfl, (set4_below hbW _ (Nat.le_refl _) _ _ _ _).alloc (by simp; omega) _⟩
set_option maxRecDepth 10000 in
set_option maxHeartbeats 2000000 in
theorem rread_big (d : Nat) (w : World) (S : Nat → Prop) (A : Option Addr) (n c : Nat) (t h l : UInt8) (xs : List UInt8) (hx : Bs w S A n c (t :: h :: l :: xs)) (hn : n ≤ 1000000000) (hlt : ¬ xs.length < h.toNat * 256 + l.toNat) (h1 : t = 1) (h8 : 8 < h.toNat * 256 + l.toNat) :
    Calls Try.prog 89 #[.slice A n c, .int .i64 (d : Int)] w fun e w' => e = .returned (.tuple #[.agg #[.int .i64 0, .int .u64 0, .slice none 0 0, .slice none 0 0], .int .i64 0]) ∧ Below w.heap.size w w' := by
  have hl := hx.len
  simp only [List.length_cons] at hl
  have h3 : ¬ n < 3 := by omega
  obtain ⟨ad, b0, rfl, e0, c0⟩ := hx.at0 (by omega)
  obtain ⟨_, b1, he, e1, c1⟩ := hx.atS 0 (by omega)
  cases he
  obtain ⟨_, b2, he, e2, c2⟩ := hx.atS 1 (by omega)
  cases he
  obtain rfl : t = b0 := by simpa using e0.out
  obtain rfl : h = b1 := by simpa using e1.out
  obtain rfl : l = b2 := by simpa using e2.out
  have hadb : ad.block < w.heap.size := by
    obtain ⟨ad', he, h', _⟩ := hx.oldS.rd.2 (by omega)
    cases he
    exact h'.2
  have c0' : (w.alloc (.cells #[.int .i64 0, .int .u64 0, .slice none 0 0, .slice none 0 0] 33)).cell? ad = _ := (World.cell?_alloc_lt _ _ _ hadb).trans c0
  have n1 : ((1:Int) < (n : Int)) := by omega
  have n2 : ((2:Int) < (n : Int)) := by omega
  have n0 : ((0:Int) < (n : Int)) := by omega
  have u1 := u8_lt h
  have u2 := u8_lt l
  have u0 := u8_lt t
  obtain ⟨m, hm0⟩ : ∃ m, m = h.toNat * 256 + l.toNat := ⟨_, rfl⟩
  have hm : (h.toNat : Int) * 256 + (l.toNat : Int) = (m : Int) := by omega
  have hm16 : m ≤ 65535 := by have := h.toNat_lt; have := l.toNat_lt; omega
  rw [← hm0] at hlt
  have Hm0 := Lib.hid hm0
  have d1 : decide ((n : Int) < 3 + (m : Int)) = false := by simp; omega
  have hblk := Blk.new w 33 #[.int .i64 0, .int .u64 0, .slice none 0 0, .slice none 0 0]
  have hb0 : Below w.heap.size w (w.alloc (.cells #[.int .i64 0, .int .u64 0, .slice none 0 0, .slice none 0 0] 33)) := (Below.refl _ _).alloc (Nat.le_refl _) _
  obtain ⟨A1, k1, s1, r1⟩ := hx.oldS.cut 3 (3 + (m : Int)) 3 m rfl rfl (by omega)
  simp only [List.drop_succ_cons, List.drop_zero] at r1
  have ht : (t.toNat : Int) = 1 := by subst h1; rfl
  rw [← hm0] at h8
  have q8 : (8 : Int) < (m : Int) := by omega
  clear hl hlt e0 e1 e2 hm0
  go_enter Try.func89, Try.ntmps89
  go_wp2_with fail
  go_quiet (fail)
  obtain ⟨W, hW⟩ : ∃ W, W = (w.alloc (.cells #[.int .i64 0, .int .u64 0, .slice none 0 0, .slice none 0 0] 33)).drewN nq := ⟨_, rfl⟩
  have hR : Blk W w.heap.size 33 #[.int .i64 0, .int .u64 0, .slice none 0 0, .slice none 0 0] := by rw [hW]; exact hblk.drewN _
  have hbW : Below w.heap.size w W := by rw [hW]; exact below_drewN hb0 _
  have cW : W.cell? ad = some (.int .u8 (t.toNat : Int)) := (hbW.cell hadb).trans c0
  have rW := r1.under (fun k h => h.2) hbW
  rw [← hW]
  clear hW hblk hb0 c0 c0' c1 c2 r1 hx
  obtain ⟨z0, z1, z2, z3, f0, f1, f2, f3, hz⟩ := hR.four
  rw [ht] at cW
  clear ht u0
  go_wp2_with fail
  exact bodyPost_ret (results_cell2 rfl rfl (load33 ((set4_blk hR _ _ _ _).alloc _))) rfl ⟨rfl, (set4_below hbW _ (Nat.le_refl _) _ _ _ _).alloc (by simp; omega) _⟩
set_option maxRecDepth 10000 in
set_option maxHeartbeats 2000000 in
theorem rread_nought (d : Nat) (w : World) (S : Nat → Prop) (A : Option Addr) (n c : Nat) (t h l : UInt8) (xs : List UInt8) (hx : Bs w S A n c (t :: h :: l :: xs)) (hn : n ≤ 1000000000) (hlt : ¬ xs.length < h.toNat * 256 + l.toNat) (h1 : t = 1) (h8 : ¬ 8 < h.toNat * 256 + l.toNat) (hp : 0 < h.toNat * 256 + l.toNat) (h0 : xs.head? = some 0) :
    Calls Try.prog 89 #[.slice A n c, .int .i64 (d : Int)] w fun e w' => e = .returned (.tuple #[.agg #[.int .i64 0, .int .u64 0, .slice none 0 0, .slice none 0 0], .int .i64 0]) ∧ Below w.heap.size w w' := by
  have hl := hx.len
  simp only [List.length_cons] at hl
  have h3 : ¬ n < 3 := by omega
  obtain ⟨ad, b0, rfl, e0, c0⟩ := hx.at0 (by omega)
  obtain ⟨_, b1, he, e1, c1⟩ := hx.atS 0 (by omega)
  cases he
  obtain ⟨_, b2, he, e2, c2⟩ := hx.atS 1 (by omega)
  cases he
  obtain rfl : t = b0 := by simpa using e0.out
  obtain rfl : h = b1 := by simpa using e1.out
  obtain rfl : l = b2 := by simpa using e2.out
  have hadb : ad.block < w.heap.size := by
    obtain ⟨ad', he, h', _⟩ := hx.oldS.rd.2 (by omega)
    cases he
    exact h'.2
  have c0' : (w.alloc (.cells #[.int .i64 0, .int .u64 0, .slice none 0 0, .slice none 0 0] 33)).cell? ad = _ := (World.cell?_alloc_lt _ _ _ hadb).trans c0
  have n1 : ((1:Int) < (n : Int)) := by omega
  have n2 : ((2:Int) < (n : Int)) := by omega
  have n0 : ((0:Int) < (n : Int)) := by omega
  have u1 := u8_lt h
  have u2 := u8_lt l
  have u0 := u8_lt t
  obtain ⟨m, hm0⟩ : ∃ m, m = h.toNat * 256 + l.toNat := ⟨_, rfl⟩
  have hm : (h.toNat : Int) * 256 + (l.toNat : Int) = (m : Int) := by omega
  have hm16 : m ≤ 65535 := by have := h.toNat_lt; have := l.toNat_lt; omega
  rw [← hm0] at hlt
  have Hm0 := Lib.hid hm0
  have d1 : decide ((n : Int) < 3 + (m : Int)) = false := by simp; omega
  have hblk := Blk.new w 33 #[.int .i64 0, .int .u64 0, .slice none 0 0, .slice none 0 0]
  have hb0 : Below w.heap.size w (w.alloc (.cells #[.int .i64 0, .int .u64 0, .slice none 0 0, .slice none 0 0] 33)) := (Below.refl _ _).alloc (Nat.le_refl _) _
  obtain ⟨A1, k1, s1, r1⟩ := hx.oldS.cut 3 (3 + (m : Int)) 3 m rfl rfl (by omega)
  simp only [List.drop_succ_cons, List.drop_zero] at r1
  have ht : (t.toNat : Int) = 1 := by subst h1; rfl
  rw [← hm0] at h8 hp
  have q8 : ¬ (8 : Int) < (m : Int) := by omega
  have q0 : (0 : Int) < (m : Int) := by omega
  have H0 := Lib.hid h0
  clear h0
  clear hl hlt e0 e1 e2 hm0
  go_enter Try.func89, Try.ntmps89
  go_wp2_with fail
  go_quiet (fail)
  obtain ⟨W, hW⟩ : ∃ W, W = (w.alloc (.cells #[.int .i64 0, .int .u64 0, .slice none 0 0, .slice none 0 0] 33)).drewN nq := ⟨_, rfl⟩
  have hR : Blk W w.heap.size 33 #[.int .i64 0, .int .u64 0, .slice none 0 0, .slice none 0 0] := by rw [hW]; exact hblk.drewN _
  have hbW : Below w.heap.size w W := by rw [hW]; exact below_drewN hb0 _
  have cW : W.cell? ad = some (.int .u8 (t.toNat : Int)) := (hbW.cell hadb).trans c0
  have rW := r1.under (fun k h => h.2) hbW
  rw [← hW]
  clear hW hblk hb0 c0 c0' c1 c2 r1 hx
  obtain ⟨z0, z1, z2, z3, f0, f1, f2, f3, hz⟩ := hR.four
  rw [ht] at cW
  clear ht u0
  obtain ⟨ad1, y, rfl, hy0, hc0⟩ := rW.at0 hp
  obtain rfl : y = 0 := by
    have h1 := H0.out
    have h2 := hy0.out
    cases xs with
    | nil => simp at h1
    | cons x xs => simp [hp] at h1 h2; rw [← h2, h1]
  have hadb1 : ad1.block < w.heap.size := by
    obtain ⟨ad', he, h', _⟩ := rW.rd.2 hp
    cases he
    exact h'.2
  have hc1 : W.cell? ad1 = some (.int .u8 0) := hc0
  have hlt1 : ad1.block < W.heap.size := by omega
  clear hy0 hc0
  go_wp2_with fail
  exact bodyPost_ret (results_cell2 rfl rfl (load33 ((set4_blk hR _ _ _ _).alloc _))) rfl ⟨rfl, (set4_below hbW _ (Nat.le_refl _) _ _ _ _).alloc (by simp; omega) _⟩
end Go.Proofs.Ytaebmhbggbpnoaa
namespace Go.Proofs.Ytaebmhbggbpnoaa
open Go.RowKit
/-- What the plain reading leaves: n bytes came in. -/
def RReadPost (w : World) (n : Nat) : Option (TV × List UInt8) → Ending → World → Prop
  | none => fun e w' => e = .returned (.tuple #[.agg #[.int .i64 0, .int .u64 0, .slice none 0 0, .slice none 0 0], .int .i64 0]) ∧ Below w.heap.size w w'
  | some (v, rest) => fun e w' => ∃ (q : Quad) (k : Nat), e = .returned (.tuple #[q.agg, .int .i64 (k : Int)]) ∧ k + rest.length = n ∧ 3 ≤ k ∧ VR w' (fun k => w.heap.size ≤ k) q v ∧ Below w.heap.size w w'
/-- The last steps: the box is laid out, and read. -/
theorem rread_end {w W : World} {q : Quad} {v : TV} {rest : List UInt8} {n k : Nat} {kk : Int} (hkk : kk = (k : Int)) (hb : Below w.heap.size w W) (hv : VR W (fun k => w.heap.size < k) q v) (hk : k + rest.length = n) (h3 : 3 ≤ k) (a b c' d : Value) :
    RReadPost w n (some (v, rest)) (.returned (.tuple #[q.agg, .int .i64 kk])) ((((W.setCell ⟨w.heap.size, 0, none⟩ a).setCell ⟨w.heap.size, 1, none⟩ b).setCell ⟨w.heap.size, 2, none⟩ c').setCell ⟨w.heap.size, 3, none⟩ d) :=
  ⟨q, k, by rw [hkk], hk, h3, hv.keep (fun p hp _ => set4_other _ _ _ _ _ _ p (by omega)) (fun k hk _ => by omega), set4_below hb _ (Nat.le_refl _) _ _ _ _⟩
set_option maxRecDepth 10000 in
set_option maxHeartbeats 2000000 in
theorem rread_num0 (d : Nat) (w : World) (S : Nat → Prop) (A : Option Addr) (n c : Nat) (t h l : UInt8) (xs : List UInt8) (hx : Bs w S A n c (t :: h :: l :: xs)) (hn : n ≤ 1000000000) (hlt : ¬ xs.length < h.toNat * 256 + l.toNat) (h1 : t = 1) (h0 : h.toNat * 256 + l.toNat = 0) :
    Calls Try.prog 89 #[.slice A n c, .int .i64 (d : Int)] w (RReadPost w n (some (.mk 1 0 [] [], xs))) := by
  have hl := hx.len
  simp only [List.length_cons] at hl
  have h3 : ¬ n < 3 := by omega
  obtain ⟨ad, b0, rfl, e0, c0⟩ := hx.at0 (by omega)
  obtain ⟨_, b1, he, e1, c1⟩ := hx.atS 0 (by omega)
  cases he
  obtain ⟨_, b2, he, e2, c2⟩ := hx.atS 1 (by omega)
  cases he
  obtain rfl : t = b0 := by simpa using e0.out
  obtain rfl : h = b1 := by simpa using e1.out
  obtain rfl : l = b2 := by simpa using e2.out
  have hadb : ad.block < w.heap.size := by
    obtain ⟨ad', he, h', _⟩ := hx.oldS.rd.2 (by omega)
    cases he
    exact h'.2
  have c0' : (w.alloc (.cells #[.int .i64 0, .int .u64 0, .slice none 0 0, .slice none 0 0] 33)).cell? ad = _ := (World.cell?_alloc_lt _ _ _ hadb).trans c0
  have n1 : ((1:Int) < (n : Int)) := by omega
  have n2 : ((2:Int) < (n : Int)) := by omega
  have n0 : ((0:Int) < (n : Int)) := by omega
  have u1 := u8_lt h
  have u2 := u8_lt l
  have u0 := u8_lt t
  obtain ⟨m, hm0⟩ : ∃ m, m = h.toNat * 256 + l.toNat := ⟨_, rfl⟩
  have hm : (h.toNat : Int) * 256 + (l.toNat : Int) = (m : Int) := by omega
  have hm16 : m ≤ 65535 := by have := h.toNat_lt; have := l.toNat_lt; omega
  rw [← hm0] at hlt
  have Hm0 := Lib.hid hm0
  have d1 : decide ((n : Int) < 3 + (m : Int)) = false := by simp; omega
  have hblk := Blk.new w 33 #[.int .i64 0, .int .u64 0, .slice none 0 0, .slice none 0 0]
  have hb0 : Below w.heap.size w (w.alloc (.cells #[.int .i64 0, .int .u64 0, .slice none 0 0, .slice none 0 0] 33)) := (Below.refl _ _).alloc (Nat.le_refl _) _
  obtain ⟨A1, k1, s1, r1⟩ := hx.oldS.cut 3 (3 + (m : Int)) 3 m rfl rfl (by omega)
  simp only [List.drop_succ_cons, List.drop_zero] at r1
  have ht : (t.toNat : Int) = 1 := by subst h1; rfl
  rw [← hm0] at h0
  have Hlen : Hid (3 + m + xs.length = n) := Lib.hid (by omega)
  have q0 : ¬ (0 : Int) < (m : Int) := by omega
  have q8 : ¬ (8 : Int) < (m : Int) := by omega
  clear h0
  clear hl hlt e0 e1 e2 hm0
  go_enter Try.func89, Try.ntmps89
  go_wp2_with fail
  go_quiet (fail)
  obtain ⟨W, hW⟩ : ∃ W, W = (w.alloc (.cells #[.int .i64 0, .int .u64 0, .slice none 0 0, .slice none 0 0] 33)).drewN nq := ⟨_, rfl⟩
  have hR : Blk W w.heap.size 33 #[.int .i64 0, .int .u64 0, .slice none 0 0, .slice none 0 0] := by rw [hW]; exact hblk.drewN _
  have hbW : Below w.heap.size w W := by rw [hW]; exact below_drewN hb0 _
  have cW : W.cell? ad = some (.int .u8 (t.toNat : Int)) := (hbW.cell hadb).trans c0
  have rW := r1.under (fun k h => h.2) hbW
  rw [← hW]
  clear hW hblk hb0 c0 c0' c1 c2 r1 hx
  obtain ⟨z0, z1, z2, z3, f0, f1, f2, f3, hz⟩ := hR.four
  rw [ht] at cW
  clear ht u0
  have hB := Blk.new W 33 #[.int .i64 1, .int .u64 0, .slice none 0 0, .slice none 0 0]
  go_wp2_with fail
  refine wp_loop_rounds 1 ?_
  rw [rounds_succ]
  go_wp2_with fail
  refine bodyPost_ret (results_cell2 rfl rfl (load33 ((set4_blk hR _ _ _ _).alloc _))) rfl ?_
  exact ⟨⟨.int .i64 1, .int .u64 ((0 : Nat) : Int), .slice none 0 0, .slice none 0 0⟩, 3 + m, by simp [Quad.agg], Hlen.out, by omega, VR.shut (tag := 1) (n := 0) (by simp [u64ok]) (Bs.nil _ _ _) (by omega) (LR.nil _ _ _), (set4_below hbW _ (Nat.le_refl _) _ _ _ _).alloc (by simp; omega) _⟩
set_option maxRecDepth 10000 in
set_option maxHeartbeats 2000000 in
theorem rread_num1 (d : Nat) (w : World) (S : Nat → Prop) (A : Option Addr) (n c : Nat) (t h l : UInt8) (xs : List UInt8) (hx : Bs w S A n c (t :: h :: l :: xs)) (hn : n ≤ 1000000000) (hlt : ¬ xs.length < h.toNat * 256 + l.toNat) (h1 : t = 1) (h8 : ¬ 8 < h.toNat * 256 + l.toNat) (hp : 0 < h.toNat * 256 + l.toNat) (h0 : xs.head? ≠ some 0) :
    Calls Try.prog 89 #[.slice A n c, .int .i64 (d : Int)] w (RReadPost w n (some (.mk 1 (bigE (xs.take (h.toNat * 256 + l.toNat))) [] [], xs.drop (h.toNat * 256 + l.toNat)))) := by
  have hl := hx.len
  simp only [List.length_cons] at hl
  have h3 : ¬ n < 3 := by omega
  obtain ⟨ad, b0, rfl, e0, c0⟩ := hx.at0 (by omega)
  obtain ⟨_, b1, he, e1, c1⟩ := hx.atS 0 (by omega)
  cases he
  obtain ⟨_, b2, he, e2, c2⟩ := hx.atS 1 (by omega)
  cases he
  obtain rfl : t = b0 := by simpa using e0.out
  obtain rfl : h = b1 := by simpa using e1.out
  obtain rfl : l = b2 := by simpa using e2.out
  have hadb : ad.block < w.heap.size := by
    obtain ⟨ad', he, h', _⟩ := hx.oldS.rd.2 (by omega)
    cases he
    exact h'.2
  have c0' : (w.alloc (.cells #[.int .i64 0, .int .u64 0, .slice none 0 0, .slice none 0 0] 33)).cell? ad = _ := (World.cell?_alloc_lt _ _ _ hadb).trans c0
  have n1 : ((1:Int) < (n : Int)) := by omega
  have n2 : ((2:Int) < (n : Int)) := by omega
  have n0 : ((0:Int) < (n : Int)) := by omega
  have u1 := u8_lt h
  have u2 := u8_lt l
  have u0 := u8_lt t
  obtain ⟨m, hm0⟩ : ∃ m, m = h.toNat * 256 + l.toNat := ⟨_, rfl⟩
  have hm : (h.toNat : Int) * 256 + (l.toNat : Int) = (m : Int) := by omega
  have hm16 : m ≤ 65535 := by have := h.toNat_lt; have := l.toNat_lt; omega
  rw [← hm0] at hlt
  have Hm0 := Lib.hid hm0
  have d1 : decide ((n : Int) < 3 + (m : Int)) = false := by simp; omega
  have hblk := Blk.new w 33 #[.int .i64 0, .int .u64 0, .slice none 0 0, .slice none 0 0]
  have hb0 : Below w.heap.size w (w.alloc (.cells #[.int .i64 0, .int .u64 0, .slice none 0 0, .slice none 0 0] 33)) := (Below.refl _ _).alloc (Nat.le_refl _) _
  obtain ⟨A1, k1, s1, r1⟩ := hx.oldS.cut 3 (3 + (m : Int)) 3 m rfl rfl (by omega)
  simp only [List.drop_succ_cons, List.drop_zero] at r1
  have ht : (t.toNat : Int) = 1 := by subst h1; rfl
  rw [← hm0] at h8 hp
  have Hlen : Hid (3 + m + (xs.drop m).length = n) := Lib.hid (by simp; omega)
  have q0 : (0 : Int) < (m : Int) := by omega
  have q8 : ¬ (8 : Int) < (m : Int) := by omega
  have H0 := Lib.hid h0
  rw [← hm0]
  clear h0
  have hil : Hid ((xs.take m).length = m) := Lib.hid r1.len
  obtain ⟨inn, hinn⟩ : ∃ inn, inn = xs.take m := ⟨_, rfl⟩
  have H0' : Hid (inn.head? ≠ some 0) := Lib.hid (by
    rw [hinn]
    cases xs with
    | nil => simp
    | cons x xs =>
      cases m with
      | zero => simp
      | succ m => simpa using H0.out)
  rw [← hinn] at r1 hil ⊢
  clear H0 hinn
  clear hl hlt e0 e1 e2 hm0
  go_enter Try.func89, Try.ntmps89
  go_wp2_with fail
  go_quiet (fail)
  obtain ⟨W, hW⟩ : ∃ W, W = (w.alloc (.cells #[.int .i64 0, .int .u64 0, .slice none 0 0, .slice none 0 0] 33)).drewN nq := ⟨_, rfl⟩
  have hR : Blk W w.heap.size 33 #[.int .i64 0, .int .u64 0, .slice none 0 0, .slice none 0 0] := by rw [hW]; exact hblk.drewN _
  have hbW : Below w.heap.size w W := by rw [hW]; exact below_drewN hb0 _
  have cW : W.cell? ad = some (.int .u8 (t.toNat : Int)) := (hbW.cell hadb).trans c0
  have rW := r1.under (fun k h => h.2) hbW
  rw [← hW]
  clear hW hblk hb0 c0 c0' c1 c2 r1 hx
  obtain ⟨z0, z1, z2, z3, f0, f1, f2, f3, hz⟩ := hR.four
  rw [ht] at cW
  clear ht u0
  obtain ⟨ad1, y, rfl, hy0, hc0⟩ := rW.at0 hp
  have hyne : ((y.toNat : Int) == 0) = false := by
    have h1 := hy0.out
    have h2 := H0'.out
    cases inn with
    | nil => simp at h1
    | cons x xs => simp at h1 h2; subst h1; simp; exact fun e => h2 (UInt8.toNat_inj.1 (by simpa using e))
  have hadb1 : ad1.block < w.heap.size := by
    obtain ⟨ad', he, h', _⟩ := rW.rd.2 hp
    cases he
    exact h'.2
  have hlt1 : ad1.block < W.heap.size := by omega
  clear hy0
  go_wp2_with fail
  go_loopw [9] (fun i wr => ∃ k : Nat, k ≤ m ∧ i = .int .i64 k ∧ Hid (Blk wr W.heap.size 33 #[.int .i64 1, .int .u64 (bigE (inn.take k) : Int), .slice none 0 0, .slice none 0 0]) ∧ Hid (Below W.heap.size W wr)) (fun i _ => m - (intOf i).toNat)
  case atStart => exact ⟨0, Nat.zero_le _, rfl, Lib.hid (Blk.new W 33 _), Lib.hid ((Below.refl _ _).alloc (Nat.le_refl _) _)⟩
  case round =>
    clear z0 z1 z2 z3 f0 f1 f2 f3 hc0 cW
    obtain ⟨k, hk, rfl, hB, hbr⟩ := hrel
    obtain ⟨z0, z1, z2, z3, f0, f1, f2, f3, hz'⟩ := hB.out.four
    by_cases hlt : k < m
    · obtain ⟨ad', b', he, hb', hc'⟩ := (rW.after hbr.out).at_ hlt
      cases he
      have hu := u8_lt b'
      have hle : bigE (inn.take k) ≤ 72057594037927935 := bigE_le (by omega)
      have hsn := Lib.hid (bigE_take hb'.out)
      obtain ⟨N, hN⟩ : ∃ N, N = bigE (inn.take k) := ⟨_, rfl⟩
      rw [← hN] at hle hsn hB z1
      have hsum : (N : Int) * 256 + (b'.toNat : Int) = ((bigE (inn.take (k + 1)) : Nat) : Int) := by rw [hsn.out]; omega
      have hlt2 : (k : Int) < (m : Int) := by omega
      clear hN
      go_wp2_with fail
      go_region
      go_wp2_with fail
      refine ⟨⟨k + 1, by omega, by go_num, Lib.hid ?_, Lib.hid (hbr.out.setCell (p := ⟨W.heap.size, 1, none⟩) (Nat.le_refl _) _).drew⟩, by simp [intOf]; omega⟩
      exact (hB.out.set_ 1 _).drew
    · obtain rfl : k = m := by omega
      have e : inn.take k = inn := List.take_of_length_le (by have := hil.out; omega)
      rw [e] at hB z1
      have hok := bigE_ok (show inn.length ≤ 8 by have := hil.out; omega)
      have hbb : Below w.heap.size w wr := hbW.trans (hbr.out.mono (by omega))
      have hR2 := hR.after hbr.out
      generalize hN : bigE inn = N at z1
      have HN := Lib.hid hN
      clear hN hB
      obtain ⟨y0, y1, y2, y3, g0, g1, g2, g3, hy⟩ := hR2.four
      go_wp2_with fail
      refine bodyPost_ret (results_cell2 rfl rfl (load33 (set4_blk hR2 _ _ _ _))) rfl ?_
      rw [← HN.out]
      exact rread_end (k := 3 + k) (kk := 3 + (k : Int)) (by omega) hbb (VR.shut (tag := 1) hok (Bs.nil _ _ _) (by omega) (LR.nil _ _ _)) Hlen.out (by omega) _ _ _ _
set_option maxRecDepth 10000 in
set_option maxHeartbeats 2000000 in
theorem rread_bytes (d : Nat) (w : World) (S : Nat → Prop) (A : Option Addr) (n c : Nat) (t h l : UInt8) (xs : List UInt8) (hx : Bs w S A n c (t :: h :: l :: xs)) (hn : n ≤ 1000000000) (hlt : ¬ xs.length < h.toNat * 256 + l.toNat) (h1 : t = 2) :
    Calls Try.prog 89 #[.slice A n c, .int .i64 (d : Int)] w (RReadPost w n (some (.mk 2 0 (xs.take (h.toNat * 256 + l.toNat)) [], xs.drop (h.toNat * 256 + l.toNat)))) := by
  have hl := hx.len
  simp only [List.length_cons] at hl
  have h3 : ¬ n < 3 := by omega
  obtain ⟨ad, b0, rfl, e0, c0⟩ := hx.at0 (by omega)
  obtain ⟨_, b1, he, e1, c1⟩ := hx.atS 0 (by omega)
  cases he
  obtain ⟨_, b2, he, e2, c2⟩ := hx.atS 1 (by omega)
  cases he
  obtain rfl : t = b0 := by simpa using e0.out
  obtain rfl : h = b1 := by simpa using e1.out
  obtain rfl : l = b2 := by simpa using e2.out
  have hadb : ad.block < w.heap.size := by
    obtain ⟨ad', he, h', _⟩ := hx.oldS.rd.2 (by omega)
    cases he
    exact h'.2
  have c0' : (w.alloc (.cells #[.int .i64 0, .int .u64 0, .slice none 0 0, .slice none 0 0] 33)).cell? ad = _ := (World.cell?_alloc_lt _ _ _ hadb).trans c0
  have n1 : ((1:Int) < (n : Int)) := by omega
  have n2 : ((2:Int) < (n : Int)) := by omega
  have n0 : ((0:Int) < (n : Int)) := by omega
  have u1 := u8_lt h
  have u2 := u8_lt l
  have u0 := u8_lt t
  obtain ⟨m, hm0⟩ : ∃ m, m = h.toNat * 256 + l.toNat := ⟨_, rfl⟩
  have hm : (h.toNat : Int) * 256 + (l.toNat : Int) = (m : Int) := by omega
  have hm16 : m ≤ 65535 := by have := h.toNat_lt; have := l.toNat_lt; omega
  rw [← hm0] at hlt
  have Hm0 := Lib.hid hm0
  have d1 : decide ((n : Int) < 3 + (m : Int)) = false := by simp; omega
  have hblk := Blk.new w 33 #[.int .i64 0, .int .u64 0, .slice none 0 0, .slice none 0 0]
  have hb0 : Below w.heap.size w (w.alloc (.cells #[.int .i64 0, .int .u64 0, .slice none 0 0, .slice none 0 0] 33)) := (Below.refl _ _).alloc (Nat.le_refl _) _
  obtain ⟨A1, k1, s1, r1⟩ := hx.oldS.cut 3 (3 + (m : Int)) 3 m rfl rfl (by omega)
  simp only [List.drop_succ_cons, List.drop_zero] at r1
  have ht : (t.toNat : Int) = 2 := by subst h1; rfl
  have Hlen : Hid (3 + m + (xs.drop m).length = n) := Lib.hid (by simp; omega)
  rw [← hm0]
  generalize xs.take m = inn at r1 ⊢
  clear hl hlt e0 e1 e2 hm0
  go_enter Try.func89, Try.ntmps89
  go_wp2_with fail
  go_quiet (fail)
  obtain ⟨W, hW⟩ : ∃ W, W = (w.alloc (.cells #[.int .i64 0, .int .u64 0, .slice none 0 0, .slice none 0 0] 33)).drewN nq := ⟨_, rfl⟩
  have hR : Blk W w.heap.size 33 #[.int .i64 0, .int .u64 0, .slice none 0 0, .slice none 0 0] := by rw [hW]; exact hblk.drewN _
  have hbW : Below w.heap.size w W := by rw [hW]; exact below_drewN hb0 _
  have cW : W.cell? ad = some (.int .u8 (t.toNat : Int)) := (hbW.cell hadb).trans c0
  have rW := r1.under (fun k h => h.2) hbW
  rw [← hW]
  clear hW hblk hb0 c0 c0' c1 c2 r1 hx
  obtain ⟨z0, z1, z2, z3, f0, f1, f2, f3, hz⟩ := hR.four
  rw [ht] at cW
  clear ht u0
  have hrw2 := rW.after (w' := W.alloc (.cells #[.int .i64 2, .int .u64 0, .slice none 0 0, .slice none 0 0] 33)) ((Below.refl _ _).alloc (Nat.le_refl _) _)
  have hB := (Blk.new W 33 #[.int .i64 2, .int .u64 0, .slice none 0 0, .slice none 0 0])
  have hbA : Below w.heap.size w (W.alloc (.cells #[.int .i64 2, .int .u64 0, .slice none 0 0, .slice none 0 0] 33)) := hbW.alloc (Nat.le_of_lt hz) _
  have hRA := hR.alloc (.cells #[.int .i64 2, .int .u64 0, .slice none 0 0, .slice none 0 0] 33)
  clear rW
  go_wp2_with (at_builtin; go_must ((refine wpList_append_u8 (A := A1) (m := m) (c := k1) (ys := inn) (v := .slice none 0 0) (n := 0) (xs := []) (base := W.heap.size + 1) rfl (.tmp 78) (.tmp 79) rfl rfl (World.ownsRow_nil _ _ _ _) rfl hrw2 (by omega) (by simp) ?_; intro v1 w1 hown hg hat; simp only [Nat.zero_add, List.nil_append] at hown; obtain ⟨A3, c3, rfl, hc3⟩ := own_shape hown; obtain ⟨y0, y1, y2, y3, g0, g1, g2, g3, hy⟩ := (hB.grown hg (by simp [Value.ownBlock])).four; have hR2 := (hRA.grown hg (by simp [Value.ownBlock])); obtain ⟨z0, z1, z2, z3, f0, f1, f2, f3, hz2⟩ := hR2.four; have hne1 : ¬ W.heap.size = w.heap.size := (by omega); have hne2 : ¬ w.heap.size = W.heap.size := (by omega))))
  have hR3 := hR2.far (p := ⟨W.heap.size, 2, none⟩) (by dsimp only; omega) (.slice A3 m c3)
  refine bodyPost_ret (results_cell2 rfl rfl (load33 (set4_blk hR3 _ _ _ _))) rfl ?_
  obtain ⟨_, _, he, hbs⟩ := own_bs hown
  cases he
  have hb1 : Below w.heap.size w w1 := hbA.grown hg (by simp; omega) (by simp [Value.ownBlock])
  exact rread_end (k := 3 + m) (kk := 3 + (m : Int)) (by omega) (hb1.setCell (p := ⟨W.heap.size, 2, none⟩) (Nat.le_of_lt hz) _) (VR.shut (tag := 2) (n := 0) (by simp [u64ok]) (hbs.keep (fun p hp _ => World.cell?_setCell_other _ _ _ _ (fun e => by subst e; simp at hp; omega)) (fun k hk _ => by omega)) (by omega) (LR.nil _ _ _)) Hlen.out (by omega) _ _ _ _
end Go.Proofs.Ytaebmhbggbpnoaa
namespace Go.Proofs.Ytaebmhbggbpnoaa
open Go.RowKit
theorem splitT_drop {bs inn rest : List UInt8} {t : Nat} (hs : splitT bs = some (t, inn, rest)) : rest = bs.drop (bs.length - rest.length) := by
  have hlen := (splitT_short hs).2
  match bs, hs with
  | t' :: h :: l :: xs, hs =>
    simp only [splitT] at hs
    split at hs
    · rename_i hle
      simp only [Option.some.injEq, Prod.mk.injEq] at hs
      obtain ⟨rfl, rfl, rfl⟩ := hs
      have e : (t' :: h :: l :: xs).length - (xs.drop (h.toNat * 256 + l.toNat)).length = h.toNat * 256 + l.toNat + 1 + 1 + 1 := by simp; omega
      rw [e]
      simp
    · cases hs
theorem readT_drop {d : Nat} {b rest : List UInt8} {v : TV} (h : readT d b = some (v, rest)) : rest = b.drop (b.length - rest.length) := by
  unfold readT at h
  split at h
  · cases h
  · rename_i t inn rest' hs
    have key : rest = rest' := by
      split at h
      · split at h
        · injection h with h; injection h with _ h; exact h.symm
        · cases h
      · split at h
        · injection h with h; injection h with _ h; exact h.symm
        · split at h
          · split at h
            · cases h
            · rw [Option.map_eq_some_iff] at h
              obtain ⟨l, _, h⟩ := h
              injection h with _ h
              exact h.symm
          · cases h
    subst key
    exact splitT_drop hs
def RReadSaid (d : Nat) : Prop := ∀ (w : World) (S : Nat → Prop) (A : Option Addr) (n c : Nat) (bs : List UInt8), Bs w S A n c bs → n ≤ 1000000000 → Calls Try.prog 89 #[.slice A n c, .int .i64 (d : Int)] w (RReadPost w n (readT d bs))
set_option maxRecDepth 10000 in
set_option maxHeartbeats 4000000 in
theorem rread_list (d : Nat) (w : World) (S : Nat → Prop) (A : Option Addr) (n c : Nat) (t h l : UInt8) (xs : List UInt8) (hx : Bs w S A n c (t :: h :: l :: xs)) (hn : n ≤ 1000000000) (hlt : ¬ xs.length < h.toNat * 256 + l.toNat) (hd : d ≤ 1000000) (ih : RReadSaid d) (h1 : t = 3) :
    Calls Try.prog 89 #[.slice A n c, .int .i64 ((d + 1 : Nat) : Int)] w (RReadPost w n ((readAll (readT d) (xs.take (h.toNat * 256 + l.toNat))).map fun y => (.mk 3 0 [] y, xs.drop (h.toNat * 256 + l.toNat)))) := by
  have hl := hx.len
  simp only [List.length_cons] at hl
  have h3 : ¬ n < 3 := by omega
  obtain ⟨ad, b0, rfl, e0, c0⟩ := hx.at0 (by omega)
  obtain ⟨_, b1, he, e1, c1⟩ := hx.atS 0 (by omega)
  cases he
  obtain ⟨_, b2, he, e2, c2⟩ := hx.atS 1 (by omega)
  cases he
  obtain rfl : t = b0 := by simpa using e0.out
  obtain rfl : h = b1 := by simpa using e1.out
  obtain rfl : l = b2 := by simpa using e2.out
  have hadb : ad.block < w.heap.size := by
    obtain ⟨ad', he, h', _⟩ := hx.oldS.rd.2 (by omega)
    cases he
    exact h'.2
  have c0' : (w.alloc (.cells #[.int .i64 0, .int .u64 0, .slice none 0 0, .slice none 0 0] 33)).cell? ad = _ := (World.cell?_alloc_lt _ _ _ hadb).trans c0
  have n1 : ((1:Int) < (n : Int)) := by omega
  have n2 : ((2:Int) < (n : Int)) := by omega
  have n0 : ((0:Int) < (n : Int)) := by omega
  have u1 := u8_lt h
  have u2 := u8_lt l
  have u0 := u8_lt t
  obtain ⟨m, hm0⟩ : ∃ m, m = h.toNat * 256 + l.toNat := ⟨_, rfl⟩
  have hm : (h.toNat : Int) * 256 + (l.toNat : Int) = (m : Int) := by omega
  have hm16 : m ≤ 65535 := by have := h.toNat_lt; have := l.toNat_lt; omega
  rw [← hm0] at hlt
  have Hm0 := Lib.hid hm0
  have d1 : decide ((n : Int) < 3 + (m : Int)) = false := by simp; omega
  have hblk := Blk.new w 33 #[.int .i64 0, .int .u64 0, .slice none 0 0, .slice none 0 0]
  have hb0 : Below w.heap.size w (w.alloc (.cells #[.int .i64 0, .int .u64 0, .slice none 0 0, .slice none 0 0] 33)) := (Below.refl _ _).alloc (Nat.le_refl _) _
  obtain ⟨A1, k1, s1, r1⟩ := hx.oldS.cut 3 (3 + (m : Int)) 3 m rfl rfl (by omega)
  simp only [List.drop_succ_cons, List.drop_zero] at r1
  have ht : (t.toNat : Int) = 3 := by subst h1; rfl
  have Hlen : Hid (3 + m + (xs.drop m).length = n) := Lib.hid (by simp; omega)
  have IH := Lib.hid ih
  clear ih
  rw [← hm0]
  have hil : Hid ((xs.take m).length = m) := Lib.hid r1.len
  generalize xs.take m = inn at r1 hil ⊢
  generalize xs.drop m = rest at Hlen ⊢
  have hd0 : (((d + 1 : Nat) : Int) == 0) = false := by simp; omega
  clear hl hlt e0 e1 e2 hm0
  go_enter Try.func89, Try.ntmps89
  go_wp2_with fail
  go_quiet (fail)
  obtain ⟨W, hW⟩ : ∃ W, W = (w.alloc (.cells #[.int .i64 0, .int .u64 0, .slice none 0 0, .slice none 0 0] 33)).drewN nq := ⟨_, rfl⟩
  have hR : Blk W w.heap.size 33 #[.int .i64 0, .int .u64 0, .slice none 0 0, .slice none 0 0] := by rw [hW]; exact hblk.drewN _
  have hbW : Below w.heap.size w W := by rw [hW]; exact below_drewN hb0 _
  have cW : W.cell? ad = some (.int .u8 (t.toNat : Int)) := (hbW.cell hadb).trans c0
  have rW := r1.under (fun k h => h.2) hbW
  rw [← hW]
  clear hW hblk hb0 c0 c0' c1 c2 r1 hx
  obtain ⟨z0, z1, z2, z3, f0, f1, f2, f3, hz⟩ := hR.four
  rw [ht] at cW
  clear ht u0
  have hB := (Blk.new W 33 #[.int .i64 3, .int .u64 0, .slice none 0 0, .slice none 0 0])
  go_wp2_with fail
  go_loopg [5, 10] m (fun gk v5 v10 wr => ∃ (k : Nat) (acc : List TV) (Al : Option Addr) (cl : Nat), gk + k = m ∧ v5 = .int .i64 0 ∧ v10 = .int .i64 (k : Int) ∧ acc.length ≤ k ∧
    Hid (Blk wr W.heap.size 33 #[.int .i64 3, .int .u64 0, .slice none 0 0, .slice Al acc.length cl]) ∧ Hid (LO wr (fun k => W.heap.size < k) (W.heap.size + 1) 33 (.slice Al acc.length cl) acc.length acc) ∧ Hid (Below W.heap.size W wr) ∧ Hid (readAll (readT d) inn = (readAll (readT d) (inn.drop k)).map (acc ++ ·)))
  case atStart => exact ⟨0, [], none, 0, by omega, rfl, rfl, Nat.le_refl _, Lib.hid hB, Lib.hid (LO.nil _ _ _ _), Lib.hid ((Below.refl _ _).alloc (Nat.le_refl _) _), Lib.hid (by simp)⟩
  case round =>
    clear z0 z1 z2 z3 f0 f1 f2 f3 cW hB
    obtain ⟨k, acc, Al, cl, hgk, rfl, rfl, hac, hB, hLO, hbel, heq⟩ := hrel
    have HG := Lib.hid hgk
    obtain ⟨z0, z1, z2, z3, f0, f1, f2, f3, hz'⟩ := hB.out.four
    by_cases hp : 0 < gk
    · have hkm : (k : Int) < (m : Int) := by omega
      have hkm' : k ≤ m := by omega
      clear hgk
      obtain ⟨A4, c4, s4, r4⟩ := (rW.after hbel.out).from_ (k : Int) k (m - k) rfl (by omega)
      have IC := Lib.hid (IH.out wr _ A4 (m - k) c4 _ r4 (by omega))
      have hcl : Hid ((inn.drop k).length = m - k) := Lib.hid r4.len
      have hne : Hid (inn.drop k ≠ []) := Lib.hid (by have h5 := r4.len; have h6 := HG.out; intro e; rw [e] at h5; simp at h5; omega)
      go_wp2_with fail
      refine (IC.out).mono ?_
      clear IC
      cases hread : readT d (inn.drop k) with
      | none =>
        rintro e w2 ⟨rfl, hb2⟩
        have hnone : Hid (readAll (readT d) inn = none) := Lib.hid (by rw [heq.out, readAll_none hne.out hread]; rfl)
        have hR2 := hR.after (hbel.out.trans (hb2.mono (by omega)))
        have hbb := hbW.trans ((hbel.out.trans (hb2.mono (by omega))).mono (by omega))
        have HH := Lib.hid (And.intro hread hbb)
        clear hread hb2 hbb z0 z1 z2 z3 f0 f1 f2 f3
        obtain ⟨z0, z1, z2, z3, f0, f1, f2, f3, hz2⟩ := hR2.four
        go_wp2_with fail
        refine bodyPost_ret (results_cell2 rfl rfl (load33 ((set4_blk hR2 _ _ _ _).alloc _))) rfl ?_
        rw [hnone.out]
        exact ⟨rfl, (set4_below HH.out.2 _ (Nat.le_refl _) _ _ _ _).alloc (by simp; omega) _⟩
      | some p =>
        obtain ⟨x, rest'⟩ := p
        rintro e w2 ⟨q, kk, rfl, hkl, hk3, hv, hb2⟩
        have hshort := readT_short hread
        have hdrop : rest' = inn.drop (k + kk) := by
          have h1 := readT_drop hread
          have h2 := hcl.out
          rw [h1, List.drop_drop]
          congr 1
          omega
        have hsome : readAll (readT d) inn = (readAll (readT d) (inn.drop (k + kk))).map ((acc ++ [x]) ++ ·) := by
          rw [heq.out, readAll_some hne.out hread (by omega), Option.map_map, ← hdrop]
          congr 1
          funext y
          simp
        obtain ⟨tag, nn, bb, ll, A5, A6, n5, c5, n6, c6, rfl, rfl, -⟩ := hv.opens
        have hw3 : Below wr.heap.size wr (w2.alloc (.cells #[.int .i64 tag, .int .u64 (nn : Int), .slice A5 n5 c5, .slice A6 n6 c6] 33)) := hb2.alloc hb2.size _
        have hv3 : VR (w2.alloc (.cells #[.int .i64 tag, .int .u64 (nn : Int), .slice A5 n5 c5, .slice A6 n6 c6] 33)) (fun k => wr.heap.size ≤ k) ⟨.int .i64 tag, .int .u64 (nn : Int), .slice A5 n5 c5, .slice A6 n6 c6⟩ (.mk tag nn bb ll) := hv.keep (fun p _ hlt => World.cell?_alloc_lt _ _ _ hlt) (fun k hk _ => hk)
        obtain ⟨qs, hq, hown, hch, hvn, hrn⟩ := hLO.out.ready (e' := 33) hw3 hv3 (fun k hk _ => ⟨by omega, fun he => by obtain ⟨_, _, _, _, ho, _⟩ := hLO.out; have := (ho.lt _ he.symm).2; omega⟩)
        simp only [World.size_alloc] at hrn
        obtain ⟨i0, hi0, hj0, hj1, hj2⟩ := info_parts Try.info33
        have hw4 := hw3.alloc hw3.size (.cells #[.int .i64 tag, .int .u64 (nn : Int), .slice A5 n5 c5, .slice A6 n6 c6] 33)
        have hnb : some W.heap.size ≠ (Value.slice Al acc.length cl).ownBlock := fun e => by have := (hown.lt _ e.symm).1; omega
        have hB3 := hB.out.after hw4
        have hBw2 := hB.out.after hb2
        have hk0 : ((kk : Int) == 0) = false := by simp; omega
        have hz2 : W.heap.size < w2.heap.size := hBw2.lt
        have hkk : k + kk ≤ m := by have := hcl.out; omega
        have H : Hid (readT d (inn.drop k) = some (.mk tag nn bb ll, rest') ∧ readAll (readT d) inn = (readAll (readT d) (inn.drop (k + kk))).map ((acc ++ [.mk tag nn bb ll]) ++ ·) ∧ qs.length = acc.length) := Lib.hid ⟨hread, hsome, hq⟩
        have HH := Lib.hid (And.intro hB3 (And.intro hw4 hnb))
        have hac2 : acc.length ≤ 65535 := by omega
        clear hread hsome hq z0 z1 z2 z3 f0 f1 f2 f3 hdrop hkl hshort
        obtain ⟨z0, z1, z2, z3, f0, f1, f2, f3, hz2'⟩ := hBw2.four
        clear hb2 hw3 hw4 hB3 hnb hBw2
        dsimp only [Quad.agg]
        go_wp2_with (at_builtin; go_must ((refine wpList_append_any _ rfl (.tmp 103) (.tmp 105) 31 rfl (W.heap.size + 1) 33 i0 _ 4 64 Try.underlying31 hi0 hj0 hj1 hj2 rfl (by omega) (.slice Al acc.length cl) acc.length (flat qs) rfl hown AnyB _ 1 1 (flat [⟨.int .i64 tag, .int .u64 (nn : Int), .slice A5 n5 c5, .slice A6 n6 c6⟩]) rfl hrn hvn.cells_one' (by simp only [maxLen]; omega) (by omega) (by simp; omega) ?_; intro v4 w4 hown4 hg4 hat4; obtain ⟨A7, c7, rfl, hc7⟩ := own_shape hown4; have hB4 := HH.out.1.grown hg4 HH.out.2.2; obtain ⟨k0, k1, k2, k3, m0, m1, m2, m3, hz4⟩ := hB4.four)))
        go_roundg (gk - kk)
        case measure => omega
        case rel =>
          obtain ⟨hB3, hw4, hnb⟩ := HH.out
          obtain ⟨hread, hsome, hq⟩ := H.out
          have hfew : acc.length + 1 ≤ 1000000000 := by omega
          have hL5 := (LO.snoc hq rfl hfew hown4 hg4 hat4 hch hvn).setCell (p := ⟨W.heap.size, 3, none⟩) (fun e => by have := (hown4.lt _ e).1; dsimp only at this; omega) (fun k hk => by dsimp only; omega) (.slice A7 (acc.length + 1) c7)
          have hB5 := hB4.set_ 3 (.slice A7 (acc.length + 1) c7)
          have hrow : ∀ k, (Value.slice Al acc.length cl).ownBlock = some k → W.heap.size ≤ k := fun k hk => by have := (hown.lt k hk).1; omega
          have hbr : Below W.heap.size wr w4 := (hw4.mono (Nat.le_of_lt hz')).grown hg4 (by have := hw4.size; omega) hrow
          have hlen : (acc ++ [TV.mk tag nn bb ll]).length = acc.length + 1 := by simp
          have hg := HG.out
          refine ⟨k + kk, acc ++ [.mk tag nn bb ll], A7, c7, by omega, rfl, by go_num, by rw [hlen]; omega, ?_, ?_, Lib.hid ((hbel.out.trans hbr).setCell (p := ⟨W.heap.size, 3, none⟩) (Nat.le_refl _) _), Lib.hid hsome⟩
          · rw [hlen]; exact Lib.hid hB5
          · rw [hlen]; exact Lib.hid hL5
    · obtain rfl : k = m := by omega
      clear HG
      have hnil : Hid (readAll (readT d) inn = some acc) := by
        have := heq.out
        rw [List.drop_of_length_le (by have := hil.out; omega), readAll_nil] at this
        exact Lib.hid (by simpa using this)
      have hR2 := hR.after hbel.out
      have hbb := hbW.trans (hbel.out.mono (Nat.le_of_lt hz))
      obtain ⟨y0, y1, y2, y3, g0, g1, g2, g3, hy⟩ := hR2.four
      go_wp2_with fail
      refine bodyPost_ret (results_cell2 rfl rfl (load33 (set4_blk hR2 _ _ _ _))) rfl ?_
      rw [hnil.out]
      have hl := hLO.out.reads.keep (S' := fun k => w.heap.size < k) (fun _ _ _ => rfl) (fun k hk _ => by omega)
      exact rread_end (k := 3 + k) (kk := 3 + (k : Int)) (by omega) hbb (VR.shut (tag := 3) (n := 0) (by simp [u64ok]) (Bs.nil _ _ _) (by omega) hl) Hlen.out (by omega) _ _ _ _
theorem rread_any : ∀ d : Nat, d ≤ 1000000 → RReadSaid d := by
  intro d
  induction d with
  | zero =>
    intro _ w S A n c bs hx hn
    have hl := hx.len
    match bs, hl with
    | [], hl => exact rread_short 0 w A n c (by simp at hl; omega)
    | [_], hl => exact rread_short 0 w A n c (by simp at hl; omega)
    | [_, _], hl => exact rread_short 0 w A n c (by simp at hl; omega)
    | t :: h :: l :: xs, hl =>
      by_cases hlt : xs.length < h.toNat * 256 + l.toNat
      · have e : readT 0 (t :: h :: l :: xs) = none := by
          have : splitT (t :: h :: l :: xs) = none := by simp only [splitT]; rw [if_neg (by omega)]
          unfold readT
          rw [this]
        rw [e]
        exact rread_long 0 w S A n c t h l xs hx hn hlt
      · have hs : splitT (t :: h :: l :: xs) = some (t.toNat, xs.take (h.toNat * 256 + l.toNat), xs.drop (h.toNat * 256 + l.toNat)) := by simp only [splitT]; rw [if_pos (by omega)]
        have hil : (xs.take (h.toNat * 256 + l.toNat)).length = h.toNat * 256 + l.toNat := by rw [List.length_take]; omega
        unfold readT
        rw [hs]
        simp only
        by_cases h1 : t = 1
        · subst h1
          rw [if_pos (by rfl)]
          by_cases h0 : h.toNat * 256 + l.toNat = 0
          · have h2 := rread_num0 0 w S A n c 1 h l xs hx hn hlt rfl h0
            simp only [h0, List.take_zero, List.drop_zero]
            rw [if_pos (by simp)]
            exact h2
          · by_cases h8 : 8 < h.toNat * 256 + l.toNat
            · rw [if_neg (by omega)]
              exact rread_big 0 w S A n c 1 h l xs hx hn hlt rfl h8
            · by_cases hz : xs.head? = some 0
              · rw [if_neg ?_]
                · exact rread_nought 0 w S A n c 1 h l xs hx hn hlt rfl h8 (by omega) hz
                · rintro ⟨_, h2 | h2⟩
                  · rw [h2] at hil; simp at hil; omega
                  · exact h2 (by rw [List.head?_take, if_neg (by omega)]; exact hz)
              · rw [if_pos ⟨by omega, .inr (by rw [List.head?_take, if_neg (by omega)]; exact hz)⟩]
                exact rread_num1 0 w S A n c 1 h l xs hx hn hlt rfl h8 (by omega) hz
        · rw [if_neg (fun e => h1 (UInt8.toNat_inj.1 (by simpa using e)))]
          by_cases h2 : t = 2
          · subst h2
            rw [if_pos (by rfl)]
            exact rread_bytes 0 w S A n c 2 h l xs hx hn hlt rfl
          · rw [if_neg (fun e => h2 (UInt8.toNat_inj.1 (by simpa using e)))]
            by_cases h3 : t = 3
            · subst h3
              rw [if_pos (by rfl)]
              exact rread_deep w S A n c 3 h l xs hx hn hlt rfl
            · rw [if_neg (fun e => h3 (UInt8.toNat_inj.1 (by simpa using e)))]
              exact rread_other 0 w S A n c t h l xs hx hn hlt h1 h2 h3
  | succ d ih =>
    intro hd w S A n c bs hx hn
    have hl := hx.len
    match bs, hl with
    | [], hl => exact rread_short (d + 1) w A n c (by simp at hl; omega)
    | [_], hl => exact rread_short (d + 1) w A n c (by simp at hl; omega)
    | [_, _], hl => exact rread_short (d + 1) w A n c (by simp at hl; omega)
    | t :: h :: l :: xs, hl =>
      by_cases hlt : xs.length < h.toNat * 256 + l.toNat
      · have e : readT (d + 1) (t :: h :: l :: xs) = none := by
          have : splitT (t :: h :: l :: xs) = none := by simp only [splitT]; rw [if_neg (by omega)]
          unfold readT
          rw [this]
        rw [e]
        exact rread_long (d + 1) w S A n c t h l xs hx hn hlt
      · have hs : splitT (t :: h :: l :: xs) = some (t.toNat, xs.take (h.toNat * 256 + l.toNat), xs.drop (h.toNat * 256 + l.toNat)) := by simp only [splitT]; rw [if_pos (by omega)]
        have hil : (xs.take (h.toNat * 256 + l.toNat)).length = h.toNat * 256 + l.toNat := by rw [List.length_take]; omega
        unfold readT
        rw [hs]
        simp only
        by_cases h1 : t = 1
        · subst h1
          rw [if_pos (by rfl)]
          by_cases h0 : h.toNat * 256 + l.toNat = 0
          · have h2 := rread_num0 (d + 1) w S A n c 1 h l xs hx hn hlt rfl h0
            simp only [h0, List.take_zero, List.drop_zero]
            rw [if_pos (by simp)]
            exact h2
          · by_cases h8 : 8 < h.toNat * 256 + l.toNat
            · rw [if_neg (by omega)]
              exact rread_big (d + 1) w S A n c 1 h l xs hx hn hlt rfl h8
            · by_cases hz : xs.head? = some 0
              · rw [if_neg ?_]
                · exact rread_nought (d + 1) w S A n c 1 h l xs hx hn hlt rfl h8 (by omega) hz
                · rintro ⟨_, h2 | h2⟩
                  · rw [h2] at hil; simp at hil; omega
                  · exact h2 (by rw [List.head?_take, if_neg (by omega)]; exact hz)
              · rw [if_pos ⟨by omega, .inr (by rw [List.head?_take, if_neg (by omega)]; exact hz)⟩]
                exact rread_num1 (d + 1) w S A n c 1 h l xs hx hn hlt rfl h8 (by omega) hz
        · rw [if_neg (fun e => h1 (UInt8.toNat_inj.1 (by simpa using e)))]
          by_cases h2 : t = 2
          · subst h2
            rw [if_pos (by rfl)]
            exact rread_bytes (d + 1) w S A n c 2 h l xs hx hn hlt rfl
          · rw [if_neg (fun e => h2 (UInt8.toNat_inj.1 (by simpa using e)))]
            by_cases h3 : t = 3
            · subst h3
              rw [if_pos (by rfl)]
              exact rread_list d w S A n c 3 h l xs hx hn hlt (by omega) (ih (by omega)) rfl
            · rw [if_neg (fun e => h3 (UInt8.toNat_inj.1 (by simpa using e)))]
              exact rread_other (d + 1) w S A n c t h l xs hx hn hlt h1 h2 h3
end Go.Proofs.Ytaebmhbggbpnoaa
namespace Go.Proofs.Ytaebmhbggbpnoaa
open Go.RowKit
set_option maxRecDepth 10000 in
set_option maxHeartbeats 1000000 in
theorem rtake_none (w : World) (S : Nat → Prop) (A : Option Addr) (n c : Nat) (bs : List UInt8) (hx : Bs w S A n c bs) (hn : n ≤ 1000000000) (h : readT 8 bs = none) :
    Calls Try.prog 21 #[.slice A n c] w fun e w' => e = .returned (.tuple #[.agg #[.int .i64 0, .int .u64 0, .slice none 0 0, .slice none 0 0], .slice none 0 0, .int .i64 3]) ∧ Below w.heap.size w w' := by
  have K := rread_any 8 (by omega) (w.alloc (.cells #[.int .i64 0, .int .u64 0, .slice none 0 0, .slice none 0 0] 33)) S A n c bs (hx.after ((Below.refl _ _).alloc (Nat.le_refl _) _)) hn
  rw [h] at K
  have KK := Lib.hid K
  clear h K
  go_enter Try.func21, Try.ntmps21
  go_wp2_with fail
  refine (KK.out).mono ?_
  rintro e w1 ⟨rfl, hb⟩
  clear KK
  simp only [World.size_alloc] at hb
  have hblk : Blk w1 w.heap.size 33 _ := (Blk.new w 33 _).below hb (by omega)
  obtain ⟨z0, z1, z2, z3, f0, f1, f2, f3, hz⟩ := hblk.four
  have hb1 : Below w.heap.size w w1 := ((Below.refl _ _).alloc (Nat.le_refl _) _).trans (hb.mono (by omega))
  go_wp2_with fail
  exact bodyPost_ret (results_cell3 rfl rfl (load33 ((set4_blk hblk _ _ _ _).alloc _))) rfl ⟨rfl, (set4_below hb1 _ (Nat.le_refl _) _ _ _ _).alloc (by simp; omega) _⟩
set_option maxRecDepth 10000 in
set_option maxHeartbeats 1000000 in
theorem rtake_some (w : World) (S : Nat → Prop) (A : Option Addr) (n c : Nat) (bs rest : List UInt8) (v : TV) (hx : Bs w S A n c bs) (hn : n ≤ 1000000000) (h : readT 8 bs = some (v, rest)) :
    Calls Try.prog 21 #[.slice A n c] w fun e w' => ∃ q A' n' c', e = .returned (.tuple #[q.agg, .slice A' n' c', .int .i64 0]) ∧ VR w' (fun k => w.heap.size ≤ k) q v ∧ Bs w' S A' n' c' rest ∧ n' ≤ 1000000000 ∧ Below w.heap.size w w' := by
  have K := rread_any 8 (by omega) (w.alloc (.cells #[.int .i64 0, .int .u64 0, .slice none 0 0, .slice none 0 0] 33)) (fun k => S k ∧ k < w.heap.size) A n c bs (hx.oldS.after ((Below.refl _ _).alloc (Nat.le_refl _) _)) hn
  have hdrop := Lib.hid (readT_drop h)
  have hlen := hx.len
  rw [h] at K
  have KK := Lib.hid K
  clear h K
  go_enter Try.func21, Try.ntmps21
  go_wp2_with fail
  refine (KK.out).mono ?_
  rintro e w1 ⟨q, kk, rfl, hkk, hk3, hv, hb⟩
  clear KK
  simp only [World.size_alloc] at hb hv
  obtain ⟨tag, nn, bb, ll, A5, A6, n5, c5, n6, c6, rfl, rfl, -⟩ := hv.opens
  have hblk : Blk w1 w.heap.size 33 _ := (Blk.new w 33 _).below hb (by omega)
  obtain ⟨z0, z1, z2, z3, f0, f1, f2, f3, hz⟩ := hblk.four
  have hb1 : Below w.heap.size w w1 := ((Below.refl _ _).alloc (Nat.le_refl _) _).trans (hb.mono (by omega))
  have hk0 : ((kk : Int) == 0) = false := by simp; omega
  have hkn : kk ≤ n := by omega
  obtain ⟨A2, c2, s2, r2⟩ := hx.oldS.from_ (kk : Int) kk (n - kk) rfl (by omega)
  have hr2 : Bs w (fun k => S k ∧ k < w.heap.size) A2 (n - kk) c2 rest := by
    have e := hdrop.out
    rw [show bs.length - rest.length = kk from by omega] at e
    rwa [e]
  clear r2 hlen hkk
  dsimp only [Quad.agg]
  go_wp2_with fail
  go_region
  go_wp2_with fail
  refine bodyPost_ret (results_cell3 rfl rfl (load33 ((set4_blk hblk _ _ _ _).alloc _).drew)) rfl ?_
  have hbe := ((set4_below hb1 w.heap.size (Nat.le_refl _) (.int .i64 tag) (.int .u64 (nn : Int)) (.slice A5 n5 c5) (.slice A6 n6 c6)).alloc (by simp; omega) (.cells #[.int .i64 tag, .int .u64 (nn : Int), .slice A5 n5 c5, .slice A6 n6 c6] 33)).drew
  exact ⟨⟨.int .i64 tag, .int .u64 (nn : Int), .slice A5 n5 c5, .slice A6 n6 c6⟩, A2, n - kk, c2, rfl, hv.keep (fun p hp hlt => (World.cell?_alloc_lt _ _ _ (by simpa using hlt)).trans (set4_other _ _ _ _ _ _ p (by omega))) (fun k hk _ => by omega),
    (hr2.under (fun k h => h.2) hbe).mono (fun _ h => h.1), by omega, hbe⟩
set_option maxRecDepth 10000 in
set_option maxHeartbeats 1000000 in
theorem rget_none (w : World) (S : Nat → Prop) (A : Option Addr) (n c : Nat) (bs : List UInt8) (hx : Bs w S A n c bs) (hn : n ≤ 1000000000) (h : readT 8 bs = none) :
    Calls Try.prog 23 #[.slice A n c] w fun e w' => e = .returned (.tuple #[.agg #[.int .i64 0, .int .u64 0, .slice none 0 0, .slice none 0 0], .int .i64 3]) ∧ Below w.heap.size w w' := by
  have KK := Lib.hid (rtake_none (w.alloc (.cells #[.int .i64 0, .int .u64 0, .slice none 0 0, .slice none 0 0] 33)) S A n c bs (hx.after ((Below.refl _ _).alloc (Nat.le_refl _) _)) hn h)
  clear h
  go_enter Try.func23, Try.ntmps23
  go_wp2_with fail
  refine (KK.out).mono ?_
  rintro e w1 ⟨rfl, hb⟩
  clear KK
  simp only [World.size_alloc] at hb
  have hblk : Blk w1 w.heap.size 33 _ := (Blk.new w 33 _).below hb (by omega)
  obtain ⟨z0, z1, z2, z3, f0, f1, f2, f3, hz⟩ := hblk.four
  have hb1 : Below w.heap.size w w1 := ((Below.refl _ _).alloc (Nat.le_refl _) _).trans (hb.mono (by omega))
  go_wp2_with fail
  exact bodyPost_ret (results_cell2 rfl rfl (load33 ((set4_blk hblk _ _ _ _).alloc _))) rfl ⟨rfl, (set4_below hb1 _ (Nat.le_refl _) _ _ _ _).alloc (by simp; omega) _⟩
set_option maxRecDepth 10000 in
set_option maxHeartbeats 1000000 in
theorem rget_rest (w : World) (S : Nat → Prop) (A : Option Addr) (n c : Nat) (bs rest : List UInt8) (v : TV) (hx : Bs w S A n c bs) (hn : n ≤ 1000000000) (h : readT 8 bs = some (v, rest)) (h0 : rest ≠ []) :
    Calls Try.prog 23 #[.slice A n c] w fun e w' => e = .returned (.tuple #[.agg #[.int .i64 0, .int .u64 0, .slice none 0 0, .slice none 0 0], .int .i64 3]) ∧ Below w.heap.size w w' := by
  have KK := Lib.hid (rtake_some (w.alloc (.cells #[.int .i64 0, .int .u64 0, .slice none 0 0, .slice none 0 0] 33)) S A n c bs rest v (hx.after ((Below.refl _ _).alloc (Nat.le_refl _) _)) hn h)
  have H0 := Lib.hid h0
  clear h h0
  go_enter Try.func23, Try.ntmps23
  go_wp2_with fail
  refine (KK.out).mono ?_
  rintro e w1 ⟨q, A1, n1, c1, rfl, hv, hr, hn1, hb⟩
  clear KK
  simp only [World.size_alloc] at hb
  obtain ⟨tag, nn, bb, ll, A5, A6, n5, c5, n6, c6, rfl, rfl, -⟩ := hv.opens
  have hblk : Blk w1 w.heap.size 33 _ := (Blk.new w 33 _).below hb (by omega)
  obtain ⟨z0, z1, z2, z3, f0, f1, f2, f3, hz⟩ := hblk.four
  have hb1 : Below w.heap.size w w1 := ((Below.refl _ _).alloc (Nat.le_refl _) _).trans (hb.mono (by omega))
  have hp : (0 : Int) < (n1 : Int) := by
    have := hr.len
    have h0 := H0.out
    cases rest with
    | nil => exact absurd rfl h0
    | cons x xs => simp at this; omega
  dsimp only [Quad.agg]
  go_wp2_with fail
  exact bodyPost_ret (results_cell2 rfl rfl (load33 ((set4_blk hblk _ _ _ _).alloc _))) rfl ⟨rfl, (set4_below hb1 _ (Nat.le_refl _) _ _ _ _).alloc (by simp; omega) _⟩
set_option maxRecDepth 10000 in
set_option maxHeartbeats 1000000 in
theorem rget_some (w : World) (S : Nat → Prop) (A : Option Addr) (n c : Nat) (bs : List UInt8) (v : TV) (hx : Bs w S A n c bs) (hn : n ≤ 1000000000) (h : readT 8 bs = some (v, [])) :
    Calls Try.prog 23 #[.slice A n c] w fun e w' => ∃ q, e = .returned (.tuple #[q.agg, .int .i64 0]) ∧ VR w' (fun k => w.heap.size ≤ k) q v ∧ Below w.heap.size w w' := by
  have KK := Lib.hid (rtake_some (w.alloc (.cells #[.int .i64 0, .int .u64 0, .slice none 0 0, .slice none 0 0] 33)) S A n c bs [] v (hx.after ((Below.refl _ _).alloc (Nat.le_refl _) _)) hn h)
  clear h
  go_enter Try.func23, Try.ntmps23
  go_wp2_with fail
  refine (KK.out).mono ?_
  rintro e w1 ⟨q, A1, n1, c1, rfl, hv, hr, hn1, hb⟩
  clear KK
  simp only [World.size_alloc] at hb hv
  obtain ⟨tag, nn, bb, ll, A5, A6, n5, c5, n6, c6, rfl, rfl, -⟩ := hv.opens
  have hblk : Blk w1 w.heap.size 33 _ := (Blk.new w 33 _).below hb (by omega)
  obtain ⟨z0, z1, z2, z3, f0, f1, f2, f3, hz⟩ := hblk.four
  have hb1 : Below w.heap.size w w1 := ((Below.refl _ _).alloc (Nat.le_refl _) _).trans (hb.mono (by omega))
  obtain rfl : n1 = 0 := by have := hr.len; simpa using this.symm
  dsimp only [Quad.agg]
  go_wp2_with fail
  exact bodyPost_ret (results_cell2 rfl rfl (load33 ((set4_blk hblk _ _ _ _).alloc _))) rfl ⟨⟨.int .i64 tag, .int .u64 (nn : Int), .slice A5 n5 c5, .slice A6 n6 c6⟩, rfl, hv.keep (fun p hp hlt => (World.cell?_alloc_lt _ _ _ (by simpa using hlt)).trans (set4_other _ _ _ _ _ _ p (by omega))) (fun k hk _ => by omega), (set4_below hb1 _ (Nat.le_refl _) _ _ _ _).alloc (by simp; omega) _⟩
end Go.Proofs.Ytaebmhbggbpnoaa
