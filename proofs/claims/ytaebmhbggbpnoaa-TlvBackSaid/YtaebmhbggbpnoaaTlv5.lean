/- Walks of package tlv: Take, Get. Conditions: each theorem's premises. -/
import Derived.Test.YtaebmhbggbpnoaaTlv4
import Derived.Deep.RegionWith
namespace Go.Proofs.Ytaebmhbggbpnoaa
open Go.RowKit
/-- What is owned from a block on is owned from every earlier one on. -/
theorem own_base' {w : World} {base base' : Nat} {e : TypeId} {size n : Nat} {v : Value} {xs : List Value} (h : w.ownsRow base e size v n xs) (hb : base' ≤ base) : w.ownsRow base' e size v n xs := by
  refine ⟨h.1, ?_⟩
  rcases h.2 with h2 | ⟨g, cap, cur, hv, hg, r⟩
  · exact .inl h2
  · exact .inr ⟨g, cap, cur, hv, Nat.le_trans hb hg, r⟩
theorem own_setCell {w : World} {base : Nat} {e : TypeId} {size n : Nat} {v : Value} {xs : List Value} (h : w.ownsRow base e size v n xs) {p : Addr} (hp : v.ownBlock ≠ some p.block) (u : Value) : (w.setCell p u).ownsRow base e size v n xs :=
  h.kept (row := some p.block) ⟨rfl, rfl, rfl, by simp, fun k _ hk => Below.heap_setCell _ _ _ _ (fun e => hk (by rw [e]))⟩ (.inr hp)
set_option maxRecDepth 10000 in
set_option maxHeartbeats 1000000 in
theorem take_none (w : World) (S : Nat → Prop) (A : Option Addr) (n c : Nat) (bs : List UInt8) (hx : Bs w S A n c bs) (hn : n ≤ 1000000000) (h : readT 8 bs = none) :
    Calls Try.prog 20 #[.slice A n c] w fun e w' => e = .returned (.tuple #[.agg #[.int .i64 0, .int .u64 0, .slice none 0 0, .slice none 0 0], .slice none 0 0, .int .i64 3]) ∧ Below w.heap.size w w' := by
  have K := read_any 8 (by omega) (w.alloc (.cells #[.int .i64 0, .int .u64 0, .slice none 0 0, .slice none 0 0] 27)) S A n c bs (hx.after ((Below.refl _ _).alloc (Nat.le_refl _) _)) hn
  rw [h] at K
  have KK := Lib.hid K
  clear h K
  go_enter Try.func20, Try.ntmps20
  go_wp2_with fail
  refine (KK.out).mono ?_
  rintro e w1 ⟨rfl, hb⟩
  clear KK
  simp only [World.size_alloc] at hb
  have hblk : Blk w1 w.heap.size 27 _ := (Blk.new w 27 _).below hb (by omega)
  obtain ⟨z0, z1, z2, z3, f0, f1, f2, f3, hz⟩ := hblk.four
  have hb1 : Below w.heap.size w w1 := ((Below.refl _ _).alloc (Nat.le_refl _) _).trans (hb.mono (by omega))
  go_wp2_with fail
  exact bodyPost_ret (results_cell3 rfl rfl (load27 (set4_blk (set4_blk hblk _ _ _ _) _ _ _ _))) rfl ⟨rfl, set4_below (set4_below hb1 _ (Nat.le_refl _) _ _ _ _) _ (Nat.le_refl _) _ _ _ _⟩
set_option maxRecDepth 10000 in
set_option maxHeartbeats 1000000 in
theorem take_some (w : World) (S : Nat → Prop) (A : Option Addr) (n c : Nat) (bs rest : List UInt8) (v : TV) (hx : Bs w S A n c bs) (hn : n ≤ 1000000000) (h : readT 8 bs = some (v, rest)) :
    Calls Try.prog 20 #[.slice A n c] w fun e w' => ∃ q A' n' c', e = .returned (.tuple #[q.agg, .slice A' n' c', .int .i64 0]) ∧ VR w' (fun k => w.heap.size ≤ k) q v ∧ w'.ownsRow w.heap.size 5 1 (.slice A' n' c') n' (u8s rest) ∧ n' ≤ 1000000000 ∧ Below w.heap.size w w' := by
  have K := read_any 8 (by omega) (w.alloc (.cells #[.int .i64 0, .int .u64 0, .slice none 0 0, .slice none 0 0] 27)) (fun k => S k ∧ k < w.heap.size) A n c bs (hx.oldS.after ((Below.refl _ _).alloc (Nat.le_refl _) _)) hn
  rw [h] at K
  have KK := Lib.hid K
  clear h K
  go_enter Try.func20, Try.ntmps20
  go_wp2_with fail
  refine (KK.out).mono ?_
  rintro e w1 ⟨q, A1, n1, c1, rfl, hv, hr, hn1, hb⟩
  clear KK
  simp only [World.size_alloc] at hb hv
  obtain ⟨tag, nn, bb, ll, A5, A6, n5, c5, n6, c6, rfl, rfl, -⟩ := hv.opens
  have hblk : Blk w1 w.heap.size 27 _ := (Blk.new w 27 _).below hb (by omega)
  obtain ⟨z0, z1, z2, z3, f0, f1, f2, f3, hz⟩ := hblk.four
  have hb1 : Below w.heap.size w w1 := ((Below.refl _ _).alloc (Nat.le_refl _) _).trans (hb.mono (by omega))
  dsimp only [Quad.agg]
  have hB2 := set4_blk hblk (.int .i64 tag) (.int .u64 (nn : Int)) (.slice A5 n5 c5) (.slice A6 n6 c6)
  have hb2 := set4_below hb1 w.heap.size (Nat.le_refl _) (.int .i64 tag) (.int .u64 (nn : Int)) (.slice A5 n5 c5) (.slice A6 n6 c6)
  have hr2 : Bs ((((w1.setCell ⟨w.heap.size, 0, none⟩ (.int .i64 tag)).setCell ⟨w.heap.size, 1, none⟩ (.int .u64 (nn : Int))).setCell ⟨w.heap.size, 2, none⟩ (.slice A5 n5 c5)).setCell ⟨w.heap.size, 3, none⟩ (.slice A6 n6 c6)) AnyB A1 n1 c1 rest :=
    hr.keep (fun p hp _ => set4_other _ _ _ _ _ _ p (by omega)) (fun _ _ _ => trivial)
  have hv2 : VR ((((w1.setCell ⟨w.heap.size, 0, none⟩ (.int .i64 tag)).setCell ⟨w.heap.size, 1, none⟩ (.int .u64 (nn : Int))).setCell ⟨w.heap.size, 2, none⟩ (.slice A5 n5 c5)).setCell ⟨w.heap.size, 3, none⟩ (.slice A6 n6 c6)) (fun k => w.heap.size < k) ⟨.int .i64 tag, .int .u64 (nn : Int), .slice A5 n5 c5, .slice A6 n6 c6⟩ (.mk tag nn bb ll) :=
    hv.keep (fun p hp _ => set4_other _ _ _ _ _ _ p (by omega)) (fun _ hk _ => hk)
  go_wp2_with fail
  clear hv hr hb1 hblk hb hz
  generalize ((((w1.setCell ⟨w.heap.size, 0, none⟩ (.int .i64 tag)).setCell ⟨w.heap.size, 1, none⟩ (.int .u64 (nn : Int))).setCell ⟨w.heap.size, 2, none⟩ (.slice A5 n5 c5)).setCell ⟨w.heap.size, 3, none⟩ (.slice A6 n6 c6)) = W at hB2 hb2 hr2 hv2 ⊢
  clear z0 z1 z2 z3 f0 f1 f2 f3
  obtain ⟨z0, z1, z2, z3, f0, f1, f2, f3, hz⟩ := hB2.four
  go_region_with (go_at_call 88; refine (clone_any _ AnyB _ _ _ _ hr2.drew hn1).mono ?_; rintro e w2 ⟨A3, c3, rfl, hown, hb3⟩; obtain ⟨y0, y1, y2, y3, g0, g1, g2, g3, hy⟩ := (hB2.drew.after hb3).four)
  all_goals
    go_wp2_with fail
    have hbW : Below w.heap.size w w2 := hb2.drew.trans (hb3.mono (by simp; omega))
    have hB5 := set4_blk (hB2.drew.after hb3) (.int .i64 tag) (.int .u64 (nn : Int)) (.slice A5 n5 c5) (.slice A6 n6 c6)
    refine bodyPost_ret (results_cell3 rfl rfl (load27 hB5)) rfl ?_
    refine ⟨⟨.int .i64 tag, .int .u64 (nn : Int), .slice A5 n5 c5, .slice A6 n6 c6⟩, A3, n1, c3, rfl, (hv2.drew.after hb3).keep (fun p hp _ => set4_other _ _ _ _ _ _ p (by omega)) (fun k hk _ => by omega), ?_, hn1, set4_below hbW _ (Nat.le_refl _) _ _ _ _⟩
    have hne : (Value.slice A3 n1 c3).ownBlock ≠ some w.heap.size := fun e => by have := (hown.lt _ e).1; simp at this; omega
    exact own_setCell (p := ⟨w.heap.size, 3, none⟩) (own_setCell (p := ⟨w.heap.size, 2, none⟩) (own_setCell (p := ⟨w.heap.size, 1, none⟩) (own_setCell (p := ⟨w.heap.size, 0, none⟩) (own_base' hown (by simp; omega)) hne _) hne _) hne _) hne _

set_option maxRecDepth 10000 in
set_option maxHeartbeats 1000000 in
theorem get_none (w : World) (S : Nat → Prop) (A : Option Addr) (n c : Nat) (bs : List UInt8) (hx : Bs w S A n c bs) (hn : n ≤ 1000000000) (h : readT 8 bs = none) :
    Calls Try.prog 22 #[.slice A n c] w fun e w' => e = .returned (.tuple #[.agg #[.int .i64 0, .int .u64 0, .slice none 0 0, .slice none 0 0], .int .i64 3]) ∧ Below w.heap.size w w' := by
  have K := read_any 8 (by omega) (w.alloc (.cells #[.int .i64 0, .int .u64 0, .slice none 0 0, .slice none 0 0] 27)) S A n c bs (hx.after ((Below.refl _ _).alloc (Nat.le_refl _) _)) hn
  rw [h] at K
  have KK := Lib.hid K
  clear h K
  go_enter Try.func22, Try.ntmps22
  go_wp2_with fail
  refine (KK.out).mono ?_
  rintro e w1 ⟨rfl, hb⟩
  clear KK
  simp only [World.size_alloc] at hb
  have hblk : Blk w1 w.heap.size 27 _ := (Blk.new w 27 _).below hb (by omega)
  obtain ⟨z0, z1, z2, z3, f0, f1, f2, f3, hz⟩ := hblk.four
  have hb1 : Below w.heap.size w w1 := ((Below.refl _ _).alloc (Nat.le_refl _) _).trans (hb.mono (by omega))
  go_wp2_with fail
  exact bodyPost_ret (results_cell2 rfl rfl (load27 ((set4_blk hblk _ _ _ _).alloc _))) rfl ⟨rfl, (set4_below hb1 _ (Nat.le_refl _) _ _ _ _).alloc (by simp; omega) _⟩
set_option maxRecDepth 10000 in
set_option maxHeartbeats 1000000 in
theorem get_rest (w : World) (S : Nat → Prop) (A : Option Addr) (n c : Nat) (bs rest : List UInt8) (v : TV) (hx : Bs w S A n c bs) (hn : n ≤ 1000000000) (h : readT 8 bs = some (v, rest)) (h0 : rest ≠ []) :
    Calls Try.prog 22 #[.slice A n c] w fun e w' => e = .returned (.tuple #[.agg #[.int .i64 0, .int .u64 0, .slice none 0 0, .slice none 0 0], .int .i64 3]) ∧ Below w.heap.size w w' := by
  have K := read_any 8 (by omega) (w.alloc (.cells #[.int .i64 0, .int .u64 0, .slice none 0 0, .slice none 0 0] 27)) S A n c bs (hx.after ((Below.refl _ _).alloc (Nat.le_refl _) _)) hn
  rw [h] at K
  have KK := Lib.hid K
  have H0 := Lib.hid h0
  clear h K h0
  go_enter Try.func22, Try.ntmps22
  go_wp2_with fail
  refine (KK.out).mono ?_
  rintro e w1 ⟨q, A1, n1, c1, rfl, hv, hr, hn1, hb⟩
  clear KK
  simp only [World.size_alloc] at hb hv
  obtain ⟨tag, nn, bb, ll, A5, A6, n5, c5, n6, c6, rfl, rfl, -⟩ := hv.opens
  have hblk : Blk w1 w.heap.size 27 _ := (Blk.new w 27 _).below hb (by omega)
  obtain ⟨z0, z1, z2, z3, f0, f1, f2, f3, hz⟩ := hblk.four
  have hb1 : Below w.heap.size w w1 := ((Below.refl _ _).alloc (Nat.le_refl _) _).trans (hb.mono (by omega))
  have hp : (0 : Int) < (n1 : Int) := by
    have := hr.len
    have h0 := H0.out
    cases rest with
    | nil => exact absurd rfl h0
    | cons x xs => simp at this; omega
  dsimp only [Quad.agg]
  go_wp2_with fail
  exact bodyPost_ret (results_cell2 rfl rfl (load27 ((set4_blk hblk _ _ _ _).alloc _))) rfl ⟨rfl, (set4_below hb1 _ (Nat.le_refl _) _ _ _ _).alloc (by simp; omega) _⟩
set_option maxRecDepth 10000 in
set_option maxHeartbeats 1000000 in
theorem get_some (w : World) (S : Nat → Prop) (A : Option Addr) (n c : Nat) (bs : List UInt8) (v : TV) (hx : Bs w S A n c bs) (hn : n ≤ 1000000000) (h : readT 8 bs = some (v, [])) :
    Calls Try.prog 22 #[.slice A n c] w fun e w' => ∃ q, e = .returned (.tuple #[q.agg, .int .i64 0]) ∧ VR w' (fun k => w.heap.size ≤ k) q v ∧ Below w.heap.size w w' := by
  have K := read_any 8 (by omega) (w.alloc (.cells #[.int .i64 0, .int .u64 0, .slice none 0 0, .slice none 0 0] 27)) S A n c bs (hx.after ((Below.refl _ _).alloc (Nat.le_refl _) _)) hn
  rw [h] at K
  have KK := Lib.hid K
  clear h K
  go_enter Try.func22, Try.ntmps22
  go_wp2_with fail
  refine (KK.out).mono ?_
  rintro e w1 ⟨q, A1, n1, c1, rfl, hv, hr, hn1, hb⟩
  clear KK
  simp only [World.size_alloc] at hb hv
  obtain ⟨tag, nn, bb, ll, A5, A6, n5, c5, n6, c6, rfl, rfl, -⟩ := hv.opens
  have hblk : Blk w1 w.heap.size 27 _ := (Blk.new w 27 _).below hb (by omega)
  obtain ⟨z0, z1, z2, z3, f0, f1, f2, f3, hz⟩ := hblk.four
  have hb1 : Below w.heap.size w w1 := ((Below.refl _ _).alloc (Nat.le_refl _) _).trans (hb.mono (by omega))
  obtain rfl : n1 = 0 := by have := hr.len; simpa using this.symm
  dsimp only [Quad.agg]
  go_wp2_with fail
  exact bodyPost_ret (results_cell2 rfl rfl (load27 ((set4_blk hblk _ _ _ _).alloc _))) rfl ⟨⟨.int .i64 tag, .int .u64 (nn : Int), .slice A5 n5 c5, .slice A6 n6 c6⟩, rfl, hv.keep (fun p hp hlt => (World.cell?_alloc_lt _ _ _ (by simpa using hlt)).trans (set4_other _ _ _ _ _ _ p (by omega))) (fun k hk _ => by omega), (set4_below hb1 _ (Nat.le_refl _) _ _ _ _).alloc (by simp; omega) _⟩
end Go.Proofs.Ytaebmhbggbpnoaa
