/- Walks of the plain answers Take, Get (hayloftref01). Conditions: each theorem's premises. -/
import Derived.Test.YtaebmhbggbpnoaaTlv8
namespace Go.Proofs.Ytaebmhbggbpnoaa
open Go.RowKit
set_option maxRecDepth 10000 in
set_option maxHeartbeats 1000000 in
theorem rtake_none (w : World) (S : Nat → Prop) (A : Option Addr) (n c : Nat) (bs : List UInt8) (hx : Bs w S A n c bs) (hn : n ≤ 1000000000) (h : readT 8 bs = none) :
    Calls Try.prog 21 #[.slice A n c] w fun e w' => e = .returned (.tuple #[.agg #[.int .i64 0, .int .u64 0, .slice none 0 0, .slice none 0 0], .slice none 0 0, .int .i64 3]) ∧ Below w.heap.size w w' := by
  have K := rread_any 8 (by omega) (w.alloc (.cells #[.int .i64 0, .int .u64 0, .slice none 0 0, .slice none 0 0] 33)) S A n c bs (hx.after ((Below.refl _ _).alloc (Nat.le_refl _) _)) hn
  rw [h] at K
  have KK := Lib.hid K
  clear h K
  go_enter Try.func21, Try.ntmps21
  go_wp2_with fail
  refine (KK.out).mono ?_
  rintro e w1 ⟨rfl, hb⟩
  clear KK
  simp only [World.size_alloc] at hb
  have hblk : Blk w1 w.heap.size 33 _ := (Blk.new w 33 _).below hb (by omega)
  obtain ⟨z0, z1, z2, z3, f0, f1, f2, f3, hz⟩ := hblk.four
  have hb1 : Below w.heap.size w w1 := ((Below.refl _ _).alloc (Nat.le_refl _) _).trans (hb.mono (by omega))
  go_wp2_with fail
  exact bodyPost_ret (results_cell3 rfl rfl (load33 ((set4_blk hblk _ _ _ _).alloc _))) rfl ⟨rfl, (set4_below hb1 _ (Nat.le_refl _) _ _ _ _).alloc (by simp; omega) _⟩
set_option maxRecDepth 10000 in
set_option maxHeartbeats 1000000 in
theorem rtake_some (w : World) (S : Nat → Prop) (A : Option Addr) (n c : Nat) (bs rest : List UInt8) (v : TV) (hx : Bs w S A n c bs) (hn : n ≤ 1000000000) (h : readT 8 bs = some (v, rest)) :
    Calls Try.prog 21 #[.slice A n c] w fun e w' => ∃ q A' n' c', e = .returned (.tuple #[q.agg, .slice A' n' c', .int .i64 0]) ∧ VR w' (fun k => w.heap.size ≤ k) q v ∧ Bs w' S A' n' c' rest ∧ n' ≤ 1000000000 ∧ Below w.heap.size w w' := by
  have K := rread_any 8 (by omega) (w.alloc (.cells #[.int .i64 0, .int .u64 0, .slice none 0 0, .slice none 0 0] 33)) (fun k => S k ∧ k < w.heap.size) A n c bs (hx.oldS.after ((Below.refl _ _).alloc (Nat.le_refl _) _)) hn
  have hdrop := Lib.hid (readT_drop h)
  have hlen := hx.len
  rw [h] at K
  have KK := Lib.hid K
  clear h K
  go_enter Try.func21, Try.ntmps21
  go_wp2_with fail
  refine (KK.out).mono ?_
  rintro e w1 ⟨q, kk, rfl, hkk, hk3, hv, hb⟩
  clear KK
  simp only [World.size_alloc] at hb hv
  obtain ⟨tag, nn, bb, ll, A5, A6, n5, c5, n6, c6, rfl, rfl, -⟩ := hv.opens
  have hblk : Blk w1 w.heap.size 33 _ := (Blk.new w 33 _).below hb (by omega)
  obtain ⟨z0, z1, z2, z3, f0, f1, f2, f3, hz⟩ := hblk.four
  have hb1 : Below w.heap.size w w1 := ((Below.refl _ _).alloc (Nat.le_refl _) _).trans (hb.mono (by omega))
  have hk0 : ((kk : Int) == 0) = false := by simp; omega
  have hkn : kk ≤ n := by omega
  obtain ⟨A2, c2, s2, r2⟩ := hx.oldS.from_ (kk : Int) kk (n - kk) rfl (by omega)
  have hr2 : Bs w (fun k => S k ∧ k < w.heap.size) A2 (n - kk) c2 rest := by
    have e := hdrop.out
    rw [show bs.length - rest.length = kk from by omega] at e
    rwa [e]
  clear r2 hlen hkk
  dsimp only [Quad.agg]
  go_wp2_with fail
  go_region
  go_wp2_with fail
  refine bodyPost_ret (results_cell3 rfl rfl (load33 ((set4_blk hblk _ _ _ _).alloc _).drew)) rfl ?_
  have hbe := ((set4_below hb1 w.heap.size (Nat.le_refl _) (.int .i64 tag) (.int .u64 (nn : Int)) (.slice A5 n5 c5) (.slice A6 n6 c6)).alloc (by simp; omega) (.cells #[.int .i64 tag, .int .u64 (nn : Int), .slice A5 n5 c5, .slice A6 n6 c6] 33)).drew
  exact ⟨⟨.int .i64 tag, .int .u64 (nn : Int), .slice A5 n5 c5, .slice A6 n6 c6⟩, A2, n - kk, c2, rfl, hv.keep (fun p hp hlt => (World.cell?_alloc_lt _ _ _ (by simpa using hlt)).trans (set4_other _ _ _ _ _ _ p (by omega))) (fun k hk _ => by omega),
    (hr2.under (fun k h => h.2) hbe).mono (fun _ h => h.1), by omega, hbe⟩
set_option maxRecDepth 10000 in
set_option maxHeartbeats 1000000 in
theorem rget_none (w : World) (S : Nat → Prop) (A : Option Addr) (n c : Nat) (bs : List UInt8) (hx : Bs w S A n c bs) (hn : n ≤ 1000000000) (h : readT 8 bs = none) :
    Calls Try.prog 23 #[.slice A n c] w fun e w' => e = .returned (.tuple #[.agg #[.int .i64 0, .int .u64 0, .slice none 0 0, .slice none 0 0], .int .i64 3]) ∧ Below w.heap.size w w' := by
  have KK := Lib.hid (rtake_none (w.alloc (.cells #[.int .i64 0, .int .u64 0, .slice none 0 0, .slice none 0 0] 33)) S A n c bs (hx.after ((Below.refl _ _).alloc (Nat.le_refl _) _)) hn h)
  clear h
  go_enter Try.func23, Try.ntmps23
  go_wp2_with fail
  refine (KK.out).mono ?_
  rintro e w1 ⟨rfl, hb⟩
  clear KK
  simp only [World.size_alloc] at hb
  have hblk : Blk w1 w.heap.size 33 _ := (Blk.new w 33 _).below hb (by omega)
  obtain ⟨z0, z1, z2, z3, f0, f1, f2, f3, hz⟩ := hblk.four
  have hb1 : Below w.heap.size w w1 := ((Below.refl _ _).alloc (Nat.le_refl _) _).trans (hb.mono (by omega))
  go_wp2_with fail
  exact bodyPost_ret (results_cell2 rfl rfl (load33 ((set4_blk hblk _ _ _ _).alloc _))) rfl ⟨rfl, (set4_below hb1 _ (Nat.le_refl _) _ _ _ _).alloc (by simp; omega) _⟩
set_option maxRecDepth 10000 in
set_option maxHeartbeats 1000000 in
theorem rget_rest (w : World) (S : Nat → Prop) (A : Option Addr) (n c : Nat) (bs rest : List UInt8) (v : TV) (hx : Bs w S A n c bs) (hn : n ≤ 1000000000) (h : readT 8 bs = some (v, rest)) (h0 : rest ≠ []) :
    Calls Try.prog 23 #[.slice A n c] w fun e w' => e = .returned (.tuple #[.agg #[.int .i64 0, .int .u64 0, .slice none 0 0, .slice none 0 0], .int .i64 3]) ∧ Below w.heap.size w w' := by
  have KK := Lib.hid (rtake_some (w.alloc (.cells #[.int .i64 0, .int .u64 0, .slice none 0 0, .slice none 0 0] 33)) S A n c bs rest v (hx.after ((Below.refl _ _).alloc (Nat.le_refl _) _)) hn h)
  have H0 := Lib.hid h0
  clear h h0
  go_enter Try.func23, Try.ntmps23
  go_wp2_with fail
  refine (KK.out).mono ?_
  rintro e w1 ⟨q, A1, n1, c1, rfl, hv, hr, hn1, hb⟩
  clear KK
  simp only [World.size_alloc] at hb
  obtain ⟨tag, nn, bb, ll, A5, A6, n5, c5, n6, c6, rfl, rfl, -⟩ := hv.opens
  have hblk : Blk w1 w.heap.size 33 _ := (Blk.new w 33 _).below hb (by omega)
  obtain ⟨z0, z1, z2, z3, f0, f1, f2, f3, hz⟩ := hblk.four
  have hb1 : Below w.heap.size w w1 := ((Below.refl _ _).alloc (Nat.le_refl _) _).trans (hb.mono (by omega))
  have hp : (0 : Int) < (n1 : Int) := by
    have := hr.len
    have h0 := H0.out
    cases rest with
    | nil => exact absurd rfl h0
    | cons x xs => simp at this; omega
  dsimp only [Quad.agg]
  go_wp2_with fail
  exact bodyPost_ret (results_cell2 rfl rfl (load33 ((set4_blk hblk _ _ _ _).alloc _))) rfl ⟨rfl, (set4_below hb1 _ (Nat.le_refl _) _ _ _ _).alloc (by simp; omega) _⟩
set_option maxRecDepth 10000 in
set_option maxHeartbeats 1000000 in
theorem rget_some (w : World) (S : Nat → Prop) (A : Option Addr) (n c : Nat) (bs : List UInt8) (v : TV) (hx : Bs w S A n c bs) (hn : n ≤ 1000000000) (h : readT 8 bs = some (v, [])) :
    Calls Try.prog 23 #[.slice A n c] w fun e w' => ∃ q, e = .returned (.tuple #[q.agg, .int .i64 0]) ∧ VR w' (fun k => w.heap.size ≤ k) q v ∧ Below w.heap.size w w' := by
  have KK := Lib.hid (rtake_some (w.alloc (.cells #[.int .i64 0, .int .u64 0, .slice none 0 0, .slice none 0 0] 33)) S A n c bs [] v (hx.after ((Below.refl _ _).alloc (Nat.le_refl _) _)) hn h)
  clear h
  go_enter Try.func23, Try.ntmps23
  go_wp2_with fail
  refine (KK.out).mono ?_
  rintro e w1 ⟨q, A1, n1, c1, rfl, hv, hr, hn1, hb⟩
  clear KK
  simp only [World.size_alloc] at hb hv
  obtain ⟨tag, nn, bb, ll, A5, A6, n5, c5, n6, c6, rfl, rfl, -⟩ := hv.opens
  have hblk : Blk w1 w.heap.size 33 _ := (Blk.new w 33 _).below hb (by omega)
  obtain ⟨z0, z1, z2, z3, f0, f1, f2, f3, hz⟩ := hblk.four
  have hb1 : Below w.heap.size w w1 := ((Below.refl _ _).alloc (Nat.le_refl _) _).trans (hb.mono (by omega))
  obtain rfl : n1 = 0 := by have := hr.len; simpa using this.symm
  dsimp only [Quad.agg]
  go_wp2_with fail
  exact bodyPost_ret (results_cell2 rfl rfl (load33 ((set4_blk hblk _ _ _ _).alloc _))) rfl ⟨⟨.int .i64 tag, .int .u64 (nn : Int), .slice A5 n5 c5, .slice A6 n6 c6⟩, rfl, hv.keep (fun p hp hlt => (World.cell?_alloc_lt _ _ _ (by simpa using hlt)).trans (set4_other _ _ _ _ _ _ p (by omega))) (fun k hk _ => by omega), (set4_below hb1 _ (Nat.le_refl _) _ _ _ _).alloc (by simp; omega) _⟩
end Go.Proofs.Ytaebmhbggbpnoaa
