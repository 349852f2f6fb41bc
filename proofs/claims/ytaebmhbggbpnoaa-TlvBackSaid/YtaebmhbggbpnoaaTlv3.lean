/- Walks of package tlv: reading a value: what is none; lists; the whole. Conditions: each theorem's premises. -/
import Derived.Test.YtaebmhbggbpnoaaTlv2
namespace Go.Proofs.Ytaebmhbggbpnoaa
open Go.RowKit
set_option maxRecDepth 10000 in
set_option maxHeartbeats 2000000 in
theorem read_other (d : Nat) (w : World) (S : Nat → Prop) (A : Option Addr) (n c t : Nat) (bs inn rest : List UInt8) (hx : Bs w S A n c bs) (hn : n ≤ 1000000000) (hs : splitT bs = some (t, inn, rest)) (h1 : t ≠ 1) (h2 : t ≠ 2) (h3 : t ≠ 3) :
    Calls Try.prog 87 #[.slice A n c, .int .i64 (d : Int)] w (ReadPost w S none) := by
  have K := Lib.hid (split_call hs _ _ _ _ _ (hx.oldS.after (w' := w.alloc (.cells #[.int .i64 0, .int .u64 0, .slice none 0 0, .slice none 0 0] 27)) ((Below.refl _ _).alloc (Nat.le_refl _) _)) hn)
  have ht := (splitT_short hs).1
  have q1 : ((t : Int) == 1) = false := by simp; omega
  have q2 : ((t : Int) == 2) = false := by simp; omega
  have q3 : ((t : Int) == 3) = false := by simp; omega
  clear hs h1 h2 h3
  go_enter Try.func87, Try.ntmps87
  go_wp2_with fail
  refine (K.out).mono ?_
  rintro e w1 ⟨A1, n1, c1, A2, n2, c2, rfl, hi, hr, hn1, hn2, hb⟩
  clear K
  simp only [World.size_alloc] at hb
  have hblk : Blk w1 w.heap.size 27 _ := (Blk.new w 27 _).below hb (by omega)
  obtain ⟨z0, z1, z2, z3, f0, f1, f2, f3, hz⟩ := hblk.four
  have hb1 : Below w.heap.size w w1 := ((Below.refl _ _).alloc (Nat.le_refl _) _).trans (hb.mono (by omega))
  go_wp2_with fail
  refine bodyPost_ret (v := .tuple #[.agg #[.int .i64 0, .int .u64 0, .slice none 0 0, .slice none 0 0], .slice none 0 0, .bool false]) (by simp [results, Try.results87, go_sem, z0, z1, z2, z3]) rfl ?_
  exact ⟨rfl, set4_below (hb1.setCell (p := ⟨w.heap.size, 0, none⟩) (Nat.le_refl _) _) _ (Nat.le_refl _) _ _ _ _⟩
set_option maxRecDepth 10000 in
set_option maxHeartbeats 2000000 in
theorem read_deep (w : World) (S : Nat → Prop) (A : Option Addr) (n c : Nat) (bs inn rest : List UInt8) (hx : Bs w S A n c bs) (hn : n ≤ 1000000000) (hs : splitT bs = some (3, inn, rest)) :
    Calls Try.prog 87 #[.slice A n c, .int .i64 ((0 : Nat) : Int)] w (ReadPost w S none) := by
  have K := Lib.hid (split_call hs _ _ _ _ _ (hx.oldS.after (w' := w.alloc (.cells #[.int .i64 0, .int .u64 0, .slice none 0 0, .slice none 0 0] 27)) ((Below.refl _ _).alloc (Nat.le_refl _) _)) hn)
  clear hs
  go_enter Try.func87, Try.ntmps87
  go_wp2_with fail
  refine (K.out).mono ?_
  rintro e w1 ⟨A1, n1, c1, A2, n2, c2, rfl, hi, hr, hn1, hn2, hb⟩
  clear K
  simp only [World.size_alloc] at hb
  have hblk : Blk w1 w.heap.size 27 _ := (Blk.new w 27 _).below hb (by omega)
  obtain ⟨z0, z1, z2, z3, f0, f1, f2, f3, hz⟩ := hblk.four
  have hb1 : Below w.heap.size w w1 := ((Below.refl _ _).alloc (Nat.le_refl _) _).trans (hb.mono (by omega))
  go_wp2_with fail
  refine bodyPost_ret (v := .tuple #[.agg #[.int .i64 0, .int .u64 0, .slice none 0 0, .slice none 0 0], .slice none 0 0, .bool false]) (by simp [results, Try.results87, go_sem, z0, z1, z2, z3]) rfl ?_
  exact ⟨rfl, set4_below (hb1.setCell (p := ⟨w.heap.size, 0, none⟩) (Nat.le_refl _) _) _ (Nat.le_refl _) _ _ _ _⟩
set_option maxRecDepth 10000 in
set_option maxHeartbeats 2000000 in
theorem read_long (d : Nat) (w : World) (S : Nat → Prop) (A : Option Addr) (n c : Nat) (bs inn rest : List UInt8) (hx : Bs w S A n c bs) (hn : n ≤ 1000000000) (hs : splitT bs = some (1, inn, rest)) (h8 : ¬ inn.length ≤ 8) :
    Calls Try.prog 87 #[.slice A n c, .int .i64 (d : Int)] w (ReadPost w S none) := by
  have K := Lib.hid (split_call hs _ _ _ _ _ (hx.oldS.after (w' := w.alloc (.cells #[.int .i64 0, .int .u64 0, .slice none 0 0, .slice none 0 0] 27)) ((Below.refl _ _).alloc (Nat.le_refl _) _)) hn)
  have H8 := Lib.hid h8
  clear hs h8
  go_enter Try.func87, Try.ntmps87
  go_wp2_with fail
  refine (K.out).mono ?_
  rintro e w1 ⟨A1, n1, c1, A2, n2, c2, rfl, hi, hr, hn1, hn2, hb⟩
  clear K
  have q3 : ¬ (n1 : Int) ≤ 8 := by have := hi.len; have := H8.out; omega
  have q4 : decide ((n1 : Int) ≤ 8) = false := by simpa using q3
  clear q3
  simp only [World.size_alloc] at hb
  have hblk : Blk w1 w.heap.size 27 _ := (Blk.new w 27 _).below hb (by omega)
  obtain ⟨z0, z1, z2, z3, f0, f1, f2, f3, hz⟩ := hblk.four
  have hb1 : Below w.heap.size w w1 := ((Below.refl _ _).alloc (Nat.le_refl _) _).trans (hb.mono (by omega))
  go_wp2_with fail
  refine bodyPost_ret (v := .tuple #[.agg #[.int .i64 0, .int .u64 0, .slice none 0 0, .slice none 0 0], .slice none 0 0, .bool false]) (by simp [results, Try.results87, go_sem, z0, z1, z2, z3]) rfl ?_
  exact ⟨rfl, set4_below (hb1.setCell (p := ⟨w.heap.size, 0, none⟩) (Nat.le_refl _) _) _ (Nat.le_refl _) _ _ _ _⟩
set_option maxRecDepth 10000 in
set_option maxHeartbeats 2000000 in
theorem read_nought (d : Nat) (w : World) (S : Nat → Prop) (A : Option Addr) (n c : Nat) (bs inn rest : List UInt8) (hx : Bs w S A n c bs) (hn : n ≤ 1000000000) (hs : splitT bs = some (1, inn, rest)) (h8 : inn.length ≤ 8) (h0 : inn.head? = some 0) :
    Calls Try.prog 87 #[.slice A n c, .int .i64 (d : Int)] w (ReadPost w S none) := by
  have K := Lib.hid (split_call hs _ _ _ _ _ (hx.oldS.after (w' := w.alloc (.cells #[.int .i64 0, .int .u64 0, .slice none 0 0, .slice none 0 0] 27)) ((Below.refl _ _).alloc (Nat.le_refl _) _)) hn)
  have H8 := Lib.hid h8
  have H0 := Lib.hid h0
  clear hs h8 h0
  go_enter Try.func87, Try.ntmps87
  go_wp2_with fail
  refine (K.out).mono ?_
  rintro e w1 ⟨A1, n1, c1, A2, n2, c2, rfl, hi, hr, hn1, hn2, hb⟩
  clear K
  have q3 : (n1 : Int) ≤ 8 := by have := hi.len; have := H8.out; omega
  have hp : 0 < n1 := by
    have h1 := H0.out
    have h2 := hi.len
    cases inn with
    | nil => simp at h1
    | cons x xs => simp at h2; omega
  have q1 : ((n1 : Int) == 0) = false := by simp; omega
  obtain ⟨ad, b', rfl, hb0, hc0⟩ := hi.at0 hp
  obtain rfl : b' = 0 := by
    have h1 := H0.out
    have h2 := hb0.out
    cases inn with
    | nil => simp at h1
    | cons x xs => simp at h1 h2; rw [← h2, h1]
  have hc1 : w1.cell? ad = some (.int .u8 0) := hc0
  simp only [World.size_alloc] at hb
  have hblk : Blk w1 w.heap.size 27 _ := (Blk.new w 27 _).below hb (by omega)
  obtain ⟨z0, z1, z2, z3, f0, f1, f2, f3, hz⟩ := hblk.four
  have hadb : ad.block < w.heap.size := by
    obtain ⟨ad', he, h', _⟩ := hi.rd.2 hp
    cases he
    exact h'.2
  obtain ⟨x1, x2, x3⟩ := far_of (show ad.block ≠ w.heap.size by omega)
  have hb1 : Below w.heap.size w w1 := ((Below.refl _ _).alloc (Nat.le_refl _) _).trans (hb.mono (by omega))
  clear hc0 hb0
  go_wp2_with fail
  refine bodyPost_ret (v := .tuple #[.agg #[.int .i64 0, .int .u64 0, .slice none 0 0, .slice none 0 0], .slice none 0 0, .bool false]) (by simp [results, Try.results87, go_sem, z0, z1, z2, z3]) rfl ?_
  exact ⟨rfl, set4_below (hb1.setCell (p := ⟨w.heap.size, 0, none⟩) (Nat.le_refl _) _) _ (Nat.le_refl _) _ _ _ _⟩
end Go.Proofs.Ytaebmhbggbpnoaa
