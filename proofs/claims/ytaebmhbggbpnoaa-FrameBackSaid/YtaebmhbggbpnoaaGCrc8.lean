/- The walks of alive and CrcSums. Conditions: each theorem's premises. -/
import Derived.Test.YtaebmhbggbpnoaaGCrc4
import Derived.Lib.SlBytesConst
namespace Go.Proofs.Ytaebmhbggbpnoaa
open Go.RowKit
theorem bs_litC (w : World) (cs : Array Value) (t : TypeId) (fz : Nat × Nat) (n : Nat) (bs : List UInt8) (h : cs.toList = u8s bs) (hn : bs.length = n) : Bs (w.alloc (.cells cs t fz)) (fun k => w.heap.size ≤ k) (some ⟨w.heap.size, 0, none⟩) n n bs := by
  refine ⟨hn, Nat.le_refl _, by rw [u8s_length, hn, Nat.mul_one], fun _ => ⟨_, rfl, Nat.le_refl _, fun j u hu => ?_⟩⟩
  rw [add_plain, cell_of_row _ _ _ _ _ _ (heap_alloc_new w _)]
  rw [← h] at hu
  simpa using hu
theorem crc_example : Crc.sum [49, 50, 51, 52, 53, 54, 55, 56, 57] = 3808858755 := by decide +kernel
set_option maxRecDepth 10000 in
set_option maxHeartbeats 1000000 in
theorem crcAlive_any (w : World) : Calls Try.prog 31 #[] w fun e w' => e = .returned (.bool true) ∧ Below w.heap.size w w' := by
  have kc := fun (w : World) (C : Array Value) (n c : Nat) => Lib.run_convert_bytes_const (P := Try.prog) w 22 5 C n c Try.underlying22 Try.underlying5
  have he := Lib.hid crc_example
  go_enter Try.func31, Try.ntmps31
  go_wp2_with fail
  refine (new_any _).mono ?_
  rintro e w1 ⟨rfl, hT, hb⟩
  have HT := Lib.hid hT
  have HB := Lib.hid hb
  have hlt := hT.lt
  clear hT hb
  go_wp2_with fail
  have HL := Lib.hid (bs_litC w1 #[.int .u8 49, .int .u8 50, .int .u8 51, .int .u8 52, .int .u8 53, .int .u8 54, .int .u8 55, .int .u8 56, .int .u8 57] 5 (9, 10) 9 [49, 50, 51, 52, 53, 54, 55, 56, 57] rfl rfl)
  have hb1 : Below w1.heap.size w1 (w1.alloc (.cells #[.int .u8 49, .int .u8 50, .int .u8 51, .int .u8 52, .int .u8 53, .int .u8 54, .int .u8 55, .int .u8 56, .int .u8 57] 5 (9, 10))) := (Below.refl _ _).alloc (Nat.le_refl _) _
  refine (sum_any _ w.heap.size 0 (.inr ⟨_, HT.out.after hb1⟩) _ _ 9 9 _ HL.out (fun k hk _ => by omega) (by omega) (by omega)).mono ?_
  rintro e w2 ⟨rfl, -, hg⟩
  rw [he.out]
  have HF := Lib.hid (HB.out.trans ((hb1.mono (Nat.le_of_lt hlt)).trans (only_below hg (Nat.le_refl _) (by simp; omega))))
  clear hg
  go_wp2_with fail
  go_ret
  exact ⟨rfl, HF.out⟩
theorem Tbl.after {w w' : World} {g : Nat} {d : Int} (h : Tbl w g d) (hb : Below w.heap.size w w') : Tbl w' g d := by
  rcases h with h | ⟨f, h⟩
  · exact .inl (h.after hb)
  · exact .inr ⟨f, h.after hb⟩
theorem Tbl.drewN {w : World} {g : Nat} {d : Int} (h : Tbl w g d) (m : Nat) : Tbl (w.drewN m) g d := by
  rcases h with h | ⟨f, h⟩
  · exact .inl (h.keep (fun _ => rfl) (fun _ => rfl))
  · exact .inr ⟨f, h.keep (fun _ => rfl) (fun _ => rfl)⟩
/-- What a law's road keeps: what was there, and the table. -/
structure On (w0 wi : World) (g : Nat) (d : Int) : Prop where
  bel : Below w0.heap.size w0 wi
  tab : Tbl wi g d
  new : w0.heap.size ≤ g
section
variable {w0 wi w' : World} {g n c : Nat} {d d' : Int} {A : Option Addr} {bs : List UInt8}
theorem On.lt (h : On w0 wi g d) : g < wi.heap.size := tbl_lt h.tab
theorem On.step (h : On w0 wi g d) (ht : Tbl w' g d') (hg : wi.grownBy w' (some g)) : On w0 w' g d' := ⟨h.bel.trans (only_below hg h.new h.bel.size), ht, h.new⟩
theorem On.below (h : On w0 wi g d) (hb : Below wi.heap.size wi w') : On w0 w' g d := ⟨h.bel.trans (hb.mono h.bel.size), h.tab.after hb, h.new⟩
theorem On.drewN (h : On w0 wi g d) (m : Nat) : On w0 (wi.drewN m) g d := ⟨below_drewN h.bel m, h.tab.drewN m, h.new⟩
theorem On.rd (h : On w0 wi g d) (hx : Bs w0 (Lo w0.heap.size) A n c bs) : Bs wi (Lo w0.heap.size) A n c bs := hx.below h.bel
theorem On.apart (h : On w0 wi g d) : ∀ k, Lo w0.heap.size k → k < wi.heap.size → k ≠ g := fun k hk _ => by have := h.new; unfold Lo at hk; omega
end
set_option maxRecDepth 10000 in
set_option maxHeartbeats 4000000 in
theorem crcSums_in (w : World) (r : Nat) (hr : r < 4294967296) (S S' : Nat → Prop) (A B : Option Addr) (n n' c c' : Nat) (us vs : List UInt8) (hx : Bs w S A n c us) (hy : Bs w S' B n' c' vs) (hn : n ≤ 3000) (hn' : n' ≤ 3000) :
    Calls Try.prog 7 #[.int .u32 (r : Int), .slice A n c, .slice B n' c'] w fun e w' => e = .returned (.bool true) ∧ Below w.heap.size w w' := by
  have HX := Lib.hid hx.old
  have HY := Lib.hid hy.old
  have hly := hy.len
  clear hx hy
  have t1 : ¬ (3000 : Int) < (n : Int) := by omega
  have t2 : ¬ (3000 : Int) < (n' : Int) := by omega
  go_enter Try.func7, Try.ntmps7
  go_wp2_with fail
  refine (new_any _).mono ?_
  rintro e w1 ⟨rfl, hT, hb⟩
  obtain ⟨g, hg⟩ : ∃ g, g = w.heap.size := ⟨_, rfl⟩
  rw [← hg] at hT
  have HN := Lib.hid (On.mk (d := 0) hb (.inr ⟨_, hT⟩) (Nat.le_of_eq hg.symm))
  rw [← hg]
  clear hT hb hg
  go_wp2_with fail
  refine (open_any w1 g 0 HN.out.tab _ B n' c' vs (HN.out.rd HY.out) HN.out.apart (by omega) (by omega)).mono ?_
  rintro e w2 ⟨X, i1, j1, rfl, hX, hT2, hg2⟩
  have hl1 : i1 ≤ 3000 := by rw [← hX.len]; unfold openB; split <;> (try split) <;> simp <;> omega
  have HX2 := Lib.hid (hX.mono (S' := fun k => k ≠ g) (fun k hk e => by have := HN.out.lt; omega))
  have HN2 := Lib.hid (HN.out.step hT2 hg2)
  clear hX hT2 hg2 HN
  go_wp2_with fail
  refine (ropen_any w2 _ B n' c' vs (HN2.out.rd HY.out) (by omega)).mono ?_
  rintro e w3 ⟨Y, i2, j2, rfl, hY, hb3⟩
  have hl2 : i2 ≤ 3000 := by rw [← hY.len]; unfold openB; split <;> (try split) <;> simp <;> omega
  have HX3 := Lib.hid (HX2.out.after hb3)
  have HY3 := Lib.hid (hY.mono (S' := fun k => k ≠ g) (fun k hk e => by have := HN2.out.lt; omega))
  have HN3 := Lib.hid (HN2.out.below hb3)
  clear hY hb3 HN2 HX2
  go_wp2_with fail
  refine (sum_any w3 g _ HN3.out.tab _ A n c us (HN3.out.rd HX.out) HN3.out.apart (by omega) (by omega)).mono ?_
  rintro e w4 ⟨rfl, hT4, hg4⟩
  have HN4 := Lib.hid (HN3.out.step (.inl hT4) hg4)
  have HX4 := Lib.hid (HX3.out.only hg4 (fun k h _ => h))
  have HY4 := Lib.hid (HY3.out.only hg4 (fun k h _ => h))
  clear hT4 hg4 HN3 HX3 HY3
  go_wp2_with fail
  refine (rsum_any w4 _ A n c us (HN4.out.rd HX.out) (by omega)).mono ?_
  rintro e w' ⟨rfl, rfl⟩
  go_wp2_with fail
  refine (more_any w4 g _ HN4.out.tab r hr _ A n c us (HN4.out.rd HX.out) HN4.out.apart (by omega) (by omega)).mono ?_
  rintro e w5 ⟨rfl, hT5, hg5⟩
  have HN5 := Lib.hid (HN4.out.step (.inl hT5) hg5)
  have HX5 := Lib.hid (HX4.out.only hg5 (fun k h _ => h))
  have HY5 := Lib.hid (HY4.out.only hg5 (fun k h _ => h))
  clear hT5 hg5 HN4 HX4 HY4
  go_wp2_with fail
  refine (rmore_any w5 r hr _ A n c us (HN5.out.rd HX.out) (by omega)).mono ?_
  rintro e w' ⟨rfl, rfl⟩
  go_wp2_with fail
  refine (seal_any w5 g _ HN5.out.tab _ A n c us (HN5.out.rd HX.out) HN5.out.apart (by omega) (by omega)).mono ?_
  rintro e w6 ⟨P, p, rfl, hown6, hT6, hg6⟩
  obtain ⟨P', p', e6, hP⟩ := own_bs hown6
  cases e6
  have HN6 := Lib.hid (HN5.out.step (.inl hT6) hg6)
  have HX6 := Lib.hid (HX5.out.only hg6 (fun k h _ => h))
  have HY6 := Lib.hid (HY5.out.only hg6 (fun k h _ => h))
  have HP6 := Lib.hid hP
  clear hT6 hg6 HN5 HX5 HY5 hown6 hP
  go_wp2_with fail
  refine (rseal_any w6 _ A n c us (HN6.out.rd HX.out) (by omega)).mono ?_
  rintro e w7 ⟨R, q, rfl, hown7, hb7⟩
  obtain ⟨R', q', e7, hR⟩ := own_bs hown7
  cases e7
  have HN7 := Lib.hid (HN6.out.below hb7)
  have HX7 := Lib.hid (HX6.out.after hb7)
  have HY7 := Lib.hid (HY6.out.after hb7)
  have HP7 := Lib.hid (HP6.out.after hb7)
  have HR7 := Lib.hid hR
  clear hb7 HN6 HX6 HY6 hown7 hR HP6
  go_wp2_with fail
  refine (bytes_any w7 _ _ P R (n + 4) (n + 4) _ _ _ _ HP7.out HR7.out (by omega) (by omega)).mono ?_
  rintro e w8 ⟨rfl, m8, rfl⟩
  rw [decide_eq_true (rfl : Crc.seal_ us = Crc.seal_ us)]
  go_wp2_with fail
  refine (bytes_any (w7.drewN m8) _ _ X Y i1 i2 _ _ _ _ (HX7.out.keep (fun _ _ _ => rfl) (fun _ h _ => h)) (HY7.out.keep (fun _ _ _ => rfl) (fun _ h _ => h)) (by omega) (by omega)).mono ?_
  rintro e w9 ⟨rfl, m9, rfl⟩
  rw [decide_eq_true (rfl : openB vs = openB vs)]
  have HN9 := Lib.hid ((HN7.out.drewN m8).drewN m9)
  go_wp2_with fail
  refine (crcAlive_any _).mono ?_
  rintro e w10 ⟨rfl, hb10⟩
  have HF := Lib.hid (HN9.out.below (by simpa using hb10)).bel
  clear hb10
  go_wp2_with fail
  go_ret
  exact ⟨rfl, HF.out⟩
set_option maxRecDepth 10000 in
theorem crcSums_out (w : World) (r : Int) (A B : Option Addr) (n n' c c' : Nat) (h : 3000 < n ∨ 3000 < n') :
    Calls Try.prog 7 #[.int .u32 r, .slice A n c, .slice B n' c'] w fun e w' => e = .returned (.bool true) ∧ Below w.heap.size w w' := by
  by_cases h1 : 3000 < n
  · have t1 : (3000 : Int) < (n : Int) := by omega
    clear h h1
    go_enter Try.func7, Try.ntmps7
    go_wp2_with fail
    refine (crcAlive_any _).mono ?_
    rintro e w1 ⟨rfl, hb⟩
    have HB := Lib.hid hb
    clear hb
    go_wp2_with fail
    go_ret
    exact ⟨rfl, HB.out⟩
  · have t1 : ¬ (3000 : Int) < (n : Int) := by omega
    have t2 : (3000 : Int) < (n' : Int) := by omega
    clear h h1
    go_enter Try.func7, Try.ntmps7
    go_wp2_with fail
    refine (crcAlive_any _).mono ?_
    rintro e w1 ⟨rfl, hb⟩
    have HB := Lib.hid hb
    clear hb
    go_wp2_with fail
    go_ret
    exact ⟨rfl, HB.out⟩
theorem crcSums_any (w : World) (r : Nat) (hr : r < 4294967296) (S S' : Nat → Prop) (A B : Option Addr) (n n' c c' : Nat) (us vs : List UInt8) (hx : Bs w S A n c us) (hy : Bs w S' B n' c' vs) :
    Calls Try.prog 7 #[.int .u32 (r : Int), .slice A n c, .slice B n' c'] w fun e w' => e = .returned (.bool true) ∧ Below w.heap.size w w' := by
  by_cases h : 3000 < n ∨ 3000 < n'
  · exact crcSums_out w r A B n n' c c' h
  · exact crcSums_in w r hr S S' A B n n' c c' us vs hx hy (by omega) (by omega)
end Go.Proofs.Ytaebmhbggbpnoaa
