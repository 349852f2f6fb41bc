/- The walk of CrcJoins. Conditions: each theorem's premises. -/
import Derived.Test.YtaebmhbggbpnoaaCrc8
import Derived.Laws.OwnMore
import Derived.Laws.Entries
namespace Go.Proofs.Ytaebmhbggbpnoaa
open Go.RowKit
theorem run_make_rowN {P : Program} (t e : TypeId) (i : TypeInfo) (z : Value) (ht : P.underlying t = some (.slice e)) (hi : P.info? e = some i) (hz : i.zero = some z)
    (kl kc : IntKind) (n c : Nat) (hnc : n ≤ c) (hbytes : i.bytes * c ≤ 281474976710656) (h63 : c ≤ 9223372036854775807) (w : World) :
    (Instr.makeSlice t (.int kl (n : Int)) (.int kc (c : Int))).run P w = .ok (.slice (some ⟨w.heap.size, 0, none⟩) n c) (w.alloc (.cells (madeCells z.cells (c * i.size)) e)) := by
  have hb : (i.bytes : Int) * (c : Int) ≤ 281474976710656 := by
    have h : ((i.bytes * c : Nat) : Int) ≤ 281474976710656 := by omega
    rwa [Int.natCast_mul] at h
  have hr := run_make (P := P) w t e i z ht hi hz kl kc n c (by omega) (by omega) hb (by omega)
  simp only [Int.toNat_natCast] at hr
  exact hr
/-- make([]byte, n). -/
theorem make_u8 (n : Nat) (hn : n ≤ 1000000000) : ∃ C : Array Value, (∀ w : World, (Instr.makeSlice 22 (.int .i64 (n : Int)) (.int .i64 (n : Int))).run Try.prog w = .ok (.slice (some ⟨w.heap.size, 0, none⟩) n n) (w.alloc (.cells C 5))) ∧
    Hid (∀ w : World, Bs (w.alloc (.cells C 5)) (fun k => w.heap.size ≤ k) (some ⟨w.heap.size, 0, none⟩) n n (List.replicate n 0)) := by
  obtain ⟨i0, hi0, hz0, hz1, hz2⟩ := info_parts Try.info5
  refine ⟨madeCells (Value.int .u8 0).cells (n * i0.size), fun w => run_make_rowN 22 5 i0 _ Try.underlying22 hi0 hz0 .i64 .i64 n n (Nat.le_refl _) (by rw [hz2]; omega) (by omega) w, Lib.hid fun w => ?_⟩
  rw [hz1, Nat.mul_one]
  refine ⟨by simp, Nat.le_refl _, by simp [u8s], fun _ => ⟨_, rfl, Nat.le_refl _, fun j u hu => ?_⟩⟩
  rw [add_plain, World.cell?_alloc_new]
  have e := toList_madeCells_one (Value.int .u8 0) n
  have e2 : (madeCells (Value.int .u8 0).cells n)[j]? = (List.replicate n (Value.int .u8 0))[j]? := by rw [← e, Array.getElem?_toList]; rfl
  rw [e2]
  simpa [u8s, u8v, List.getElem?_replicate] using hu
set_option maxRecDepth 10000 in
set_option maxHeartbeats 4000000 in
theorem crcJoins_in (w : World) (r : Nat) (hr : r < 4294967296) (S S' : Nat → Prop) (A B : Option Addr) (n n' c c' : Nat) (us vs : List UInt8) (hx : Bs w S A n c us) (hy : Bs w S' B n' c' vs) (hn : n ≤ 3000) (hn' : n' ≤ 3000) (m : Int) (hm : -9223372036854775808 ≤ m ∧ m ≤ 9223372036854775807) :
    Calls Try.prog 5 #[.slice A n c, .slice B n' c', .int .u32 (r : Int), .int .i64 m] w fun e w' => e = .returned (.bool true) ∧ Below w.heap.size w w' := by
  have HX := Lib.hid hx.old
  have HY := Lib.hid hy.old
  have HM := Lib.hid hm
  have HJ : Hid (Crc.down (8 * n') (Crc.sum us) ^^^ Crc.sum vs = Crc.sum (us ++ vs)) := Lib.hid (by rw [Crc.sum_append, hy.len])
  clear hx hy hm
  have t1 : ¬ (3000 : Int) < (n : Int) := by omega
  have t2 : ¬ (3000 : Int) < (n' : Int) := by omega
  go_enter Try.func5, Try.ntmps5
  go_wp2_with fail
  refine (new_any _).mono ?_
  rintro e w1 ⟨rfl, hT, hb⟩
  obtain ⟨g, hg⟩ : ∃ g, g = w.heap.size := ⟨_, rfl⟩
  rw [← hg] at hT
  have HN := Lib.hid (On.mk (d := 0) hb (.inr ⟨_, hT⟩) (Nat.le_of_eq hg.symm))
  rw [← hg]
  clear hT hb hg
  go_wp2_with fail
  refine (sum_any w1 g 0 HN.out.tab _ A n c us (HN.out.rd HX.out) HN.out.apart (by omega) (by omega)).mono ?_
  rintro e w2 ⟨rfl, hT2, hg2⟩
  have HN2 := Lib.hid (HN.out.step (.inl hT2) hg2)
  clear hT2 hg2 HN
  go_wp2_with fail
  refine (sum_any w2 g _ HN2.out.tab _ B n' c' vs (HN2.out.rd HY.out) HN2.out.apart (by omega) (by omega)).mono ?_
  rintro e w3 ⟨rfl, hT3, hg3⟩
  have HN3 := Lib.hid (HN2.out.step (.inl hT3) hg3)
  clear hT3 hg3 HN2
  go_wp2_with fail
  refine (join_any w3 g _ _ (Crc.sum_lt us) (Crc.sum_lt vs) (n' : Int) (by omega) (by omega)).mono ?_
  rintro e w' ⟨rfl, rfl⟩
  rw [show ((n' : Int)).toNat = n' from by omega, HJ.out]
  have tok1 : True := trivial
  go_wp2_with (at_builtin; (first | (have _t := tok1; refine wpList_append_u8 rfl (.tmp 31) (.tmp 32) rfl (base := w3.heap.size) (v := .slice (some ⟨w3.heap.size, 0, none⟩) 0 0) (n := 0) (xs := []) rfl (World.ownsRow_made w3 #[] 0 (Nat.le_refl _) (by simp [maxLen]) rfl : World.ownsRow _ _ _ _ _ _ (u8s [])) (m := n) (c := c) (ys := us) rfl ((HN3.out.rd HX.out).after ((Below.refl _ _).alloc (Nat.le_refl _) _)) (by omega) (by simp) ?_; intro v1 w4 hown1 hg1 hat1; clear tok1; simp only [Nat.zero_add, List.nil_append] at hown1; obtain ⟨A1, c1, rfl, _⟩ := own_shape hown1; have HO := Lib.hid (And.intro hown1 (((Below.refl w3.heap.size w3).alloc (Nat.le_refl _) _).grown hg1 (by simp) (by simp [Value.ownBlock]))); clear hown1 hg1 hat1) | go_loud (refine wpList_append_u8 rfl (.tmp 33) (.tmp 34) rfl (base := w3.heap.size) (v := .slice A1 n c1) (n := n) (xs := us) rfl HO.out.1 (m := n') (c := c') (ys := vs) rfl ((HN3.out.rd HY.out).after HO.out.2) (by omega) HO.out.2.size ?_; intro v3 w5 hown3 hg3 hat3; have HQ := Lib.hid (And.intro hown3 (Below.grown HO.out.2 hg3 HO.out.2.size (own_base HO.out.1))); clear hown3 hg3 hat3)))
  obtain ⟨A3, c3, rfl, hbs3⟩ := own_bs HQ.out.1
  refine (rsum_any w5 _ A3 (n + n') c3 _ hbs3 (by omega)).mono ?_
  rintro e w' ⟨rfl, rfl⟩
  have HN5 := Lib.hid (HN3.out.below HQ.out.2)
  clear HN3 HQ HO hbs3
  have hm1 := HM.out.1
  have hm2 := HM.out.2
  by_cases h3 : 3000 < m
  · go_wp2_with fail
    refine (crcAlive_any _).mono ?_
    rintro e w6 ⟨rfl, hb6⟩
    have HF := Lib.hid (HN5.out.below hb6).bel
    clear hb6
    go_wp2_with fail
    go_ret
    exact ⟨rfl, HF.out⟩
  · obtain ⟨k, hk⟩ : ∃ k, k = m.toNat := ⟨_, rfl⟩
    have hk3 : k ≤ 3000 := by omega
    obtain ⟨C, hmk, HC⟩ := make_u8 k (by omega)
    have HZ : Hid (Crc.neg (Crc.down (8 * m.toNat) (Crc.neg r)) = Crc.more r (List.replicate k 0)) := Lib.hid (by rw [Crc.more_zeros, hk])
    have HB6 : ∀ W : World, Below W.heap.size W (W.alloc (.cells C 5)) := fun W => (Below.refl _ _).alloc (Nat.le_refl _) _
    have HB7 := Lib.hid (HB6 w5)
    clear HB6
    by_cases h0 : m < 0
    · have hk0 : k = 0 := by omega
      have HZ0 := HZ
      subst hk0
      have hmk0 : ∀ w : World, (Instr.makeSlice 22 (.int .i64 0) (.int .i64 0)).run Try.prog w = .ok (.slice (some ⟨w.heap.size, 0, none⟩) 0 0) (w.alloc (.cells C 5)) := hmk
      clear hk HZ0 hmk
      go_wp2_with fail
      refine (zeros_any _ g r hr m ⟨hm1, hm2⟩).mono ?_
      rintro e w' ⟨rfl, rfl⟩
      rw [HZ.out]
      go_wp2_with fail
      refine (rmore_any _ r hr _ _ 0 0 _ (HC.out w5) (by omega)).mono ?_
      rintro e w' ⟨rfl, rfl⟩
      have HN6 := Lib.hid (HN5.out.below HB7.out)
      go_wp2_with fail
      refine (join_neg _ g r 7 m h0).mono ?_
      rintro e w' ⟨rfl, rfl⟩
      go_wp2_with fail
      refine (crcAlive_any _).mono ?_
      rintro e w6 ⟨rfl, hb6⟩
      have HF := Lib.hid (HN6.out.below hb6).bel
      clear hb6
      go_wp2_with fail
      go_ret
      exact ⟨rfl, HF.out⟩
    · obtain rfl : m = (k : Int) := by omega
      clear hk
      go_wp2_with fail
      refine (zeros_any _ g r hr _ ⟨hm1, hm2⟩).mono ?_
      rintro e w' ⟨rfl, rfl⟩
      rw [HZ.out]
      go_wp2_with fail
      refine (rmore_any _ r hr _ _ k k _ (HC.out w5) (by omega)).mono ?_
      rintro e w' ⟨rfl, rfl⟩
      have HN6 := Lib.hid (HN5.out.below HB7.out)
      go_wp2_with fail
      refine (crcAlive_any _).mono ?_
      rintro e w6 ⟨rfl, hb6⟩
      have HF := Lib.hid (HN6.out.below hb6).bel
      clear hb6
      go_wp2_with fail
      go_ret
      exact ⟨rfl, HF.out⟩
set_option maxRecDepth 10000 in
theorem crcJoins_out (w : World) (r m : Int) (A B : Option Addr) (n n' c c' : Nat) (h : 3000 < n ∨ 3000 < n') :
    Calls Try.prog 5 #[.slice A n c, .slice B n' c', .int .u32 r, .int .i64 m] w fun e w' => e = .returned (.bool true) ∧ Below w.heap.size w w' := by
  by_cases h1 : 3000 < n
  · have t1 : (3000 : Int) < (n : Int) := by omega
    clear h h1
    go_enter Try.func5, Try.ntmps5
    go_wp2_with fail
    refine (crcAlive_any _).mono ?_
    rintro e w1 ⟨rfl, hb⟩
    have HB := Lib.hid hb
    clear hb
    go_wp2_with fail
    go_ret
    exact ⟨rfl, HB.out⟩
  · have t1 : ¬ (3000 : Int) < (n : Int) := by omega
    have t2 : (3000 : Int) < (n' : Int) := by omega
    clear h h1
    go_enter Try.func5, Try.ntmps5
    go_wp2_with fail
    refine (crcAlive_any _).mono ?_
    rintro e w1 ⟨rfl, hb⟩
    have HB := Lib.hid hb
    clear hb
    go_wp2_with fail
    go_ret
    exact ⟨rfl, HB.out⟩
theorem crcJoins_any (w : World) (r : Nat) (hr : r < 4294967296) (S S' : Nat → Prop) (A B : Option Addr) (n n' c c' : Nat) (us vs : List UInt8) (hx : Bs w S A n c us) (hy : Bs w S' B n' c' vs) (m : Int) (hm : -9223372036854775808 ≤ m ∧ m ≤ 9223372036854775807) :
    Calls Try.prog 5 #[.slice A n c, .slice B n' c', .int .u32 (r : Int), .int .i64 m] w fun e w' => e = .returned (.bool true) ∧ Below w.heap.size w w' := by
  by_cases h : 3000 < n ∨ 3000 < n'
  · exact crcJoins_out w r m A B n n' c c' h
  · exact crcJoins_in w r hr S S' A B n n' c c' us vs hx hy (by omega) (by omega) m hm
end Go.Proofs.Ytaebmhbggbpnoaa
