/- The walk of the reference's Text (sha). Conditions: each theorem's premises. -/
import Derived.Test.YtepcbnkhfiphdaaSha15
namespace Go.Proofs.Ytepcbnkhfiphdaa
open Go.RowKit
theorem digs_cut : ∀ d, d < 16 → digs.extract d (d + 1) = ⟨#[Sha.dg d]⟩ := by decide
theorem text_two {nm : List UInt8} {k d1 d2 : Nat} {b : UInt8} {X : ByteArray} (_ : nm.length = 32) (hb : nm[k]? = some b) (hX : X = ⟨(Sha.hex (nm.take k)).toArray⟩) (h1 : d1 = b.toNat / 16) (h2 : d2 = b.toNat % 16) :
    X ++ digs.extract d1 (d1 + 1) ++ digs.extract d2 (d2 + 1) = ⟨(Sha.hex (nm.take (k + 1))).toArray⟩ := by
  have hbl := b.toNat_lt
  rw [digs_cut d1 (by omega), digs_cut d2 (by omega), take_snoc hb, hex_app, hX]
  have e : Sha.hex [b] = [Sha.dg d1, Sha.dg d2] := by rw [h1, h2]; rfl
  rw [e]
  apply ByteArray.ext
  simp
set_option maxRecDepth 100000 in
set_option maxHeartbeats 1000000 in
theorem rtext_any (w : World) (nm : List UInt8) (hn : nm.length = 32) : Calls Try.prog 22 #[.agg (NC nm)] w fun e w' => e = .returned (.string ⟨(Sha.hex nm).toArray⟩) ∧ Below w.heap.size w w' := by
  have HNM := Lib.hid hn
  clear hn
  have HB := Lib.hid (Blk.new w 30 (NC nm))
  have HW := Lib.hid (show Below w.heap.size w (w.alloc (.cells (NC nm) 30)) from (Below.refl _ _).alloc (Nat.le_refl _) _)
  go_enter Try.func22, Try.ntmps22
  go_wp2_with fail
  obtain ⟨W0, hW0⟩ : ∃ W0, W0 = w.alloc (.cells (NC nm) 30) := ⟨_, rfl⟩
  rw [← hW0] at HB HW
  rw [← hW0]
  clear hW0
  go_loopw [4, 5] (fun v4 v5 wr => ∃ (k : Nat) (X : ByteArray), k ≤ 32 ∧ v5 = .int .i64 (k : Int) ∧ v4 = .string X ∧ Hid (X = ⟨(Sha.hex (nm.take k)).toArray⟩) ∧ Hid (Blk wr w.heap.size 30 (NC nm)) ∧ Hid (Below w.heap.size w wr)) (fun _ v5 _ => 32 - (intOf v5).toNat)
  case atStart => exact ⟨0, _, by omega, rfl, rfl, Lib.hid rfl, HB, HW⟩
  case round =>
    clear HB HW
    obtain ⟨k, X, hk, rfl, rfl, HX, HB, HW⟩ := hrel
    by_cases hlt : k < 32
    · have hlt' : (k : Int) < 32 := by omega
      obtain ⟨b, hb⟩ : ∃ b, nm[k]? = some b := ⟨_, List.getElem?_eq_getElem (by rw [HNM.out]; exact hlt)⟩
      have c0 : wr.cell? ⟨w.heap.size, k, none⟩ = some (.int .u8 (b.toNat : Int)) := by rw [HB.out.cell]; simp [NC, u8s, u8v, hb]
      have HBB := Lib.hid hb
      have hbl := b.toNat_lt
      obtain ⟨d1, h1⟩ : ∃ d, d = b.toNat / 16 := ⟨_, rfl⟩
      obtain ⟨d2, h2⟩ : ∃ d, d = b.toNat % 16 := ⟨_, rfl⟩
      have e1 : (b.toNat : Int) / 16 = (d1 : Int) := by omega
      have e3 : (b.toNat : Int) % 16 = (d2 : Int) := by omega
      have d1l : (d1 : Int) < 16 := by omega
      have d2l : (d2 : Int) < 16 := by omega
      have w1 : IntKind.u8.wrap (d1 : Int) = (d1 : Int) := by rw [IntKind.wrap_u8]; omega
      have w2 : IntKind.u8.wrap (d2 : Int) = (d2 : Int) := by rw [IntKind.wrap_u8]; omega
      have w3 : IntKind.u8.wrap ((d1 : Int) + 1) = (d1 : Int) + 1 := by rw [IntKind.wrap_u8]; omega
      have w4 : IntKind.u8.wrap ((d2 : Int) + 1) = (d2 : Int) + 1 := by rw [IntKind.wrap_u8]; omega
      have t1 : ((d1 : Int) + 1).toNat = d1 + 1 := by omega
      have t2 : ((d2 : Int) + 1).toNat = d2 + 1 := by omega
      have p1 : (d1 : Int) + 1 ≤ 16 := by omega
      have p2 : (d2 : Int) + 1 ≤ 16 := by omega
      have m1 : (0 : Int) ≤ (d1 : Int) + 1 := by omega
      have m2 : (0 : Int) ≤ (d2 : Int) + 1 := by omega
      have m3 : (d1 : Int) ≤ (d1 : Int) + 1 := by omega
      have m4 : (d2 : Int) ≤ (d2 : Int) + 1 := by omega
      have hXs : X.size ≤ 64 := by
        rw [HX.out]
        show (Sha.hex (nm.take k)).toArray.size ≤ 64
        rw [List.size_toArray, hex_len, List.length_take]
        omega
      have s1 : X.size + (min (d1 + 1) 16 - d1) ≤ 9223372036854775807 := by omega
      have s2 : X.size + (min (d1 + 1) 16 - d1) + (min (d2 + 1) 16 - d2) ≤ 9223372036854775807 := by omega
      clear hXs
      have H12 := Lib.hid (And.intro h1 h2)
      clear hb hbl h1 h2
      go_wp2_with fail
      go_quiet (fail)
      go_wp2_with fail
      have HN := Lib.hid (text_two HNM.out HBB.out HX.out H12.out.1 H12.out.2)
      rw [show (⟨#[48, 49, 50, 51, 52, 53, 54, 55, 56, 57, 97, 98, 99, 100, 101, 102]⟩ : ByteArray) = digs from rfl]
      exact ⟨⟨k + 1, _, by omega, by go_num, rfl, HN, Lib.hid (HB.out.drewN nq), Lib.hid (below_drewN HW.out nq)⟩, by simp [intOf]; omega⟩
    · obtain rfl : k = 32 := by omega
      have HX2 := Lib.hid (show X = ⟨(Sha.hex nm).toArray⟩ by have := HX.out; rwa [List.take_of_length_le (by rw [HNM.out]; omega)] at this)
      go_wp2_with fail
      go_ret
      exact ⟨by rw [← HX2.out]; rfl, HW.out⟩
end Go.Proofs.Ytepcbnkhfiphdaa
