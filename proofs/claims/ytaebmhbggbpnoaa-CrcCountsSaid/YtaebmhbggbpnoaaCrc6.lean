/- The walks of the reference's More, Sum, Seal, Open (crc). Conditions: each theorem's premises. -/
import Derived.Test.YtaebmhbggbpnoaaCrc5
namespace Go.Proofs.Ytaebmhbggbpnoaa
open Go.RowKit
theorem neg_u32' (r : Nat) (hr : r < 4294967296) : bits .xor .u32 IntKind.u32.max (r : Int) = ((Crc.neg r : Nat) : Int) := neg_u32 r hr
set_option maxRecDepth 10000 in
set_option maxHeartbeats 2000000 in
theorem rmore_any (w : World) (r : Nat) (hr : r < 4294967296) (S : Nat → Prop) (A : Option Addr) (n c : Nat) (bs : List UInt8) (hx : Bs w S A n c bs) (hn : n ≤ 1000000000) :
    Calls Try.prog 37 #[.int .u32 (r : Int), .slice A n c] w fun e w' => e = .returned (.int .u32 ((Crc.more r bs : Nat) : Int)) ∧ w = w' := by
  have HX := Lib.hid hx
  have HR := Lib.hid (Crc.neg_lt hr)
  have n0 : IntKind.u32.signed = false := rfl
  have n1 := neg_u32 r hr
  clear hx
  go_enter Try.func37, Try.ntmps37
  go_wp2_with fail
  go_loop [5, 6] (fun v5 v6 => ∃ k y : Nat, k ≤ n ∧ v6 = .int .i64 (k : Int) ∧ v5 = .int .u32 (y : Int) ∧ y < 4294967296 ∧ Hid (y = Crc.run (Crc.neg r) (bs.take k))) (fun _ v6 => n - (intOf v6).toNat)
  case atStart => exact ⟨0, Crc.neg r, by omega, rfl, rfl, HR.out, Lib.hid rfl⟩
  case round =>
    obtain ⟨k, y, hk, rfl, rfl, hy, HY⟩ := hrel
    clear n1
    by_cases hlt : k < n
    · obtain ⟨ad, b, rfl, Hb, hc⟩ := HX.out.at_ hlt
      have hb := u8_lt b
      have hbn := b.toNat_lt
      have e1 := crc_xor (a := y) (b := b.toNat) hy (by omega)
      have hyb : y ^^^ b.toNat < 4294967296 := Nat.xor_lt_two_pow (n := 32) hy (by omega)
      have hlt' : (k : Int) < (n : Int) := by omega
      go_wp2_with fail
      go_loop [5, 7] (fun v5 v7 => ∃ j z : Nat, j ≤ 8 ∧ v7 = .int .i64 (j : Int) ∧ v5 = .int .u32 (z : Int) ∧ z < 4294967296 ∧ Hid (z = Crc.down j (y ^^^ b.toNat))) (fun _ v7 => 8 - (intOf v7).toNat)
      case atStart => exact ⟨0, y ^^^ b.toNat, by omega, rfl, rfl, hyb, Lib.hid rfl⟩
      case round =>
        obtain ⟨j, z, hj, rfl, rfl, hz, HZ⟩ := hrel
        clear e1 hyb
        by_cases hl2 : j < 8
        · have hl2' : (j : Int) < 8 := by omega
          have Hd := Lib.hid (Crc.down_half j (y ^^^ b.toNat))
          have e2 := crc_xor (a := z / 2) (b := 2197175160) (by omega) (by omega)
          have e3 : bits .xor .u32 ((z : Int) / 2) 2197175160 = ((z / 2 ^^^ 2197175160 : Nat) : Int) := e2
          clear e2
          have hz' : (z : Int) < 4294967296 := by omega
          by_cases h1 : z % 2 = 1
          · have hh : Crc.half z = z / 2 ^^^ 2197175160 := by unfold Crc.half; rw [if_pos h1]; rfl
            have HH := Lib.hid hh
            have h1' : ((z : Int) % 2 == 1) = true := by rw [beq_iff_eq]; omega
            clear hh h1
            go_wp2_with fail
            go_round
            case rel => exact ⟨j + 1, Crc.half z, by omega, by go_num, by rw [HH.out], Crc.half_lt (k := 32) (by omega) hz, Lib.hid (by rw [HZ.out, ← Hd.out]; rfl)⟩
            case measure => simp [intOf]; omega
          · have hh : Crc.half z = z / 2 := by unfold Crc.half; rw [if_neg h1]
            have HH := Lib.hid hh
            have h1' : ((z : Int) % 2 == 1) = false := by rw [beq_eq_false_iff_ne]; omega
            clear hh h1
            go_wp2_with fail
            go_round
            case rel => exact ⟨j + 1, Crc.half z, by omega, by go_num, by rw [HH.out]; rfl, Crc.half_lt (k := 32) (by omega) hz, Lib.hid (by rw [HZ.out, ← Hd.out]; rfl)⟩
            case measure => simp [intOf]; omega
        · obtain rfl : j = 8 := by omega
          go_wp2_with fail
          go_round
          case rel => exact ⟨k + 1, z, by omega, by go_num, rfl, hz, Lib.hid (by rw [HZ.out, HY.out, take_snoc Hb.out, Crc.run_snoc])⟩
          case measure => simp [intOf]; omega
    · obtain rfl : k = n := by omega
      have hY := HY.out
      rw [List.take_of_length_le (by rw [HX.out.len]; omega)] at hY
      have e4 : Crc.neg y = Crc.more r bs := by rw [hY]; rfl
      have HY2 := Lib.hid e4
      have n2 := neg_u32 y hy
      clear hY e4
      go_wp2_with fail
      go_ret
      exact ⟨by rw [← HY2.out]; rfl, rfl⟩
theorem rsum_any (w : World) (S : Nat → Prop) (A : Option Addr) (n c : Nat) (bs : List UInt8) (hx : Bs w S A n c bs) (hn : n ≤ 1000000000) :
    Calls Try.prog 35 #[.slice A n c] w fun e w' => e = .returned (.int .u32 ((Crc.sum bs : Nat) : Int)) ∧ w = w' := by
  have HC := Lib.hid (rmore_any w 0 (by omega) S A n c bs hx hn)
  clear hx
  go_enter Try.func35, Try.ntmps35
  go_wp2_with fail
  refine (HC.out).mono ?_
  rintro e w' ⟨rfl, rfl⟩
  go_wp2_with fail
  go_ret
  exact ⟨rfl, rfl⟩
end Go.Proofs.Ytaebmhbggbpnoaa
