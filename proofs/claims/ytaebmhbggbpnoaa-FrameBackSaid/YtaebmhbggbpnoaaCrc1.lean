/- The walks of half, times, power (crc). Conditions: each theorem's premises. -/
import Derived.Test.YtaebmhbggbpnoaaBase
import Derived.Test.YtaebmhbggbpnoaaCrcSpec
import Derived.Laws.BitsAllLaws
import Derived.Deep.LoopGhost
namespace Go.Proofs.Ytaebmhbggbpnoaa
open Go.RowKit
theorem crc_and1 {r : Nat} (hr : r < 4294967296) : bits .and .u32 (r : Int) 1 = ((r % 2 : Nat) : Int) := by
  have := u32_and_nat r 1 hr (by omega)
  rw [nat_mask1] at this
  exact this
theorem crc_xor {a b : Nat} (ha : a < 4294967296) (hb : b < 4294967296) : bits .xor .u32 (a : Int) (b : Int) = ((a ^^^ b : Nat) : Int) := u32_xor_nat a b ha hb
theorem half_any (r : Nat) (hr : r < 4294967296) (w : World) :
    Calls Try.prog 126 #[.int .u32 (r : Int)] w fun e w' => e = .returned (.int .u32 ((Crc.half r : Nat) : Int)) ∧ w = w' := by
  have e1 := crc_and1 hr
  have e2 : bits .xor .u32 ((r : Int) / 2) 2197175160 = ((r / 2 ^^^ Crc.poly : Nat) : Int) := by
    have := crc_xor (a := r / 2) (b := 2197175160) (by omega) (by omega)
    rw [Crc.poly_eq]
    exact this
  have hr' : (r : Int) < 4294967296 := by omega
  by_cases h : r % 2 = 1
  · have hh : Crc.half r = r / 2 ^^^ Crc.poly := by unfold Crc.half; rw [if_pos h]
    have H := Lib.hid hh
    rw [h] at e1
    clear hh h
    go_enter Try.func126, Try.ntmps126
    go_wp2_with fail
    go_ret
    exact ⟨by rw [H.out]; rfl, rfl⟩
  · have hh : Crc.half r = r / 2 := by unfold Crc.half; rw [if_neg h]
    have H := Lib.hid hh
    rw [show r % 2 = 0 from by omega] at e1
    clear hh h
    go_enter Try.func126, Try.ntmps126
    go_wp2_with fail
    go_ret
    exact ⟨by rw [H.out]; rfl, rfl⟩
theorem times_any (a b : Nat) (ha : a < 4294967296) (hb : b < 4294967296) (w : World) :
    Calls Try.prog 92 #[.int .u32 (a : Int), .int .u32 (b : Int)] w fun e w' => e = .returned (.int .u32 ((Crc.mul a b : Nat) : Int)) ∧ w = w' := by
  have Ha := Lib.hid ha
  have Hb := Lib.hid hb
  clear ha hb
  go_enter Try.func92, Try.ntmps92
  go_wp2_with fail
  go_loopg [0, 1, 4] 32 (fun gk v0 v1 v4 wr => w = wr ∧ ∃ k x y z : Nat, gk + k = 32 ∧ v0 = .int .u32 (x : Int) ∧ v1 = .int .u32 (y : Int) ∧ v4 = .int .u32 (z : Int) ∧ x < 4294967296 ∧ y < 4294967296 ∧ z < 4294967296 ∧ Hid (x = Crc.up k a) ∧ Hid (z ^^^ Crc.mul x y = Crc.mul a b))
  case atStart => exact ⟨rfl, 0, a, b, 0, rfl, rfl, rfl, rfl, Ha.out, Hb.out, by omega, Lib.hid (Crc.up_zero Ha.out).symm, Lib.hid (by rw [Nat.zero_xor])⟩
  case round =>
    obtain ⟨rfl, k, x, y, z, hgk, rfl, rfl, rfl, hx, hy, hz, HX, HE⟩ := hrel
    clear Ha Hb
    by_cases h0 : x = 0
    · have h0' : ((x : Int) != 0) = false := by simp [h0]
      have H0 := Lib.hid h0
      clear h0
      go_wp2_with fail
      go_ret
      have hE := HE.out
      rw [H0.out, Crc.mul_zero_left, Nat.xor_zero] at hE
      exact ⟨by rw [← hE]; rfl, rfl⟩
    · have h0' : ((x : Int) != 0) = true := by simp [h0]
      have hk : k < 32 := by
        rcases Nat.lt_or_ge k 32 with h | h
        · exact h
        · exfalso
          have e := HX.out
          rw [show k = 32 from by omega, Crc.up_all] at e
          exact h0 e
      have hm := Crc.mul_round x y
      by_cases h1 : x / 2147483648 = 1
      · rw [h1, if_pos rfl] at hm
        have H1 := Lib.hid hm
        have h1' : ((x : Int) / 2147483648 == 1) = true := by
          rw [beq_iff_eq]; omega
        clear h0 hm h1
        have e1 := crc_xor hz hy
        go_wp2_with fail
        refine (half_any y hy _).mono ?_
        rintro e w' ⟨rfl, rfl⟩
        go_wp2_with fail
        go_roundg (gk - 1)
        case measure => omega
        case rel =>
          refine ⟨rfl, k + 1, 2 * x % 4294967296, Crc.half y, z ^^^ y, by omega, by congr 1; omega, rfl, rfl, by omega, Crc.half_lt (k := 32) (Nat.le_refl _) hy, Nat.xor_lt_two_pow (n := 32) hz hy, Lib.hid (by rw [Crc.up_succ, HX.out]), Lib.hid ?_⟩
          rw [Nat.xor_assoc, ← H1.out]
          exact HE.out
      · have h2 : x / 2147483648 = 0 := by omega
        rw [h2, if_neg (by omega), Nat.zero_xor] at hm
        have H1 := Lib.hid hm
        have h1' : ((x : Int) / 2147483648 == 1) = false := by
          rw [beq_eq_false_iff_ne]; omega
        clear h0 hm h1 h2
        go_wp2_with fail
        refine (half_any y hy _).mono ?_
        rintro e w' ⟨rfl, rfl⟩
        go_wp2_with fail
        go_roundg (gk - 1)
        case measure => omega
        case rel =>
          refine ⟨rfl, k + 1, 2 * x % 4294967296, Crc.half y, z, by omega, by congr 1; omega, rfl, rfl, by omega, Crc.half_lt (k := 32) (Nat.le_refl _) hy, hz, Lib.hid (by rw [Crc.up_succ, HX.out]), Lib.hid ?_⟩
          rw [← H1.out]
          exact HE.out
theorem i64_and1 {a : Nat} (ha : a < 9223372036854775808) : bits .and .i64 (a : Int) 1 = ((a % 2 : Nat) : Int) := by
  have o1 : ∀ x : Nat, x < 9223372036854775808 → (BitVec.ofInt 64 (x : Int)).toNat = x := fun x hx => by
    rw [BitVec.ofInt_natCast, BitVec.toNat_ofNat]; exact Nat.mod_eq_of_lt (by omega)
  have e : bits .and .i64 (a : Int) ((1 : Nat) : Int) = ((a &&& 1 : Nat) : Int) := by
    show IntKind.i64.wrap ((BitVec.ofInt 64 (a : Int) &&& BitVec.ofInt 64 ((1 : Nat) : Int)).toNat : Int) = _
    rw [BitVec.toNat_and, o1 a ha, o1 1 (by omega), nat_mask1, IntKind.wrap_i64]
    omega
  rw [nat_mask1] at e
  exact e
theorem power_any (n : Int) (hn : -9223372036854775808 ≤ n ∧ n ≤ 9223372036854775807) (w : World) :
    Calls Try.prog 93 #[.int .i64 n] w fun e w' => e = .returned (.int .u32 ((Crc.down (8 * n.toNat) Crc.one : Nat) : Int)) ∧ w = w' := by
  obtain ⟨hn1, hn2⟩ := hn
  obtain ⟨N, hN⟩ : ∃ N, N = 8 * n.toNat := ⟨_, rfl⟩
  rw [← hN]
  have HN := Lib.hid hN
  clear hN
  go_enter Try.func93, Try.ntmps93
  go_wp2_with fail
  go_loopw [0, 3, 4] (fun v0 v3 v4 wr => w = wr ∧ ∃ (m : Int) (i s : Nat), v0 = .int .i64 m ∧ v3 = .int .u32 ((Crc.down i Crc.one : Nat) : Int) ∧ v4 = .int .u32 ((Crc.down s Crc.one : Nat) : Int) ∧ -9223372036854775808 ≤ m ∧ m ≤ 9223372036854775807 ∧ Hid (i + s * m.toNat = N)) (fun v0 _ _ _ => (intOf v0).toNat)
  case atStart => exact ⟨rfl, n, 0, 8, rfl, rfl, rfl, hn1, hn2, Lib.hid (by rw [HN.out]; omega)⟩
  case round =>
    obtain ⟨rfl, m, i, s, rfl, rfl, rfl, hm1, hm2, HE⟩ := hrel
    have hi : Crc.down i Crc.one < 4294967296 := Crc.down_lt Crc.one_lt
    have hs : Crc.down s Crc.one < 4294967296 := Crc.down_lt Crc.one_lt
    have HM1 := Lib.hid (Crc.mul_ones i s)
    have HM2 := Lib.hid (Crc.mul_ones s s)
    by_cases h0 : 0 < m
    · obtain ⟨k, rfl⟩ := Int.eq_ofNat_of_zero_le (by omega : 0 ≤ m)
      have e1 := i64_and1 (a := k) (by omega)
      by_cases h1 : k % 2 = 1
      · rw [h1] at e1
        have H1 := Lib.hid h1
        clear h1
        go_wp2_with fail
        refine (times_any _ _ hi hs _).mono ?_
        rintro e w' ⟨rfl, rfl⟩
        rw [HM1.out]
        go_wp2_with fail
        refine (times_any _ _ hs hs _).mono ?_
        rintro e w' ⟨rfl, rfl⟩
        rw [HM2.out]
        go_wp2_with fail
        go_roundw
        case rel => exact ⟨trivial, (k : Int) / 2, i + s, s + s, rfl, rfl, rfl, by omega, by omega, Lib.hid (by
            have h := HE.out
            have h1 := H1.out
            rw [show ((k : Int) / 2).toNat = k / 2 from by omega]
            rw [show (k : Int).toNat = 2 * (k / 2) + 1 from by omega] at h
            rw [← h, Nat.mul_add, Nat.add_mul, ← Nat.mul_assoc, Nat.mul_comm s 2]
            have : 2 * s * (k / 2) = s * (k / 2) + s * (k / 2) := by rw [Nat.mul_assoc, Nat.two_mul]
            omega)⟩
        case measure => simp [intOf]; omega
      · rw [show k % 2 = 0 from by omega] at e1
        have H1 := Lib.hid h1
        clear h1
        go_wp2_with fail
        refine (times_any _ _ hs hs _).mono ?_
        rintro e w' ⟨rfl, rfl⟩
        rw [HM2.out]
        go_wp2_with fail
        go_roundw
        case rel => exact ⟨trivial, (k : Int) / 2, i, s + s, rfl, rfl, rfl, by omega, by omega, Lib.hid (by
            have h := HE.out
            have h1 := H1.out
            rw [show ((k : Int) / 2).toNat = k / 2 from by omega]
            rw [show (k : Int).toNat = 2 * (k / 2) from by omega] at h
            rw [← h, Nat.add_mul, ← Nat.mul_assoc, Nat.mul_comm s 2]
            have : 2 * s * (k / 2) = s * (k / 2) + s * (k / 2) := by rw [Nat.mul_assoc, Nat.two_mul]
            omega)⟩
        case measure => simp [intOf]; omega
    · have hE := HE.out
      rw [show m.toNat = 0 from by omega, Nat.mul_zero, Nat.add_zero] at hE
      have H2 := Lib.hid hE
      clear hE
      go_wp2_with fail
      go_ret
      exact ⟨by rw [← H2.out]; rfl, rfl⟩
end Go.Proofs.Ytaebmhbggbpnoaa
