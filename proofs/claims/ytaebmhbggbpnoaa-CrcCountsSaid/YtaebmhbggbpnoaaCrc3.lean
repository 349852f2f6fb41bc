/- The walks of run, More, Sum, Zeros, Join, New, Done (crc). Conditions: each theorem's premises. -/
import Derived.Test.YtaebmhbggbpnoaaCrc2
namespace Go.Proofs.Ytaebmhbggbpnoaa
open Go.RowKit
theorem add_any (w : World) (a : Addr) (x y : Int) (hc : w.cell? a = some (.int .i64 x)) (hf : w.frozen? a = false) (hx : -9223372036854775808 ≤ x + y) (hy : x + y ≤ 9223372036854775807) :
    Calls Try.prog 129 #[.pointer (some a), .int .i64 y] w fun e w' => e = .returned (.int .i64 (x + y)) ∧ w' = w.setCell a (.int .i64 (x + y)) := by
  have hadd := run_call_add (P := Try.prog) Try.func138 (by kernel_rfl) (by kernel_rfl) (by kernel_rfl) .i64 (by kernel_rfl) (y := y) (s := x + y) hc hf (by
    have e : IntKind.i64.wrap (x + y) = x + y := by rw [IntKind.wrap_i64]; omega
    show Sem.run Try.prog (pure (Value.int .i64 (IntKind.i64.wrap (x + y)))) w = _
    rw [e]; rfl)
  go_enter Try.func129, Try.ntmps129
  go_wp2
  go_ret
  exact ⟨rfl, rfl⟩
theorem loadCnt_any (w : World) (a : Addr) (x : Int) (hc : w.cell? a = some (.int .i64 x)) :
    Calls Try.prog 100 #[.pointer (some a)] w fun e w' => e = .returned (.int .i64 x) ∧ w = w' := by
  have hl := run_call_load (P := Try.prog) Try.func130 (by kernel_rfl) (by kernel_rfl) (by kernel_rfl) .i64 (by kernel_rfl) hc
  go_enter Try.func100, Try.ntmps100
  go_wp2
  go_ret
  exact ⟨rfl, rfl⟩
theorem xor8 {r : Nat} (c : UInt8) : bits .xor .u8 ((r : Int) % 256) (c.toNat : Int) = ((r % 256 ^^^ c.toNat : Nat) : Int) := by
  have := u8_xor_nat (r % 256) c.toNat (by omega) c.toNat_lt
  simpa using this
set_option maxRecDepth 10000 in
set_option maxHeartbeats 1000000 in
theorem run_any (w : World) (g : Nat) (d : Int) (h : Tbl w g d) (r : Nat) (hr : r < 4294967296) (S : Nat → Prop) (A : Option Addr) (n c : Nat) (bs : List UInt8) (hx : Bs w S A n c bs) (hS : ∀ k, S k → k < w.heap.size → k ≠ g)
    (hd : 0 ≤ d ∧ d ≤ 1000000000000) (hn : n ≤ 1000000000) :
    Calls Try.prog 94 #[.pointer (some ⟨g, 0, none⟩), .int .u32 (r : Int), .slice A n c] w fun e w' => e = .returned (.int .u32 ((Crc.run r bs : Nat) : Int)) ∧ Tb w' g 1 0 Crc.row (d + (n : Int)) ∧ w.grownBy w' (some g) := by
  have H := Lib.hid h
  have HX := Lib.hid hx
  have HS := Lib.hid hS
  have HR := Lib.hid hr
  obtain ⟨hd1, hd2⟩ := hd
  clear h hx hS hr
  have hmf : ∀ (fn : Fn) (first cap : Array Value) (w : World), (Instr.makeFunc fn first cap).run Try.prog w = .ok (.func fn first cap) w := fun _ _ _ _ => rfl
  go_enter Try.func94, Try.ntmps94
  go_wp2_with fail
  refine (do_any _ g d H.out).mono ?_
  rintro e w1 ⟨rfl, hT, hg⟩
  have HT := Lib.hid hT
  have HG := Lib.hid hg
  clear hT hg H
  have HX1 := Lib.hid (HX.out.only HG.out HS.out)
  go_wp2_with fail
  go_loop [1, 19] (fun v1 v19 => ∃ k y : Nat, k ≤ n ∧ v19 = .int .i64 (k : Int) ∧ v1 = .int .u32 (y : Int) ∧ y < 4294967296 ∧ Hid (y = Crc.run r (bs.take k))) (fun _ v19 => n - (intOf v19).toNat)
  case atStart => exact ⟨0, r, by omega, rfl, rfl, HR.out, Lib.hid rfl⟩
  case round =>
    obtain ⟨k, y, hk, rfl, rfl, hy, HY⟩ := hrel
    by_cases hlt : k < n
    · obtain ⟨ad, b, rfl, Hb, hc⟩ := HX1.out.at_ hlt
      have hi : y % 256 ^^^ b.toNat < 256 := Nat.xor_lt_two_pow (n := 8) (by omega) b.toNat_lt
      have e1 := xor8 (r := y) b
      have c0 := HT.out.row _ hi
      have hrow : Crc.row (y % 256 ^^^ b.toNat) < 4294967296 := Crc.down_lt (by omega)
      have hi1 : (0 : Int) ≤ ((y % 256 ^^^ b.toNat : Nat) : Int) := by omega
      have hi2 : ((y % 256 ^^^ b.toNat : Nat) : Int) < 256 := by omega
      have e2 : bits .xor .u32 ((Crc.row (y % 256 ^^^ b.toNat) : Nat) : Int) ((y : Int) / 256) = ((Crc.row (y % 256 ^^^ b.toNat) ^^^ y / 256 : Nat) : Int) := crc_xor (b := y / 256) hrow (by omega)
      have hlt' : (k : Int) < (n : Int) := by omega
      have hb := u8_lt b
      go_wp2_with fail
      go_round
      case rel =>
        refine ⟨k + 1, Crc.row (y % 256 ^^^ b.toNat) ^^^ y / 256, by omega, by go_num, rfl, Nat.xor_lt_two_pow (n := 32) hrow (by omega), Lib.hid ?_⟩
        rw [Crc.step_row, HY.out, take_snoc Hb.out, Crc.run_snoc]
      case measure => simp [intOf]; omega
    · obtain rfl : k = n := by omega
      have hY := HY.out
      rw [List.take_of_length_le (by rw [HX.out.len]; omega)] at hY
      have HY2 := Lib.hid hY
      clear hY
      go_wp2_with fail
      refine (add_any _ _ d k HT.out.cnt (HT.out.free _) (by omega) (by omega)).mono ?_
      rintro e w2 ⟨rfl, rfl⟩
      have HT2 := Lib.hid (HT.out.setCnt (d + k))
      go_wp2_with fail
      go_ret
      exact ⟨by rw [← HY2.out]; rfl, HT2.out, only_setCell HG.out (.inl rfl) _⟩
theorem neg_u32 (r : Nat) (hr : r < 4294967296) : bits .xor .u32 IntKind.u32.max (r : Int) = ((Crc.neg r : Nat) : Int) := by
  have h := u32_xor_nat 4294967295 r (by omega) hr
  have e : IntKind.u32.max = ((4294967295 : Nat) : Int) := by decide
  rw [e, h]
  unfold Crc.neg
  rw [Nat.xor_comm]
/-- More. -/
theorem more_any (w : World) (g : Nat) (d : Int) (h : Tbl w g d) (r : Nat) (hr : r < 4294967296) (S : Nat → Prop) (A : Option Addr) (n c : Nat) (bs : List UInt8) (hx : Bs w S A n c bs) (hS : ∀ k, S k → k < w.heap.size → k ≠ g)
    (hd : 0 ≤ d ∧ d ≤ 1000000000000) (hn : n ≤ 1000000000) :
    Calls Try.prog 38 #[.pointer (some ⟨g, 0, none⟩), .int .u32 (r : Int), .slice A n c] w fun e w' => e = .returned (.int .u32 ((Crc.more r bs : Nat) : Int)) ∧ Tb w' g 1 0 Crc.row (d + (n : Int)) ∧ w.grownBy w' (some g) := by
  have HC := Lib.hid (run_any w g d h (Crc.neg r) (Crc.neg_lt hr) S A n c bs hx hS hd hn)
  have HL : Crc.run (Crc.neg r) bs < 4294967296 := Crc.run_lt (Crc.neg_lt hr)
  clear h hx hS hd
  have n0 : IntKind.u32.signed = false := rfl
  have n1 := neg_u32 r hr
  have n2 := neg_u32 _ HL
  have e3 : Crc.neg (Crc.run (Crc.neg r) bs) = Crc.more r bs := rfl
  rw [e3] at n2
  clear e3
  go_enter Try.func38, Try.ntmps38
  go_wp2_with fail
  refine (HC.out).mono ?_
  rintro e w' ⟨rfl, hT, hg⟩
  have HF := Lib.hid (And.intro hT hg)
  clear hT hg
  go_wp2_with fail
  go_ret
  exact ⟨rfl, HF.out⟩
/-- Sum. -/
theorem sum_any (w : World) (g : Nat) (d : Int) (h : Tbl w g d) (S : Nat → Prop) (A : Option Addr) (n c : Nat) (bs : List UInt8) (hx : Bs w S A n c bs) (hS : ∀ k, S k → k < w.heap.size → k ≠ g)
    (hd : 0 ≤ d ∧ d ≤ 1000000000000) (hn : n ≤ 1000000000) :
    Calls Try.prog 34 #[.pointer (some ⟨g, 0, none⟩), .slice A n c] w fun e w' => e = .returned (.int .u32 ((Crc.sum bs : Nat) : Int)) ∧ Tb w' g 1 0 Crc.row (d + (n : Int)) ∧ w.grownBy w' (some g) := by
  have HC := Lib.hid (more_any w g d h 0 (by omega) S A n c bs hx hS hd hn)
  clear h hx hS hd
  go_enter Try.func34, Try.ntmps34
  go_wp2_with fail
  refine (HC.out).mono ?_
  rintro e w' ⟨rfl, hT, hg⟩
  have HF := Lib.hid (And.intro hT hg)
  clear hT hg
  go_wp2_with fail
  go_ret
  exact ⟨rfl, HF.out⟩
/-- Zeros. -/
theorem zeros_any (w : World) (g : Nat) (r : Nat) (hr : r < 4294967296) (n : Int) (hn : -9223372036854775808 ≤ n ∧ n ≤ 9223372036854775807) :
    Calls Try.prog 36 #[.pointer (some ⟨g, 0, none⟩), .int .u32 (r : Int), .int .i64 n] w fun e w' => e = .returned (.int .u32 ((Crc.neg (Crc.down (8 * n.toNat) (Crc.neg r)) : Nat) : Int)) ∧ w = w' := by
  have hnr := Crc.neg_lt hr
  have hp : Crc.down (8 * n.toNat) Crc.one < 4294967296 := Crc.down_lt Crc.one_lt
  have n0 : IntKind.u32.signed = false := rfl
  have n1 := neg_u32 r hr
  have n2 := neg_u32 _ (Crc.down_lt hnr : Crc.down (8 * n.toNat) (Crc.neg r) < 4294967296)
  have HM := Lib.hid (Crc.mul_power (8 * n.toNat) (Crc.neg r) hnr)
  go_enter Try.func36, Try.ntmps36
  go_wp2_with fail
  refine (power_any n hn _).mono ?_
  rintro e w' ⟨rfl, rfl⟩
  go_wp2_with fail
  refine (times_any _ _ hnr hp _).mono ?_
  rintro e w' ⟨rfl, rfl⟩
  rw [HM.out]
  go_wp2_with fail
  go_ret
  exact ⟨rfl, rfl⟩
/-- Join. -/
theorem join_any (w : World) (g : Nat) (a b : Nat) (ha : a < 4294967296) (hb : b < 4294967296) (n : Int) (h0 : 0 ≤ n) (hn : n ≤ 9223372036854775807) :
    Calls Try.prog 33 #[.pointer (some ⟨g, 0, none⟩), .int .u32 (a : Int), .int .u32 (b : Int), .int .i64 n] w fun e w' => e = .returned (.int .u32 ((Crc.down (8 * n.toNat) a ^^^ b : Nat) : Int)) ∧ w = w' := by
  have hp : Crc.down (8 * n.toNat) Crc.one < 4294967296 := Crc.down_lt Crc.one_lt
  have HM := Lib.hid (Crc.mul_power (8 * n.toNat) a ha)
  have e1 := crc_xor (a := Crc.down (8 * n.toNat) a) (b := b) (Crc.down_lt ha) hb
  go_enter Try.func33, Try.ntmps33
  go_wp2_with fail
  refine (power_any n ⟨by omega, hn⟩ _).mono ?_
  rintro e w' ⟨rfl, rfl⟩
  go_wp2_with fail
  refine (times_any _ _ ha hp _).mono ?_
  rintro e w' ⟨rfl, rfl⟩
  rw [HM.out]
  go_wp2_with fail
  go_ret
  exact ⟨rfl, rfl⟩
theorem join_neg (w : World) (g : Nat) (a b n : Int) (h0 : n < 0) :
    Calls Try.prog 33 #[.pointer (some ⟨g, 0, none⟩), .int .u32 a, .int .u32 b, .int .i64 n] w fun e w' => e = .returned (.int .u32 a) ∧ w = w' := by
  go_enter Try.func33, Try.ntmps33
  go_wp2_with fail
  go_ret
  exact ⟨rfl, rfl⟩
/-- Done. -/
theorem done_any (w : World) (g o : Nat) (m d : Int) (f : Nat → Nat) (h : Tb w g o m f d) :
    Calls Try.prog 49 #[.pointer (some ⟨g, 0, none⟩)] w fun e w' => e = .returned (.int .i64 d) ∧ w = w' := by
  have H := Lib.hid h
  clear h
  go_enter Try.func49, Try.ntmps49
  go_wp2_with fail
  refine (loadCnt_any _ _ d H.out.cnt).mono ?_
  rintro e w' ⟨rfl, rfl⟩
  go_wp2_with fail
  go_ret
  exact ⟨rfl, rfl⟩
end Go.Proofs.Ytaebmhbggbpnoaa
