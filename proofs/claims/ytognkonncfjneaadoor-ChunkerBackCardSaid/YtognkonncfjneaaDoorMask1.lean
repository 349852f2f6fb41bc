/- The walks of OnesCount, TrailingZeros, Mask and of the reference's Mask. Conditions: each theorem's premises. -/
import Derived.Test.YtognkonncfjneaaDoorBase
import Derived.Test.YtognkonncfjneaaDoorMaskSpec
import Derived.Lib.TrailingZeros
import Derived.Laws.Bits128
namespace Go.Proofs.YtognkonncfjneaaDoor
open Go.RowKit
theorem u64_id {n : Nat} (h : n < 18446744073709551616) : IntKind.u64.wrap (n : Int) = (n : Int) := by rw [IntKind.wrap_u64]; omega
set_option maxHeartbeats 1000000 in
theorem ones64_any (w : World) (x : Nat) (hx : x ≤ 1048576) :
    Calls Tryd.prog 57 #[.int .u64 (x : Int)] w fun e w' => e = .returned (.int .i64 ((Gear.swar x : Nat) : Int)) ∧ w = w' := by
  obtain ⟨f1, f2, f3⟩ := Gear.swar_few (x := x) (by omega)
  obtain ⟨y1, h1⟩ : ∃ y, y = Gear.s1 x := ⟨_, rfl⟩
  obtain ⟨y2, h2⟩ : ∃ y, y = Gear.s2 y1 := ⟨_, rfl⟩
  obtain ⟨y3, h3⟩ : ∃ y, y = Gear.s3 y2 := ⟨_, rfl⟩
  obtain ⟨y4, h4⟩ : ∃ y, y = Gear.s4 y3 := ⟨_, rfl⟩
  obtain ⟨y5, h5⟩ : ∃ y, y = Gear.s5 y4 := ⟨_, rfl⟩
  obtain ⟨y6, h6⟩ : ∃ y, y = Gear.s6 y5 := ⟨_, rfl⟩
  have hs : Gear.swar x = y6 &&& 127 := by rw [h6, h5, h4, h3, h2, h1]; rfl
  rw [← h1] at f1 f2 f3
  rw [← h2] at f2 f3
  rw [← h3] at f3
  have n4 : y4 ≤ 2 * y3 := by rw [h4]; unfold Gear.s4; omega
  have n5 : y5 ≤ 2 * y4 := by rw [h5]; unfold Gear.s5; omega
  have n6 : y6 ≤ 2 * y5 := by rw [h6]; unfold Gear.s6; omega
  have e1 : IntKind.u64.wrap (bits .and .u64 ((x : Int) / 2) 6148914691236517205 + bits .and .u64 (x : Int) 6148914691236517205) = (y1 : Int) := by
    have q1 := u64_and_nat (x / 2) 6148914691236517205 (by omega) (by omega)
    have q2 := u64_and_nat x 6148914691236517205 (by omega) (by omega)
    have z : ((x / 2 : Nat) : Int) = (x : Int) / 2 := by omega
    rw [z] at q1
    rw [show (6148914691236517205 : Int) = ((6148914691236517205 : Nat) : Int) from rfl, q1, q2, ← Int.natCast_add, show (x / 2 &&& 6148914691236517205) + (x &&& 6148914691236517205) = y1 from h1.symm, u64_id (by omega)]
  have e2 : IntKind.u64.wrap (bits .and .u64 ((y1 : Int) / 4) 3689348814741910323 + bits .and .u64 (y1 : Int) 3689348814741910323) = (y2 : Int) := by
    have q1 := u64_and_nat (y1 / 4) 3689348814741910323 (by omega) (by omega)
    have q2 := u64_and_nat y1 3689348814741910323 (by omega) (by omega)
    have z : ((y1 / 4 : Nat) : Int) = (y1 : Int) / 4 := by omega
    rw [z] at q1
    rw [show (3689348814741910323 : Int) = ((3689348814741910323 : Nat) : Int) from rfl, q1, q2, ← Int.natCast_add, show (y1 / 4 &&& 3689348814741910323) + (y1 &&& 3689348814741910323) = y2 from h2.symm, u64_id (by omega)]
  have e3 : bits .and .u64 (IntKind.u64.wrap ((y2 : Int) / 16 + (y2 : Int))) 1085102592571150095 = (y3 : Int) := by
    have z : (y2 : Int) / 16 + (y2 : Int) = ((y2 / 16 + y2 : Nat) : Int) := by omega
    rw [z, u64_id (by omega), show (1085102592571150095 : Int) = ((1085102592571150095 : Nat) : Int) from rfl, u64_and_nat _ _ (by omega) (by omega), h3]
    rfl
  have e4 : IntKind.u64.wrap ((y3 : Int) + (y3 : Int) / 256) = (y4 : Int) := by
    have z : (y3 : Int) + (y3 : Int) / 256 = (y4 : Int) := by rw [h4]; unfold Gear.s4; omega
    rw [z, u64_id (by omega)]
  have e5 : IntKind.u64.wrap ((y4 : Int) + (y4 : Int) / 65536) = (y5 : Int) := by
    have z : (y4 : Int) + (y4 : Int) / 65536 = (y5 : Int) := by rw [h5]; unfold Gear.s5; omega
    rw [z, u64_id (by omega)]
  have e6 : IntKind.u64.wrap ((y5 : Int) + (y5 : Int) / 4294967296) = (y6 : Int) := by
    have z : (y5 : Int) + (y5 : Int) / 4294967296 = (y6 : Int) := by rw [h6]; unfold Gear.s6; omega
    rw [z, u64_id (by omega)]
  have e7 : bits .and .i64 (y6 : Int) 127 = ((Gear.swar x : Nat) : Int) := by
    rw [hs, i64_and127, nat_mask7]
    omega
  have e8 : wrap64 (y6 : Int) = (y6 : Int) := by unfold wrap64; omega
  clear hs f1 f2 f3 n4 n5 n6 h1 h2 h3 h4 h5 h6
  go_enter Tryd.func57, Tryd.ntmps57
  go_wp2_with fail
  go_ret
  exact ⟨rfl, rfl⟩
theorem ones_any (w : World) (x : Nat) (hx : x ≤ 1048576) :
    Calls Tryd.prog 43 #[.int .u64 (x : Int)] w fun e w' => e = .returned (.int .i64 ((Gear.swar x : Nat) : Int)) ∧ w = w' := by
  go_enter Tryd.func43, Tryd.ntmps43
  go_wp2_with fail
  refine (ones64_any _ x hx).mono ?_
  rintro e w' ⟨rfl, rfl⟩
  go_wp2_with fail
  go_ret
  exact ⟨rfl, rfl⟩
/-- The library's table in its variable. -/
def Tab64 (w : World) : Prop := ∀ j, j < 64 → w.cell? ⟨1, j, none⟩ = some (.int .u8 ((Lib.deBruijn64tab.getD j 0 : Nat) : Int))
theorem low_bit : ∀ k, k < 21 → 2 ^ k &&& (18446744073709551616 - 2 ^ k) = 2 ^ k := by decide +kernel
theorem pow_le : ∀ k, k < 21 → 1 ≤ 2 ^ k ∧ 2 ^ k ≤ 1048576 := by decide +kernel
theorem tz_cast (x : Nat) : (x : Int) * 285870213051353865 % 18446744073709551616 / 288230376151711744 = ((x * 285870213051353865 % 18446744073709551616 / 288230376151711744 : Nat) : Int) := by omega
theorem tz64_any (w : World) (k : Nat) (hk : k < 21) (hT : Tab64 w) :
    Calls Tryd.prog 59 #[.int .u64 ((2 ^ k : Nat) : Int)] w fun e w' => e = .returned (.int .i64 (k : Int)) ∧ w = w' := by
  obtain ⟨hi, htab⟩ := Lib.deBruijn64_at k (by omega)
  have hcell := hT _ hi
  rw [htab] at hcell
  obtain ⟨p1, p2⟩ := pow_le k hk
  have hlow := low_bit k hk
  obtain ⟨x, hx⟩ : ∃ x, x = 2 ^ k := ⟨_, rfl⟩
  obtain ⟨ix, hix⟩ : ∃ ix, ix = 2 ^ k * 285870213051353865 % 18446744073709551616 / 288230376151711744 := ⟨_, rfl⟩
  rw [← hix] at hi hcell
  rw [← hx] at hix p1 p2 hlow ⊢
  have key : IntKind.u64.wrap (bits BinOp.and IntKind.u64 (x : Int) (IntKind.u64.wrap (-(x : Int))) * 285870213051353865) / 288230376151711744 = (ix : Int) := by
    have e1 : IntKind.u64.wrap (-(x : Int)) = ((18446744073709551616 - x : Nat) : Int) := by rw [IntKind.wrap_u64]; omega
    rw [e1, u64_and_nat x _ (by omega) (by omega), hlow, IntKind.wrap_u64, hix, tz_cast]
  have hx0 : ((x : Int) == 0) = false := by simp; omega
  clear htab hlow hix hx hT
  go_enter Tryd.func59, Tryd.ntmps59
  go_wp2_with (simp only [key])
  go_ret
  exact ⟨rfl, rfl⟩
theorem tz_any (w : World) (k : Nat) (hk : k < 21) (hT : Tab64 w) :
    Calls Tryd.prog 44 #[.int .u64 ((2 ^ k : Nat) : Int)] w fun e w' => e = .returned (.int .i64 (k : Int)) ∧ w = w' := by
  have HC := Lib.hid (tz64_any w k hk hT)
  clear hT
  obtain ⟨x, hx⟩ : ∃ x, x = 2 ^ k := ⟨_, rfl⟩
  rw [← hx] at HC ⊢
  clear hx
  go_enter Tryd.func44, Tryd.ntmps44
  go_wp2_with fail
  refine (HC.out).mono ?_
  rintro e w' ⟨rfl, rfl⟩
  go_wp2_with fail
  go_ret
  exact ⟨rfl, rfl⟩
end Go.Proofs.YtognkonncfjneaaDoor
