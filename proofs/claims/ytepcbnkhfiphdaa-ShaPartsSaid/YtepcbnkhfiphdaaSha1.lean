/- Words of 32 bits: what the program's operations on them give; RotateLeft32, turn. Conditions: each theorem's premises. -/
import Derived.Test.YtepcbnkhfiphdaaBase
import Derived.Test.YtepcbnkhfiphdaaShaSpec
import Derived.Laws.BitsAllLaws
namespace Go.Proofs.Ytepcbnkhfiphdaa
open Go.RowKit
theorem of32 (x : Nat) : (BitVec.ofInt 32 (x : Int)).toNat = x % 4294967296 := by rw [BitVec.ofInt_natCast, BitVec.toNat_ofNat]
theorem wrap32 (x : Nat) : IntKind.u32.wrap (x : Int) = ((x % 4294967296 : Nat) : Int) := by rw [IntKind.wrap_u32]; omega
theorem r_xor (a b : Nat) : bits .xor .u32 (a : Int) (b : Int) = ((Sha.xo a b : Nat) : Int) := by
  show IntKind.u32.wrap ((BitVec.ofInt 32 (a : Int) ^^^ BitVec.ofInt 32 (b : Int)).toNat : Int) = _
  rw [BitVec.toNat_xor, of32, of32, wrap32]
  unfold Sha.xo
  congr 1
  have := Nat.xor_mod_two_pow (a := a) (b := b) (n := 32)
  simp only [Nat.reducePow] at this
  rw [← this, Nat.mod_mod]
theorem r_and (a b : Nat) : bits .and .u32 (a : Int) (b : Int) = ((Sha.an a b : Nat) : Int) := by
  show IntKind.u32.wrap ((BitVec.ofInt 32 (a : Int) &&& BitVec.ofInt 32 (b : Int)).toNat : Int) = _
  rw [BitVec.toNat_and, of32, of32, wrap32]
  unfold Sha.an
  congr 1
  have := Nat.and_mod_two_pow (a := a) (b := b) (n := 32)
  simp only [Nat.reducePow] at this
  rw [← this, Nat.mod_mod]
theorem r_or (a b : Nat) : bits .or .u32 (a : Int) (b : Int) = ((Sha.orr a b : Nat) : Int) := by
  show IntKind.u32.wrap ((BitVec.ofInt 32 (a : Int) ||| BitVec.ofInt 32 (b : Int)).toNat : Int) = _
  rw [BitVec.toNat_or, of32, of32, wrap32]
  unfold Sha.orr
  congr 1
  have := Nat.or_mod_two_pow (a := a) (b := b) (n := 32)
  simp only [Nat.reducePow] at this
  rw [← this, Nat.mod_mod]
theorem r_add (a b : Nat) : ((a : Int) + (b : Int)) % 4294967296 = ((Sha.add a b : Nat) : Int) := by unfold Sha.add; omega
theorem r_addw (a b : Nat) : IntKind.u32.wrap ((a : Int) + (b : Int)) = ((Sha.add a b : Nat) : Int) := by rw [IntKind.wrap_u32]; exact r_add a b
theorem ror_or2 (x : Nat) : bits .or .u32 ((x : Int) * 1073741824 % 4294967296) ((x : Int) / 4) = ((Sha.ror 2 x : Nat) : Int) := r_or (x * 1073741824 % 4294967296) (x / 4)
theorem rot2 (x : Nat) (w : World) : Calls Try.prog 41 #[.int .u32 (x : Int), .int .i64 (-2)] w fun e w' => e = .returned (.int .u32 ((Sha.ror 2 x : Nat) : Int)) ∧ w = w' := by
  have ro := ror_or2 x
  have e7 : bits .and .u64 (IntKind.u64.wrap (-2)) 31 = 30 := by decide +kernel
  go_enter Try.func41, Try.ntmps41
  go_wp2_with fail
  go_ret
  exact ⟨rfl, rfl⟩
theorem turn2 (x : Nat) (w : World) : Calls Try.prog 37 #[.int .u32 (x : Int), .int .u64 2] w fun e w' => e = .returned (.int .u32 ((Sha.ror 2 x : Nat) : Int)) ∧ w = w' := by
  have ro : bits .or .u32 ((x : Int) / 4) ((x : Int) * 1073741824 % 4294967296) = ((Sha.ror 2 x : Nat) : Int) := (r_or (x / 4) (x * 1073741824 % 4294967296)).trans (congrArg _ (Sha.orr_comm _ _))
  go_enter Try.func37, Try.ntmps37
  go_wp2_with fail
  go_ret
  exact ⟨rfl, rfl⟩
theorem ror_or6 (x : Nat) : bits .or .u32 ((x : Int) * 67108864 % 4294967296) ((x : Int) / 64) = ((Sha.ror 6 x : Nat) : Int) := r_or (x * 67108864 % 4294967296) (x / 64)
theorem rot6 (x : Nat) (w : World) : Calls Try.prog 41 #[.int .u32 (x : Int), .int .i64 (-6)] w fun e w' => e = .returned (.int .u32 ((Sha.ror 6 x : Nat) : Int)) ∧ w = w' := by
  have ro := ror_or6 x
  have e7 : bits .and .u64 (IntKind.u64.wrap (-6)) 31 = 26 := by decide +kernel
  go_enter Try.func41, Try.ntmps41
  go_wp2_with fail
  go_ret
  exact ⟨rfl, rfl⟩
theorem turn6 (x : Nat) (w : World) : Calls Try.prog 37 #[.int .u32 (x : Int), .int .u64 6] w fun e w' => e = .returned (.int .u32 ((Sha.ror 6 x : Nat) : Int)) ∧ w = w' := by
  have ro : bits .or .u32 ((x : Int) / 64) ((x : Int) * 67108864 % 4294967296) = ((Sha.ror 6 x : Nat) : Int) := (r_or (x / 64) (x * 67108864 % 4294967296)).trans (congrArg _ (Sha.orr_comm _ _))
  go_enter Try.func37, Try.ntmps37
  go_wp2_with fail
  go_ret
  exact ⟨rfl, rfl⟩
theorem ror_or7 (x : Nat) : bits .or .u32 ((x : Int) * 33554432 % 4294967296) ((x : Int) / 128) = ((Sha.ror 7 x : Nat) : Int) := r_or (x * 33554432 % 4294967296) (x / 128)
theorem rot7 (x : Nat) (w : World) : Calls Try.prog 41 #[.int .u32 (x : Int), .int .i64 (-7)] w fun e w' => e = .returned (.int .u32 ((Sha.ror 7 x : Nat) : Int)) ∧ w = w' := by
  have ro := ror_or7 x
  have e7 : bits .and .u64 (IntKind.u64.wrap (-7)) 31 = 25 := by decide +kernel
  go_enter Try.func41, Try.ntmps41
  go_wp2_with fail
  go_ret
  exact ⟨rfl, rfl⟩
theorem turn7 (x : Nat) (w : World) : Calls Try.prog 37 #[.int .u32 (x : Int), .int .u64 7] w fun e w' => e = .returned (.int .u32 ((Sha.ror 7 x : Nat) : Int)) ∧ w = w' := by
  have ro : bits .or .u32 ((x : Int) / 128) ((x : Int) * 33554432 % 4294967296) = ((Sha.ror 7 x : Nat) : Int) := (r_or (x / 128) (x * 33554432 % 4294967296)).trans (congrArg _ (Sha.orr_comm _ _))
  go_enter Try.func37, Try.ntmps37
  go_wp2_with fail
  go_ret
  exact ⟨rfl, rfl⟩
theorem ror_or11 (x : Nat) : bits .or .u32 ((x : Int) * 2097152 % 4294967296) ((x : Int) / 2048) = ((Sha.ror 11 x : Nat) : Int) := r_or (x * 2097152 % 4294967296) (x / 2048)
theorem rot11 (x : Nat) (w : World) : Calls Try.prog 41 #[.int .u32 (x : Int), .int .i64 (-11)] w fun e w' => e = .returned (.int .u32 ((Sha.ror 11 x : Nat) : Int)) ∧ w = w' := by
  have ro := ror_or11 x
  have e7 : bits .and .u64 (IntKind.u64.wrap (-11)) 31 = 21 := by decide +kernel
  go_enter Try.func41, Try.ntmps41
  go_wp2_with fail
  go_ret
  exact ⟨rfl, rfl⟩
theorem turn11 (x : Nat) (w : World) : Calls Try.prog 37 #[.int .u32 (x : Int), .int .u64 11] w fun e w' => e = .returned (.int .u32 ((Sha.ror 11 x : Nat) : Int)) ∧ w = w' := by
  have ro : bits .or .u32 ((x : Int) / 2048) ((x : Int) * 2097152 % 4294967296) = ((Sha.ror 11 x : Nat) : Int) := (r_or (x / 2048) (x * 2097152 % 4294967296)).trans (congrArg _ (Sha.orr_comm _ _))
  go_enter Try.func37, Try.ntmps37
  go_wp2_with fail
  go_ret
  exact ⟨rfl, rfl⟩
theorem ror_or13 (x : Nat) : bits .or .u32 ((x : Int) * 524288 % 4294967296) ((x : Int) / 8192) = ((Sha.ror 13 x : Nat) : Int) := r_or (x * 524288 % 4294967296) (x / 8192)
theorem rot13 (x : Nat) (w : World) : Calls Try.prog 41 #[.int .u32 (x : Int), .int .i64 (-13)] w fun e w' => e = .returned (.int .u32 ((Sha.ror 13 x : Nat) : Int)) ∧ w = w' := by
  have ro := ror_or13 x
  have e7 : bits .and .u64 (IntKind.u64.wrap (-13)) 31 = 19 := by decide +kernel
  go_enter Try.func41, Try.ntmps41
  go_wp2_with fail
  go_ret
  exact ⟨rfl, rfl⟩
theorem turn13 (x : Nat) (w : World) : Calls Try.prog 37 #[.int .u32 (x : Int), .int .u64 13] w fun e w' => e = .returned (.int .u32 ((Sha.ror 13 x : Nat) : Int)) ∧ w = w' := by
  have ro : bits .or .u32 ((x : Int) / 8192) ((x : Int) * 524288 % 4294967296) = ((Sha.ror 13 x : Nat) : Int) := (r_or (x / 8192) (x * 524288 % 4294967296)).trans (congrArg _ (Sha.orr_comm _ _))
  go_enter Try.func37, Try.ntmps37
  go_wp2_with fail
  go_ret
  exact ⟨rfl, rfl⟩
theorem ror_or17 (x : Nat) : bits .or .u32 ((x : Int) * 32768 % 4294967296) ((x : Int) / 131072) = ((Sha.ror 17 x : Nat) : Int) := r_or (x * 32768 % 4294967296) (x / 131072)
theorem rot17 (x : Nat) (w : World) : Calls Try.prog 41 #[.int .u32 (x : Int), .int .i64 (-17)] w fun e w' => e = .returned (.int .u32 ((Sha.ror 17 x : Nat) : Int)) ∧ w = w' := by
  have ro := ror_or17 x
  have e7 : bits .and .u64 (IntKind.u64.wrap (-17)) 31 = 15 := by decide +kernel
  go_enter Try.func41, Try.ntmps41
  go_wp2_with fail
  go_ret
  exact ⟨rfl, rfl⟩
theorem turn17 (x : Nat) (w : World) : Calls Try.prog 37 #[.int .u32 (x : Int), .int .u64 17] w fun e w' => e = .returned (.int .u32 ((Sha.ror 17 x : Nat) : Int)) ∧ w = w' := by
  have ro : bits .or .u32 ((x : Int) / 131072) ((x : Int) * 32768 % 4294967296) = ((Sha.ror 17 x : Nat) : Int) := (r_or (x / 131072) (x * 32768 % 4294967296)).trans (congrArg _ (Sha.orr_comm _ _))
  go_enter Try.func37, Try.ntmps37
  go_wp2_with fail
  go_ret
  exact ⟨rfl, rfl⟩
theorem ror_or18 (x : Nat) : bits .or .u32 ((x : Int) * 16384 % 4294967296) ((x : Int) / 262144) = ((Sha.ror 18 x : Nat) : Int) := r_or (x * 16384 % 4294967296) (x / 262144)
theorem rot18 (x : Nat) (w : World) : Calls Try.prog 41 #[.int .u32 (x : Int), .int .i64 (-18)] w fun e w' => e = .returned (.int .u32 ((Sha.ror 18 x : Nat) : Int)) ∧ w = w' := by
  have ro := ror_or18 x
  have e7 : bits .and .u64 (IntKind.u64.wrap (-18)) 31 = 14 := by decide +kernel
  go_enter Try.func41, Try.ntmps41
  go_wp2_with fail
  go_ret
  exact ⟨rfl, rfl⟩
theorem turn18 (x : Nat) (w : World) : Calls Try.prog 37 #[.int .u32 (x : Int), .int .u64 18] w fun e w' => e = .returned (.int .u32 ((Sha.ror 18 x : Nat) : Int)) ∧ w = w' := by
  have ro : bits .or .u32 ((x : Int) / 262144) ((x : Int) * 16384 % 4294967296) = ((Sha.ror 18 x : Nat) : Int) := (r_or (x / 262144) (x * 16384 % 4294967296)).trans (congrArg _ (Sha.orr_comm _ _))
  go_enter Try.func37, Try.ntmps37
  go_wp2_with fail
  go_ret
  exact ⟨rfl, rfl⟩
theorem ror_or19 (x : Nat) : bits .or .u32 ((x : Int) * 8192 % 4294967296) ((x : Int) / 524288) = ((Sha.ror 19 x : Nat) : Int) := r_or (x * 8192 % 4294967296) (x / 524288)
theorem rot19 (x : Nat) (w : World) : Calls Try.prog 41 #[.int .u32 (x : Int), .int .i64 (-19)] w fun e w' => e = .returned (.int .u32 ((Sha.ror 19 x : Nat) : Int)) ∧ w = w' := by
  have ro := ror_or19 x
  have e7 : bits .and .u64 (IntKind.u64.wrap (-19)) 31 = 13 := by decide +kernel
  go_enter Try.func41, Try.ntmps41
  go_wp2_with fail
  go_ret
  exact ⟨rfl, rfl⟩
theorem turn19 (x : Nat) (w : World) : Calls Try.prog 37 #[.int .u32 (x : Int), .int .u64 19] w fun e w' => e = .returned (.int .u32 ((Sha.ror 19 x : Nat) : Int)) ∧ w = w' := by
  have ro : bits .or .u32 ((x : Int) / 524288) ((x : Int) * 8192 % 4294967296) = ((Sha.ror 19 x : Nat) : Int) := (r_or (x / 524288) (x * 8192 % 4294967296)).trans (congrArg _ (Sha.orr_comm _ _))
  go_enter Try.func37, Try.ntmps37
  go_wp2_with fail
  go_ret
  exact ⟨rfl, rfl⟩
theorem ror_or22 (x : Nat) : bits .or .u32 ((x : Int) * 1024 % 4294967296) ((x : Int) / 4194304) = ((Sha.ror 22 x : Nat) : Int) := r_or (x * 1024 % 4294967296) (x / 4194304)
theorem rot22 (x : Nat) (w : World) : Calls Try.prog 41 #[.int .u32 (x : Int), .int .i64 (-22)] w fun e w' => e = .returned (.int .u32 ((Sha.ror 22 x : Nat) : Int)) ∧ w = w' := by
  have ro := ror_or22 x
  have e7 : bits .and .u64 (IntKind.u64.wrap (-22)) 31 = 10 := by decide +kernel
  go_enter Try.func41, Try.ntmps41
  go_wp2_with fail
  go_ret
  exact ⟨rfl, rfl⟩
theorem turn22 (x : Nat) (w : World) : Calls Try.prog 37 #[.int .u32 (x : Int), .int .u64 22] w fun e w' => e = .returned (.int .u32 ((Sha.ror 22 x : Nat) : Int)) ∧ w = w' := by
  have ro : bits .or .u32 ((x : Int) / 4194304) ((x : Int) * 1024 % 4294967296) = ((Sha.ror 22 x : Nat) : Int) := (r_or (x / 4194304) (x * 1024 % 4294967296)).trans (congrArg _ (Sha.orr_comm _ _))
  go_enter Try.func37, Try.ntmps37
  go_wp2_with fail
  go_ret
  exact ⟨rfl, rfl⟩
theorem ror_or25 (x : Nat) : bits .or .u32 ((x : Int) * 128 % 4294967296) ((x : Int) / 33554432) = ((Sha.ror 25 x : Nat) : Int) := r_or (x * 128 % 4294967296) (x / 33554432)
theorem rot25 (x : Nat) (w : World) : Calls Try.prog 41 #[.int .u32 (x : Int), .int .i64 (-25)] w fun e w' => e = .returned (.int .u32 ((Sha.ror 25 x : Nat) : Int)) ∧ w = w' := by
  have ro := ror_or25 x
  have e7 : bits .and .u64 (IntKind.u64.wrap (-25)) 31 = 7 := by decide +kernel
  go_enter Try.func41, Try.ntmps41
  go_wp2_with fail
  go_ret
  exact ⟨rfl, rfl⟩
theorem turn25 (x : Nat) (w : World) : Calls Try.prog 37 #[.int .u32 (x : Int), .int .u64 25] w fun e w' => e = .returned (.int .u32 ((Sha.ror 25 x : Nat) : Int)) ∧ w = w' := by
  have ro : bits .or .u32 ((x : Int) / 33554432) ((x : Int) * 128 % 4294967296) = ((Sha.ror 25 x : Nat) : Int) := (r_or (x / 33554432) (x * 128 % 4294967296)).trans (congrArg _ (Sha.orr_comm _ _))
  go_enter Try.func37, Try.ntmps37
  go_wp2_with fail
  go_ret
  exact ⟨rfl, rfl⟩
theorem r_sh3 (x : Nat) : (x : Int) / 8 = ((Sha.sh 3 x : Nat) : Int) := rfl
theorem r_sh10 (x : Nat) : (x : Int) / 1024 = ((Sha.sh 10 x : Nat) : Int) := rfl
theorem r_sl8 (x : Nat) : (x : Int) * 256 % 4294967296 = ((Sha.sl 8 x : Nat) : Int) := rfl
end Go.Proofs.Ytepcbnkhfiphdaa
