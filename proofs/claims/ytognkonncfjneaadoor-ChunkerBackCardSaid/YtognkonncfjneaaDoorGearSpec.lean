/- Rows and hashes of layer 4 (gear) as numbers. Plain definitions and theorems, no program; conditions: each theorem's premises. -/
namespace Go.Proofs.YtognkonncfjneaaDoor
namespace Gear
def M : Nat := 18446744073709551616
def stepN : Nat := 11400714819323198485
def firstN : Nat := 13787848793156543929
def secondN : Nat := 10723151780598845931
theorem M_pos : 0 < M := by decide
/-- What a row makes of its number. -/
def mixA (x : Nat) : Nat := (x ^^^ x / 1073741824) * firstN % M
def mixB (x : Nat) : Nat := (x ^^^ x / 134217728) * secondN % M
def mixC (x : Nat) : Nat := x ^^^ x / 2147483648
def mix (x : Nat) : Nat := mixC (mixB (mixA x))
def at_ (seed i : Nat) : Nat := (seed + i * stepN) % M
def row (seed c : Nat) : Nat := mix (at_ seed (c + 1))
theorem at_zero {seed : Nat} (h : seed < M) : at_ seed 0 = seed := by unfold at_; rw [Nat.zero_mul, Nat.add_zero, Nat.mod_eq_of_lt h]
theorem at_succ (seed i : Nat) : at_ seed (i + 1) = (at_ seed i + stepN) % M := by
  unfold at_
  rw [Nat.succ_mul, ← Nat.add_assoc, Nat.mod_add_mod]
theorem at_lt (seed i : Nat) : at_ seed i < M := by unfold at_; exact Nat.mod_lt _ M_pos
theorem mixA_lt (x : Nat) : mixA x < M := by unfold mixA; exact Nat.mod_lt _ M_pos
theorem mixB_lt (x : Nat) : mixB x < M := by unfold mixB; exact Nat.mod_lt _ M_pos
theorem M_pow : M = 2 ^ 64 := by decide
theorem mixC_lt {x : Nat} (h : x < M) : mixC x < M := by
  rw [M_pow] at *
  exact Nat.xor_lt_two_pow h (Nat.lt_of_le_of_lt (Nat.div_le_self _ _) h)
theorem row_lt (seed c : Nat) : row seed c < M := mixC_lt (mixB_lt _)
/-- A roll. -/
def roll (seed h : Nat) (c : UInt8) : Nat := (2 * h + row seed c.toNat) % M
def hash (seed : Nat) (b : List UInt8) : Nat := b.foldl (roll seed) 0
theorem roll_lt (seed h : Nat) (c : UInt8) : roll seed h c < M := by unfold roll; exact Nat.mod_lt _ M_pos
theorem hash_nil (seed : Nat) : hash seed [] = 0 := rfl
theorem hash_snoc (seed : Nat) (b : List UInt8) (c : UInt8) : hash seed (b ++ [c]) = roll seed (hash seed b) c := by unfold hash; rw [List.foldl_append, List.foldl_cons, List.foldl_nil]
theorem hash_lt (seed : Nat) (b : List UInt8) : hash seed b < M := by
  rcases List.eq_nil_or_concat b with rfl | ⟨a, c, rfl⟩
  · rw [hash_nil]; exact M_pos
  · rw [List.concat_eq_append, hash_snoc]; exact roll_lt _ _ _
theorem hash_append (seed : Nat) (a b : List UInt8) : hash seed (a ++ b) = b.foldl (roll seed) (hash seed a) := by unfold hash; rw [List.foldl_append]
/-- Where the first hash has no bit of a mask. -/
def findF (seed mask : Nat) : Nat → Nat → List UInt8 → Option Nat
  | _, _, [] => none
  | i, h, c :: l => if roll seed h c &&& mask = 0 then some i else findF seed mask (i + 1) (roll seed h c) l
end Gear
end Go.Proofs.YtognkonncfjneaaDoor
