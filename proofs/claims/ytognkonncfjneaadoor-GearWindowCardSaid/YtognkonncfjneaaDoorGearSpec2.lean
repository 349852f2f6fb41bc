/- Plain law of GearWindow: 64 rolls leave nothing of what was. Conditions: each theorem's premises. -/
import Derived.Test.YtognkonncfjneaaDoorGearSpec
namespace Go.Proofs.YtognkonncfjneaaDoor
namespace Gear
theorem foldl_mod (seed : Nat) : ∀ (b : List UInt8) (h : Nat), h < M → b.foldl (roll seed) h = (2 ^ b.length * h + b.foldl (roll seed) 0) % M
  | [], h, hh => by simp [Nat.mod_eq_of_lt hh]
  | c :: b, h, hh => by
    have h1 := foldl_mod seed b (roll seed h c) (roll_lt _ _ _)
    have h2 := foldl_mod seed b (roll seed 0 c) (roll_lt _ _ _)
    rw [List.foldl_cons, List.foldl_cons, h1, h2, List.length_cons]
    obtain ⟨p, hp⟩ : ∃ p, p = 2 ^ b.length := ⟨_, rfl⟩
    obtain ⟨f, hf⟩ : ∃ f, f = b.foldl (roll seed) 0 := ⟨_, rfl⟩
    obtain ⟨r, hr⟩ : ∃ r, r = row seed c.toNat := ⟨_, rfl⟩
    rw [Nat.pow_succ, ← hp, ← hf]
    unfold roll
    rw [← hr, Nat.mul_zero, Nat.zero_add, Nat.add_mod_mod]
    have e1 : (p * ((2 * h + r) % M) + f) % M = (p * (2 * h + r) + f) % M := by rw [Nat.add_mod, Nat.mul_mod_mod, ← Nat.add_mod]
    have e2 : (p * 2 * h + (p * (r % M) + f)) % M = (p * 2 * h + (p * r + f)) % M := by
      rw [Nat.add_mod, Nat.add_mod (p * (r % M)) f, Nat.mul_mod_mod, ← Nat.add_mod (p * r) f, ← Nat.add_mod]
    rw [e1, e2, Nat.mul_add, Nat.add_assoc, Nat.mul_assoc]
theorem hash_last (seed : Nat) (a b : List UInt8) (hb : b.length = 64) : hash seed (a ++ b) = hash seed b := by
  rw [hash_append, foldl_mod seed b _ (hash_lt seed a), hb]
  unfold hash
  have e : 2 ^ 64 = M := rfl
  rw [e, Nat.add_comm, Nat.add_mul_mod_self_left, Nat.mod_eq_of_lt]
  exact hash_lt seed b
theorem hash_drop (seed : Nat) (l : List UInt8) (h : 64 ≤ l.length) : hash seed (l.drop (l.length - 64)) = hash seed l := by
  have e := hash_last seed (l.take (l.length - 64)) (l.drop (l.length - 64)) (by rw [List.length_drop]; omega)
  rw [List.take_append_drop] at e
  exact e.symm
end Gear
end Go.Proofs.YtognkonncfjneaaDoor
