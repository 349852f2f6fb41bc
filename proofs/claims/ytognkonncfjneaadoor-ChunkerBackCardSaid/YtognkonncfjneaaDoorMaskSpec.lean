/- Ones of a number and masks, as numbers. Plain definitions and theorems, no program; conditions: each theorem's premises. -/
import Derived.Laws.BitsAllLaws
namespace Go.Proofs.YtognkonncfjneaaDoor
namespace Gear
def m0 : Nat := 6148914691236517205
def m1 : Nat := 3689348814741910323
def m2 : Nat := 1085102592571150095
def s1 (x : Nat) : Nat := (x / 2 &&& m0) + (x &&& m0)
def s2 (x : Nat) : Nat := (x / 4 &&& m1) + (x &&& m1)
def s3 (x : Nat) : Nat := (x / 16 + x) &&& m2
def s4 (x : Nat) : Nat := x + x / 256
def s5 (x : Nat) : Nat := x + x / 65536
def s6 (x : Nat) : Nat := x + x / 4294967296
def swar (x : Nat) : Nat := s6 (s5 (s4 (s3 (s2 (s1 x))))) &&& 127
theorem land_join (a b m n : Nat) (ha : a < 256) (hm : m < 256) : (a + 256 * b) &&& (m + 256 * n) = (a &&& m) + 256 * (b &&& n) := by
  have h1 : ((a + 256 * b) &&& (m + 256 * n)) % 2 ^ 8 = a &&& m := by
    rw [Nat.and_mod_two_pow, show (a + 256 * b) % 2 ^ 8 = a by omega, show (m + 256 * n) % 2 ^ 8 = m by omega]
  have h2 : ((a + 256 * b) &&& (m + 256 * n)) / 2 ^ 8 = b &&& n := by
    rw [Nat.and_div_two_pow, show (a + 256 * b) / 2 ^ 8 = b by omega, show (m + 256 * n) / 2 ^ 8 = n by omega]
  omega
/-- Three bytes under a mask of eight. -/
theorem land3 (a b c m M : Nat) (ha : a < 256) (hb : b < 256) (hc : c < 256) (hm : m < 256) (hM : M % 16777216 = m * 65793) :
    (a + 256 * b + 65536 * c) &&& M = (a &&& m) + 256 * (b &&& m) + 65536 * (c &&& m) := by
  have h0 : (a + 256 * b + 65536 * c) &&& M ≤ a + 256 * b + 65536 * c := Nat.and_le_left
  have h1 : ((a + 256 * b + 65536 * c) &&& M) % 2 ^ 24 = (a + 256 * (b + 256 * c)) &&& (m + 256 * (m + 256 * m)) := by
    rw [Nat.and_mod_two_pow, show (a + 256 * b + 65536 * c) % 2 ^ 24 = a + 256 * (b + 256 * c) by omega, show M % 2 ^ 24 = m + 256 * (m + 256 * m) by omega]
  rw [land_join _ _ _ _ ha hm, land_join _ _ _ _ hb hm] at h1
  omega
def p1 (a : Nat) : Nat := (a / 2 &&& 85) + (a &&& 85)
def p2 (a : Nat) : Nat := (a / 4 &&& 51) + (a &&& 51)
def p3 (a : Nat) : Nat := (a / 16 + a) &&& 15
theorem b1 : ∀ a, a < 256 → ∀ t, t < 2 → (a / 2 + 128 * t) &&& 85 = a / 2 &&& 85 := by decide +kernel
theorem b2 : ∀ a, a < 256 → ∀ t, t < 4 → (a / 4 + 64 * t) &&& 51 = a / 4 &&& 51 := by decide +kernel
theorem k1 : ∀ a, a < 256 → p1 a ≤ 170 := by decide +kernel
theorem k2 : ∀ a, a < 256 → p2 a ≤ 102 ∧ p2 (p1 a) ≤ 68 ∧ p2 (p1 a) % 16 ≤ 4 := by decide +kernel
theorem k3 : ∀ a, a < 256 → p3 (p2 (p1 a)) ≤ 8 ∧ (p3 (p2 (p1 a)) = 0 → a = 0) ∧ (p3 (p2 (p1 a)) = 1 → a = 1 ∨ a = 2 ∨ a = 4 ∨ a = 8 ∨ a = 16 ∨ a = 32 ∨ a = 64 ∨ a = 128) := by decide +kernel
def pc (a : Nat) : Nat := p3 (p2 (p1 a))
theorem step1 (a b c : Nat) (ha : a < 256) (hb : b < 256) (hc : c < 256) : s1 (a + 256 * b + 65536 * c) = p1 a + 256 * p1 b + 65536 * p1 c := by
  unfold s1
  have e : (a + 256 * b + 65536 * c) / 2 = (a / 2 + 128 * (b % 2)) + 256 * (b / 2 + 128 * (c % 2)) + 65536 * (c / 2 + 128 * 0) := by omega
  rw [e, land3 _ _ _ 85 m0 (by omega) (by omega) (by omega) (by omega) (by decide), land3 a b c 85 m0 ha hb hc (by omega) (by decide), b1 a ha _ (by omega), b1 b hb _ (by omega), b1 c hc 0 (by omega)]
  unfold p1
  omega
theorem step2 (a b c : Nat) (ha : a < 256) (hb : b < 256) (hc : c < 256) : s2 (a + 256 * b + 65536 * c) = p2 a + 256 * p2 b + 65536 * p2 c := by
  unfold s2
  have e : (a + 256 * b + 65536 * c) / 4 = (a / 4 + 64 * (b % 4)) + 256 * (b / 4 + 64 * (c % 4)) + 65536 * (c / 4 + 64 * 0) := by omega
  rw [e, land3 _ _ _ 51 m1 (by omega) (by omega) (by omega) (by omega) (by decide), land3 a b c 51 m1 ha hb hc (by omega) (by decide), b2 a ha _ (by omega), b2 b hb _ (by omega), b2 c hc 0 (by omega)]
  unfold p2
  omega
theorem step3 (a b c : Nat) (ha : a ≤ 68 ∧ a % 16 ≤ 4) (hb : b ≤ 68 ∧ b % 16 ≤ 4) (hc : c ≤ 68 ∧ c % 16 ≤ 4) : s3 (a + 256 * b + 65536 * c) = p3 a + 256 * p3 b + 65536 * p3 c := by
  unfold s3
  have e : (a + 256 * b + 65536 * c) / 16 + (a + 256 * b + 65536 * c) = (a / 16 + a + 16 * (b % 16)) + 256 * (b / 16 + b + 16 * (c % 16)) + 65536 * (c / 16 + c) := by omega
  rw [e, land3 _ _ _ 15 m2 (by omega) (by omega) (by omega) (by omega) (by decide)]
  unfold p3
  simp only [nat_mask4]
  omega
theorem swar3 (a b c : Nat) (ha : a < 256) (hb : b < 256) (hc : c < 256) : swar (a + 256 * b + 65536 * c) = pc a + pc b + pc c := by
  unfold swar
  rw [step1 a b c ha hb hc, step2 _ _ _ (by have := k1 a ha; omega) (by have := k1 b hb; omega) (by have := k1 c hc; omega), step3 _ _ _ (k2 a ha).2 (k2 b hb).2 (k2 c hc).2]
  have ia := (k3 a ha).1
  have ib := (k3 b hb).1
  have ic := (k3 c hc).1
  show s6 (s5 (s4 (pc a + 256 * pc b + 65536 * pc c))) &&& 127 = _
  change pc a ≤ 8 at ia
  change pc b ≤ 8 at ib
  change pc c ≤ 8 at ic
  generalize pc a = x at *
  generalize pc b = y at *
  generalize pc c = z at *
  have e4 : s4 (x + 256 * y + 65536 * z) = (x + y) + 256 * (y + z) + 65536 * z := by unfold s4; omega
  have e5 : s5 ((x + y) + 256 * (y + z) + 65536 * z) = (x + y + z) + 256 * (y + z) + 65536 * z := by unfold s5; omega
  have e6 : s6 ((x + y + z) + 256 * (y + z) + 65536 * z) = (x + y + z) + 256 * (y + z) + 65536 * z := by unfold s6; omega
  rw [e4, e5, e6, nat_mask7]
  omega
theorem swar_few {x : Nat} (h : x < 16777216) : s1 x < 16777216 ∧ s2 (s1 x) < 16777216 ∧ s3 (s2 (s1 x)) < 16777216 := by
  have e : x = x % 256 + 256 * (x / 256 % 256) + 65536 * (x / 65536) := by omega
  have a1 := k1 (x % 256) (by omega); have a2 := (k2 (x % 256) (by omega)).2; have a3 := (k3 (x % 256) (by omega)).1
  have b1 := k1 (x / 256 % 256) (by omega); have b2 := (k2 (x / 256 % 256) (by omega)).2; have b3 := (k3 (x / 256 % 256) (by omega)).1
  have c1 := k1 (x / 65536) (by omega); have c2 := (k2 (x / 65536) (by omega)).2; have c3 := (k3 (x / 65536) (by omega)).1
  have e1 := step1 (x % 256) (x / 256 % 256) (x / 65536) (by omega) (by omega) (by omega)
  rw [← e] at e1
  have e2 := step2 _ _ _ (show p1 (x % 256) < 256 by omega) (show p1 (x / 256 % 256) < 256 by omega) (show p1 (x / 65536) < 256 by omega)
  rw [← e1] at e2
  have e3 := step3 _ _ _ a2 b2 c2
  rw [← e2] at e3
  omega
theorem swar_le {x : Nat} (h : x < 16777216) : swar x ≤ 24 := by
  have e : x = x % 256 + 256 * (x / 256 % 256) + 65536 * (x / 65536) := by omega
  rw [e, swar3 _ _ _ (by omega) (by omega) (by omega)]
  have := (k3 (x % 256) (by omega)).1
  have := (k3 (x / 256 % 256) (by omega)).1
  have := (k3 (x / 65536) (by omega)).1
  unfold pc
  omega
theorem swar_pow {x : Nat} (h : x ≤ 1048576) (h1 : swar x = 1) : ∃ k, k ≤ 20 ∧ x = 2 ^ k := by
  have e : x = x % 256 + 256 * (x / 256 % 256) + 65536 * (x / 65536) := by omega
  rw [e, swar3 _ _ _ (by omega) (by omega) (by omega)] at h1
  obtain ⟨-, a0, a1⟩ := k3 (x % 256) (by omega)
  obtain ⟨-, b0, b1⟩ := k3 (x / 256 % 256) (by omega)
  obtain ⟨-, c0, c1⟩ := k3 (x / 65536) (by omega)
  change pc _ = 0 → _ at a0 b0 c0
  change pc _ = 1 → _ at a1 b1 c1
  have h3 : (pc (x % 256) = 1 ∧ pc (x / 256 % 256) = 0 ∧ pc (x / 65536) = 0) ∨ (pc (x % 256) = 0 ∧ pc (x / 256 % 256) = 1 ∧ pc (x / 65536) = 0) ∨ (pc (x % 256) = 0 ∧ pc (x / 256 % 256) = 0 ∧ pc (x / 65536) = 1) := by omega
  rcases h3 with ⟨h1, h2, h3⟩ | ⟨h1, h2, h3⟩ | ⟨h1, h2, h3⟩
  · have := b0 h2; have := c0 h3
    rcases a1 h1 with e | e | e | e | e | e | e | e
    · exact ⟨0, by omega, by omega⟩
    · exact ⟨1, by omega, by omega⟩
    · exact ⟨2, by omega, by omega⟩
    · exact ⟨3, by omega, by omega⟩
    · exact ⟨4, by omega, by omega⟩
    · exact ⟨5, by omega, by omega⟩
    · exact ⟨6, by omega, by omega⟩
    · exact ⟨7, by omega, by omega⟩
  · have := a0 h1; have := c0 h3
    rcases b1 h2 with e | e | e | e | e | e | e | e
    · exact ⟨8, by omega, by omega⟩
    · exact ⟨9, by omega, by omega⟩
    · exact ⟨10, by omega, by omega⟩
    · exact ⟨11, by omega, by omega⟩
    · exact ⟨12, by omega, by omega⟩
    · exact ⟨13, by omega, by omega⟩
    · exact ⟨14, by omega, by omega⟩
    · exact ⟨15, by omega, by omega⟩
  · have := a0 h1; have := b0 h2
    rcases c1 h3 with e | e | e | e | e | e | e | e
    · exact ⟨16, by omega, by omega⟩
    · exact ⟨17, by omega, by omega⟩
    · exact ⟨18, by omega, by omega⟩
    · exact ⟨19, by omega, by omega⟩
    · exact ⟨20, by omega, by omega⟩
    · omega
    · omega
    · omega
theorem swar_of_pow : ∀ k, k < 21 → swar (2 ^ k) = 1 := by decide +kernel
/-- What a mask is, of a power of two. -/
def maskK (k : Nat) : Nat := 18446744073709551616 - 2 ^ (64 - k)
end Gear
end Go.Proofs.YtognkonncfjneaaDoor
