/- Registers of layer 2 (crc) as numbers, and what the sums come to. Plain definitions and theorems, no program; conditions: each theorem's premises. -/
namespace Go.Proofs.Ytaebmhbggbpnoaa
namespace Crc

def poly : Nat := 2197175160
theorem poly_eq : poly = 2197175160 := rfl
/-- A register, one bit down. -/
def half (r : Nat) : Nat := if r % 2 = 1 then r / 2 ^^^ poly else r / 2
theorem half_even (r : Nat) : half (2 * r) = r := by
  unfold half
  rw [if_neg (by omega)]
  omega
theorem div2_xor (a b : Nat) : (a ^^^ b) / 2 = a / 2 ^^^ b / 2 := by
  have := Nat.shiftRight_xor_distrib (a := a) (b := b) (i := 1)
  simpa [Nat.shiftRight_succ] using this
theorem mod2_xor (a b : Nat) : (a ^^^ b) % 2 = (a + b) % 2 := by
  have h : (a ^^^ b) % 2 = a % 2 ^^^ b % 2 := by
    have := Nat.xor_mod_two_pow (a := a) (b := b) (n := 1)
    simpa using this
  rcases Nat.mod_two_eq_zero_or_one a with ha | ha <;> rcases Nat.mod_two_eq_zero_or_one b with hb | hb <;> rw [h, ha, hb] <;> simp <;> omega
theorem half_xor (a b : Nat) : half (a ^^^ b) = half a ^^^ half b := by
  unfold half
  rw [mod2_xor, div2_xor]
  rcases Nat.mod_two_eq_zero_or_one a with ha | ha <;> rcases Nat.mod_two_eq_zero_or_one b with hb | hb
  · rw [if_neg (by omega), if_neg (by omega), if_neg (by omega)]
  · rw [if_pos (by omega), if_neg (by omega), if_pos (by omega), Nat.xor_assoc]
  · rw [if_pos (by omega), if_pos (by omega), if_neg (by omega), Nat.xor_assoc, Nat.xor_assoc, Nat.xor_comm poly]
  · rw [if_neg (by omega), if_pos (by omega), if_pos (by omega)]
    rw [Nat.xor_assoc, Nat.xor_comm poly, Nat.xor_assoc (b / 2), Nat.xor_self, Nat.xor_zero]
/-- n bits down. -/
def down : Nat → Nat → Nat
  | 0, r => r
  | n + 1, r => down n (half r)
theorem down_xor (n a b : Nat) : down n (a ^^^ b) = down n a ^^^ down n b := by
  induction n generalizing a b with
  | zero => rfl
  | succ n ih => rw [down, half_xor, ih]; rfl
theorem down_add (n m r : Nat) : down (n + m) r = down m (down n r) := by
  induction n generalizing r with
  | zero => rw [Nat.zero_add]; rfl
  | succ n ih => rw [Nat.succ_add, down, ih]; rfl
theorem down_half (n r : Nat) : down n (half r) = half (down n r) := by
  have h1 := down_add 1 n r
  have h2 := down_add n 1 r
  rw [Nat.add_comm] at h1
  exact (h1.symm.trans h2)
theorem half_zero : half 0 = 0 := rfl
theorem down_zero (n : Nat) : down n 0 = 0 := by
  induction n with
  | zero => rfl
  | succ n ih => rw [down, half_zero, ih]
theorem down_shift (n r : Nat) : down n (2 ^ n * r) = r := by
  induction n generalizing r with
  | zero => simp [down]
  | succ n ih => rw [down, Nat.pow_succ, Nat.mul_comm (2 ^ n) 2, Nat.mul_assoc, half_even, ih]
theorem half_lt {r k : Nat} (hk : 32 ≤ k) (h : r < 2 ^ k) : half r < 2 ^ k := by
  have hp : poly < 2 ^ k := Nat.lt_of_lt_of_le (by decide : poly < 2 ^ 32) (Nat.pow_le_pow_right (by omega) hk)
  unfold half
  split
  · exact Nat.xor_lt_two_pow (by omega) hp
  · omega
theorem down_lt {n r : Nat} (h : r < 2 ^ 32) : down n r < 2 ^ 32 := by
  induction n generalizing r with
  | zero => exact h
  | succ n ih => exact ih (half_lt (Nat.le_refl _) h)
theorem half_pos {r : Nat} (h : r < 2 ^ 32) (h0 : r ≠ 0) : half r ≠ 0 := by
  unfold half
  split
  · intro e
    have e2 : r / 2 = poly := by
      have := congrArg (· ^^^ poly) e
      simpa [Nat.xor_assoc] using this
    unfold poly at e2
    omega
  · omega
theorem down_pos {n r : Nat} (h : r < 2 ^ 32) (h0 : r ≠ 0) : down n r ≠ 0 := by
  induction n generalizing r with
  | zero => exact h0
  | succ n ih => exact ih (half_lt (Nat.le_refl _) h) (half_pos h h0)
/-- A register of 32 bits that comes down to none is none; so two that come down alike are one. -/
theorem down_inj {n a b : Nat} (ha : a < 2 ^ 32) (hb : b < 2 ^ 32) (h : down n a = down n b) : a = b := by
  have hx : a ^^^ b < 2 ^ 32 := Nat.xor_lt_two_pow ha hb
  have h0 : down n (a ^^^ b) = 0 := by rw [down_xor, h, Nat.xor_self]
  have : a ^^^ b = 0 := by
    rcases Nat.eq_zero_or_pos (a ^^^ b) with e | e
    · exact e
    · exact absurd h0 (down_pos hx (by omega))
  have := congrArg (· ^^^ b) this
  simpa [Nat.xor_assoc] using this

/-! ### Bytes -/
/-- Bytes as a number, the lowest first. -/
def le : List UInt8 → Nat
  | [] => 0
  | c :: l => c.toNat + 256 * le l
/-- Bytes through a register. -/
def run (r : Nat) (b : List UInt8) : Nat := b.foldl (fun r c => down 8 (r ^^^ c.toNat)) r
theorem run_nil (r : Nat) : run r [] = r := rfl
theorem run_cons (r : Nat) (c : UInt8) (b : List UInt8) : run r (c :: b) = run (down 8 (r ^^^ c.toNat)) b := rfl
theorem run_append (r : Nat) (a b : List UInt8) : run r (a ++ b) = run (run r a) b := by simp [run]
theorem run_snoc (r : Nat) (a : List UInt8) (c : UInt8) : run r (a ++ [c]) = down 8 (run r a ^^^ c.toNat) := by simp [run]
theorem xor_add (c : UInt8) (m : Nat) : c.toNat + 256 * m = c.toNat ^^^ 256 * m := by
  have hc := c.toNat_lt
  have h := Nat.shiftLeft_add_eq_or_of_lt (i := 8) (b := c.toNat) (by omega) m
  rw [Nat.shiftLeft_eq] at h
  have e : c.toNat + 256 * m = m * 2 ^ 8 ||| c.toNat := by omega
  rw [e]
  apply Nat.eq_of_testBit_eq
  intro i
  rw [show 256 * m = m * 2 ^ 8 from by omega]
  simp only [Nat.testBit_or, Nat.testBit_xor, Nat.testBit_mul_two_pow]
  by_cases hi : 8 ≤ i
  · have : c.toNat.testBit i = false := Nat.testBit_lt_two_pow (Nat.lt_of_lt_of_le (by omega : c.toNat < 2 ^ 8) (Nat.pow_le_pow_right (by omega) hi))
    simp [this]
  · simp [hi]
/-- Bytes through a register: their number, many bits down. -/
theorem run_le (r : Nat) (b : List UInt8) : run r b = down (8 * b.length) (r ^^^ le b) := by
  induction b generalizing r with
  | nil => simp [run, le, down]
  | cons c b ih =>
    rw [run_cons, ih, le, xor_add, List.length_cons, show 8 * (b.length + 1) = 8 + 8 * b.length from by omega, down_add]
    congr 1
    rw [← Nat.xor_assoc, down_xor 8 (r ^^^ c.toNat)]
    congr 1
    exact (down_shift 8 (le b)).symm
theorem run_xor (r s : Nat) (b : List UInt8) : run (r ^^^ s) b = run r b ^^^ down (8 * b.length) s := by
  rw [run_le, run_le, ← down_xor]
  congr 1
  rw [Nat.xor_assoc, Nat.xor_comm s, ← Nat.xor_assoc]
theorem run_lt {r : Nat} {b : List UInt8} (h : r < 2 ^ 32) : run r b < 2 ^ 32 := by
  induction b generalizing r with
  | nil => exact h
  | cons c b ih =>
    rw [run_cons]
    exact ih (down_lt (Nat.xor_lt_two_pow h (Nat.lt_of_lt_of_le c.toNat_lt (by decide))))
theorem le_zeros (n : Nat) : le (List.replicate n 0) = 0 := by
  induction n with
  | zero => rfl
  | succ n ih => rw [List.replicate_succ, le, ih]; rfl
theorem run_zeros (r n : Nat) : run r (List.replicate n 0) = down (8 * n) r := by
  rw [run_le, le_zeros, Nat.xor_zero, List.length_replicate]

/-! ### The row of a byte -/
def row (x : Nat) : Nat := down 8 x
theorem row_zero : row 0 = 0 := down_zero 8
/-- One byte, by its row. -/
theorem step_row (r : Nat) (c : UInt8) : row (r % 256 ^^^ c.toNat) ^^^ r / 256 = down 8 (r ^^^ c.toNat) := by
  have e : r = r % 256 ^^^ 256 * (r / 256) := by
    have h := xor_add (UInt8.ofNat (r % 256)) (r / 256)
    have hm : (UInt8.ofNat (r % 256)).toNat = r % 256 := by simp
    rw [hm] at h
    omega
  have e2 : r ^^^ c.toNat = (r % 256 ^^^ c.toNat) ^^^ 256 * (r / 256) := by
    have h2 : r ^^^ c.toNat = (r % 256 ^^^ 256 * (r / 256)) ^^^ c.toNat := congrArg (· ^^^ c.toNat) e
    rw [h2, Nat.xor_assoc, Nat.xor_comm (256 * (r / 256)), Nat.xor_assoc]
  rw [e2, down_xor]
  unfold row
  congr 1
  exact (down_shift 8 (r / 256)).symm

/-! ### Registers as polynomials -/
/-- Two registers, one times the other one: k bits of a, the highest first. -/
def mulK : Nat → Nat → Nat → Nat
  | 0, _, _ => 0
  | k + 1, a, b => (if a / 2 ^ k % 2 = 1 then b else 0) ^^^ mulK k a (half b)
def mul (a b : Nat) : Nat := mulK 32 a b
def one : Nat := 2 ^ 31
theorem mulK_half (k a b : Nat) : mulK k a (half b) = half (mulK k a b) := by
  induction k generalizing b with
  | zero => exact half_zero.symm
  | succ k ih =>
    rw [mulK, mulK, ih, half_xor]
    congr 1
    split
    · rfl
    · exact half_zero.symm
theorem mul_half (a b : Nat) : mul a (half b) = half (mul a b) := mulK_half 32 a b
theorem mul_down (n a b : Nat) : mul a (down n b) = down n (mul a b) := by
  induction n generalizing b with
  | zero => rfl
  | succ n ih => rw [down, ih, mul_half]; rfl
theorem mulK_one (k a : Nat) (hk : k ≤ 32) (hk0 : 0 < k) : mulK k a (2 ^ (k - 1)) = a % 2 ^ k := by
  induction k with
  | zero => omega
  | succ k ih =>
    rw [mulK]
    rcases Nat.eq_zero_or_pos k with h0 | h0
    · subst h0
      simp only [Nat.zero_add, Nat.pow_zero, Nat.div_one, mulK, Nat.xor_zero, Nat.pow_one, Nat.sub_self]
      split <;> omega
    · have e : half (2 ^ (k + 1 - 1)) = 2 ^ (k - 1) := by
        have : 2 ^ (k + 1 - 1) = 2 * 2 ^ (k - 1) := by
          rw [show k + 1 - 1 = (k - 1) + 1 from by omega, Nat.pow_succ]; omega
        rw [this, half_even]
      rw [e, ih (by omega) h0, Nat.add_sub_cancel]
      apply Nat.eq_of_testBit_eq
      intro i
      have hb : (a / 2 ^ k % 2 = 1) ↔ a.testBit k = true := by
        rw [Nat.testBit_eq_decide_div_mod_eq]; simp
      rw [Nat.testBit_xor, Nat.testBit_mod_two_pow, Nat.testBit_mod_two_pow]
      by_cases hc : a.testBit k = true
      · rw [if_pos (hb.2 hc), Nat.testBit_two_pow]
        by_cases hi : i = k
        · subst hi; simp [hc]
        · have : (decide (k = i)) = false := by simp; omega
          rw [this]
          have : decide (i < k + 1) = decide (i < k) := by
            by_cases h : i < k
            · simp [h]; omega
            · simp [h]; omega
          rw [this]; simp
      · rw [if_neg (fun h => hc (hb.1 h))]
        simp only [Nat.zero_testBit, Bool.false_xor]
        by_cases hi : i = k
        · subst hi; simp [hc]
        · have : decide (i < k + 1) = decide (i < k) := by
            by_cases h : i < k
            · simp [h]; omega
            · simp [h]; omega
          rw [this]
theorem mul_one (a : Nat) (h : a < 2 ^ 32) : mul a one = a := by
  have := mulK_one 32 a (by omega) (by omega)
  rw [Nat.mod_eq_of_lt h] at this
  exact this
/-- What n bits make of a register: a factor. -/
theorem mul_power (n a : Nat) (h : a < 2 ^ 32) : mul a (down n one) = down n a := by rw [mul_down, mul_one a h]
theorem mulK_lt {k a b : Nat} (h : b < 2 ^ 32) : mulK k a b < 2 ^ 32 := by
  induction k generalizing b with
  | zero => exact Nat.two_pow_pos _
  | succ k ih =>
    rw [mulK]
    refine Nat.xor_lt_two_pow ?_ (ih (half_lt (Nat.le_refl _) h))
    split
    · exact h
    · exact Nat.two_pow_pos _
theorem mul_lt {a b : Nat} (h : b < 2 ^ 32) : mul a b < 2 ^ 32 := mulK_lt h
theorem one_lt : one < 2 ^ 32 := by decide
theorem mulK_mod (k a b : Nat) : mulK k a b = mulK k (a % 2 ^ k) b := by
  suffices h : ∀ (k j a b : Nat), k ≤ j → mulK k a b = mulK k (a % 2 ^ j) b from h k k a b (Nat.le_refl _)
  intro k
  induction k with
  | zero => intros; rfl
  | succ k ih =>
    intro j a b hj
    rw [mulK, mulK, ih j a _ (by omega)]
    have : a % 2 ^ j / 2 ^ k % 2 = a / 2 ^ k % 2 := by
      have h1 : (a % 2 ^ j).testBit k = a.testBit k := by rw [Nat.testBit_mod_two_pow]; simp; omega
      rw [Nat.testBit_eq_decide_div_mod_eq, Nat.testBit_eq_decide_div_mod_eq] at h1
      have := decide_eq_decide.1 h1
      omega
    rw [this]

/-! ### Sums -/
/-- All bits turned. -/
def neg (r : Nat) : Nat := r ^^^ 4294967295
theorem neg_neg (r : Nat) : neg (neg r) = r := by unfold neg; rw [Nat.xor_assoc, Nat.xor_self, Nat.xor_zero]
theorem neg_lt {r : Nat} (h : r < 2 ^ 32) : neg r < 2 ^ 32 := Nat.xor_lt_two_pow h (by decide)
def more (s : Nat) (b : List UInt8) : Nat := neg (run (neg s) b)
def sum (b : List UInt8) : Nat := more 0 b
theorem more_lt {s : Nat} {b : List UInt8} (h : s < 2 ^ 32) : more s b < 2 ^ 32 := neg_lt (run_lt (neg_lt h))
theorem sum_lt (b : List UInt8) : sum b < 2 ^ 32 := more_lt (by decide)
theorem more_nil (s : Nat) : more s [] = s := neg_neg s
theorem more_append (s : Nat) (a b : List UInt8) : more s (a ++ b) = more (more s a) b := by unfold more; rw [run_append, neg_neg]
/-- The sum of two parts by their sums. -/
theorem more_join (s : Nat) (b : List UInt8) : more s b = down (8 * b.length) s ^^^ sum b := by
  unfold sum more neg
  rw [Nat.zero_xor, Nat.xor_comm s, run_xor, ← Nat.xor_assoc, Nat.xor_comm _ (down _ s)]
theorem sum_append (a b : List UInt8) : sum (a ++ b) = down (8 * b.length) (sum a) ^^^ sum b := by
  show more 0 (a ++ b) = _
  rw [more_append, more_join]; rfl
/-- Noughts behind any sum. -/
theorem more_zeros (s n : Nat) : more s (List.replicate n 0) = neg (down (8 * n) (neg s)) := by unfold more; rw [run_zeros]

/-! ### Sealed bytes -/
def le32 (s : Nat) : List UInt8 := [UInt8.ofNat s, UInt8.ofNat (s / 256), UInt8.ofNat (s / 65536), UInt8.ofNat (s / 16777216)]
def seal_ (b : List UInt8) : List UInt8 := b ++ le32 (sum b)
theorem le_le32 (s : Nat) (h : s < 2 ^ 32) : le (le32 s) = s := by
  simp only [le32, le, UInt8.toNat_ofNat']
  omega
theorem le_lt (b : List UInt8) : le b < 2 ^ (8 * b.length) := by
  induction b with
  | nil => simp [le]
  | cons c b ih =>
    have hc := c.toNat_lt
    rw [le, List.length_cons, show 8 * (b.length + 1) = 8 * b.length + 8 from by omega, Nat.pow_add]
    omega
theorem le_append (a b : List UInt8) : le (a ++ b) = le a + 2 ^ (8 * a.length) * le b := by
  induction a with
  | nil => simp [le]
  | cons c a ih =>
    rw [List.cons_append, le, ih, le, List.length_cons, show 8 * (a.length + 1) = 8 + 8 * a.length from by omega, Nat.pow_add, Nat.mul_add, Nat.mul_assoc]
    omega
theorem le_inj {a b : List UInt8} (hl : a.length = b.length) (h : le a = le b) : a = b := by
  induction a generalizing b with
  | nil =>
    cases b with
    | nil => rfl
    | cons => simp at hl
  | cons c a ih =>
    cases b with
    | nil => simp at hl
    | cons d b =>
      have hc := c.toNat_lt
      have hd := d.toNat_lt
      rw [le, le] at h
      have e1 : c.toNat = d.toNat := by omega
      rw [UInt8.toNat_inj.1 e1, ih (by simpa using hl) (by omega)]
def good : Nat := down 32 4294967295
/-- Sealed bytes go through the register to one number, and no others do. -/
theorem run_tail (a t : List UInt8) (ht : t.length = 4) : run 4294967295 (a ++ t) = good ↔ t = le32 (sum a) := by
  have hr : run 4294967295 a < 2 ^ 32 := run_lt (by decide)
  have hs : sum a = neg (run 4294967295 a) := by unfold sum more neg; rw [Nat.zero_xor]
  rw [run_append, run_le, ht]
  unfold good
  constructor
  · intro h
    have hlt : le t < 2 ^ 32 := by have := le_lt t; rwa [ht] at this
    have e := down_inj (Nat.xor_lt_two_pow hr hlt) (by decide) h
    refine le_inj (by rw [ht]; rfl) ?_
    rw [le_le32 _ (sum_lt a), hs]
    unfold neg
    generalize run 4294967295 a = R at e
    rw [← e, ← Nat.xor_assoc, Nat.xor_self, Nat.zero_xor]
  · intro h
    rw [h, le_le32 _ (sum_lt a), hs]
    unfold neg
    rw [← Nat.xor_assoc, Nat.xor_self, Nat.zero_xor]
theorem run_seal (b : List UInt8) : run 4294967295 (seal_ b) = good := (run_tail b _ rfl).2 rfl
/-- What a table opens. -/
def isSealed (x : List UInt8) : Prop := 4 ≤ x.length ∧ seal_ (x.take (x.length - 4)) = x
theorem sealed_run (x : List UInt8) (h : 4 ≤ x.length) : seal_ (x.take (x.length - 4)) = x ↔ run 4294967295 x = good := by
  have hx : x = x.take (x.length - 4) ++ x.drop (x.length - 4) := (List.take_append_drop _ _).symm
  have ht : (x.drop (x.length - 4)).length = 4 := by simp; omega
  have hk := run_tail (x.take (x.length - 4)) (x.drop (x.length - 4)) ht
  rw [← hx] at hk
  rw [hk]
  constructor
  · intro e
    have e2 : x.take (x.length - 4) ++ le32 (sum (x.take (x.length - 4))) = x.take (x.length - 4) ++ x.drop (x.length - 4) := by rw [← hx]; exact e
    exact (List.append_cancel_left e2).symm
  · intro e
    unfold seal_
    rw [← e, ← hx]
/-- Bits within 32 that are turned are told. -/
theorem burst (x y : List UInt8) (at_ bits : Nat) (hl : y.length = x.length) (ha : at_ + 32 ≤ 8 * x.length) (hb : bits < 2 ^ 32) (h0 : bits ≠ 0) (hy : le y = le x ^^^ 2 ^ at_ * bits) (hx : run 4294967295 x = good) : run 4294967295 y ≠ good := by
  intro h
  rw [run_le] at hx h
  rw [hl, hy, ← Nat.xor_assoc, down_xor, hx] at h
  have h2 : down (8 * x.length) (2 ^ at_ * bits) = 0 := by
    have := congrArg (good ^^^ ·) h
    simpa [← Nat.xor_assoc] using this
  rw [show 8 * x.length = at_ + (8 * x.length - at_) from by omega, down_add, down_shift] at h2
  exact down_pos hb h0 h2

/-! ### What the loops of times and power come to, round by round -/
theorem mulK_dbl (k a b : Nat) : mulK (k + 1) (2 * a) b = mulK k a b := by
  induction k generalizing b with
  | zero => simp [mulK]
  | succ k ih =>
    rw [mulK, ih, mulK]
    have : 2 * a / 2 ^ (k + 1) % 2 = a / 2 ^ k % 2 := by
      rw [Nat.pow_succ, Nat.mul_comm (2 ^ k) 2, Nat.mul_div_mul_left _ _ (by omega)]
    rw [this]
theorem mul_round (a b : Nat) : mul a b = (if a / 2147483648 % 2 = 1 then b else 0) ^^^ mul (2 * a % 4294967296) (half b) := by
  have h : mul (2 * a % 4294967296) (half b) = mulK 31 a (half b) := by
    have := mulK_mod 32 (2 * a) (half b)
    unfold mul
    rw [show (4294967296 : Nat) = 2 ^ 32 from rfl, ← this, mulK_dbl]
  rw [h]
  rfl
theorem mul_zero_left (b : Nat) : mul 0 b = 0 := by
  suffices h : ∀ k b, mulK k 0 b = 0 from h 32 b
  intro k
  induction k with
  | zero => intros; rfl
  | succ k ih => intro b; rw [mulK, ih]; simp
theorem mul_ones (i s : Nat) : mul (down i one) (down s one) = down (i + s) one := by
  rw [mul_power s _ (down_lt one_lt), ← down_add]
theorem step_one : (8388608 : Nat) = down 8 one := by decide
/-- A register of which j bits have gone over the edge. -/
def up (j a : Nat) : Nat := a * 2 ^ j % 4294967296
theorem up_zero {a : Nat} (h : a < 4294967296) : up 0 a = a := by unfold up; omega
theorem up_succ (j a : Nat) : up (j + 1) a = 2 * up j a % 4294967296 := by
  unfold up
  rw [Nat.pow_succ, ← Nat.mul_assoc, Nat.mul_comm 2]
  rw [Nat.mod_mul_mod]
theorem up_all (a : Nat) : up 32 a = 0 := by
  unfold up
  rw [show (2 : Nat) ^ 32 = 4294967296 from rfl, Nat.mul_mod_left]

/-! ### Bits that are turned -/
theorem mul_pow_xor (k a b : Nat) : 2 ^ k * (a ^^^ b) = 2 ^ k * a ^^^ 2 ^ k * b := by
  have := Nat.shiftLeft_xor_distrib (a := a) (b := b) (i := k)
  rw [Nat.shiftLeft_eq, Nat.shiftLeft_eq, Nat.shiftLeft_eq] at this
  rw [Nat.mul_comm, this, Nat.mul_comm a, Nat.mul_comm b]
theorem le_flip (x : List UInt8) (i : Nat) (c m : UInt8) (h : x[i]? = some c) : le (x.set i (c ^^^ m)) = le x ^^^ 2 ^ (8 * i) * m.toNat := by
  induction x generalizing i with
  | nil => simp at h
  | cons d x ih =>
    cases i with
    | zero =>
      simp at h
      subst h
      rw [List.set_cons_zero, le, le, xor_add, xor_add, UInt8.toNat_xor]
      simp only [Nat.mul_zero, Nat.pow_zero, Nat.one_mul]
      rw [Nat.xor_assoc, Nat.xor_comm m.toNat, Nat.xor_assoc]
    | succ i =>
      rw [List.set_cons_succ, le, le, xor_add, xor_add, ih i (by simpa using h), Nat.xor_assoc]
      congr 1
      have := mul_pow_xor 8 (le x) (2 ^ (8 * i) * m.toNat)
      rw [show (2 : Nat) ^ 8 = 256 from rfl] at this
      rw [this, show 8 * (i + 1) = 8 + 8 * i from by omega, Nat.pow_add, show (2 : Nat) ^ 8 = 256 from rfl, Nat.mul_assoc]
/-- Bit i of bits turned at at + i. -/
theorem le_turn (x y : List UInt8) (at_ bits i : Nat) (c m : UInt8) (hy : le y = le x ^^^ 2 ^ at_ * (bits % 2 ^ i)) (hb : bits / 2 ^ i % 2 = 1) (hc : y[(at_ + i) / 8]? = some c) (hm : m.toNat = 2 ^ ((at_ + i) % 8)) :
    le (y.set ((at_ + i) / 8) (c ^^^ m)) = le x ^^^ 2 ^ at_ * (bits % 2 ^ (i + 1)) := by
  have e : bits % 2 ^ (i + 1) = bits % 2 ^ i ^^^ 2 ^ i := by
    apply Nat.eq_of_testBit_eq
    intro k
    have hbt : bits.testBit i = true := by rw [Nat.testBit_eq_decide_div_mod_eq]; simpa using hb
    rw [Nat.testBit_xor, Nat.testBit_mod_two_pow, Nat.testBit_mod_two_pow, Nat.testBit_two_pow]
    by_cases hk : k = i
    · subst hk; simp [hbt]
    · have h1 : decide (k < i + 1) = decide (k < i) := by
        by_cases h : k < i
        · simp [h]; omega
        · simp [h]; omega
      have h2 : decide (i = k) = false := by simp; omega
      rw [h1, h2]; simp
  rw [le_flip y _ c m hc, hy, e, mul_pow_xor, Nat.xor_assoc]
  congr 2
  rw [hm, ← Nat.pow_add, ← Nat.pow_add]
  congr 1
  omega
theorem le_stay (x y : List UInt8) (at_ bits i : Nat) (hy : le y = le x ^^^ 2 ^ at_ * (bits % 2 ^ i)) (hb : ¬ bits / 2 ^ i % 2 = 1) : le y = le x ^^^ 2 ^ at_ * (bits % 2 ^ (i + 1)) := by
  have e : bits % 2 ^ (i + 1) = bits % 2 ^ i := by
    rw [Nat.pow_succ, Nat.mod_mul]
    have : bits / 2 ^ i % 2 = 0 := by omega
    rw [this, Nat.mul_zero, Nat.add_zero]
  rw [e]; exact hy
end Crc
end Go.Proofs.Ytaebmhbggbpnoaa
