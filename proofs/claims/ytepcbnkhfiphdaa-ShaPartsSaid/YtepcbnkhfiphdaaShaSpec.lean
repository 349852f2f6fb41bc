/- SHA-256 of layer 3 (sha) as plain functions on numbers, and what they come to. Plain definitions and theorems, no program; conditions: each theorem's premises. -/
namespace Go.Proofs.Ytepcbnkhfiphdaa
namespace Sha
def xo (a b : Nat) : Nat := (a ^^^ b) % 4294967296
def an (a b : Nat) : Nat := (a &&& b) % 4294967296
def orr (a b : Nat) : Nat := (a ||| b) % 4294967296
def add (a b : Nat) : Nat := (a + b) % 4294967296
/-- k bits down. -/
def sh (k x : Nat) : Nat := x / 2 ^ k
/-- k bits up. -/
def sl (k x : Nat) : Nat := x * 2 ^ k % 4294967296
/-- Turned by k bits, down. -/
def ror (k x : Nat) : Nat := orr (sl (32 - k) x) (sh k x)
def s0 (x : Nat) : Nat := xo (xo (ror 7 x) (ror 18 x)) (sh 3 x)
def s1 (x : Nat) : Nat := xo (xo (ror 17 x) (ror 19 x)) (sh 10 x)
def S1 (x : Nat) : Nat := xo (xo (ror 6 x) (ror 11 x)) (ror 25 x)
def S0 (x : Nat) : Nat := xo (xo (ror 2 x) (ror 13 x)) (ror 22 x)
def ch (e f g : Nat) : Nat := xo g (an e (xo f g))
def maj (a b c : Nat) : Nat := orr (an a b) (an c (orr a b))
theorem mod_bit (a i : Nat) : (a % 4294967296).testBit i = (decide (i < 32) && a.testBit i) := Nat.testBit_mod_two_pow a 32 i
theorem xo_bit (a b i : Nat) : (xo a b).testBit i = (decide (i < 32) && (a.testBit i ^^ b.testBit i)) := by unfold xo; rw [mod_bit, Nat.testBit_xor]
theorem an_bit (a b i : Nat) : (an a b).testBit i = (decide (i < 32) && (a.testBit i && b.testBit i)) := by unfold an; rw [mod_bit, Nat.testBit_and]
theorem orr_bit (a b i : Nat) : (orr a b).testBit i = (decide (i < 32) && (a.testBit i || b.testBit i)) := by unfold orr; rw [mod_bit, Nat.testBit_or]
theorem max_bit (i : Nat) : (4294967295 : Nat).testBit i = decide (i < 32) := by
  have := Nat.testBit_two_pow_sub_one 32 i
  simpa using this
theorem ch_ref (e f g : Nat) : xo (an e f) (an (xo 4294967295 e) g) = ch e f g := by
  apply Nat.eq_of_testBit_eq
  intro i
  unfold ch
  simp only [xo_bit, an_bit, max_bit]
  cases decide (i < 32) <;> cases e.testBit i <;> cases f.testBit i <;> cases g.testBit i <;> rfl
theorem maj_ref (a b c : Nat) : xo (xo (an a b) (an a c)) (an b c) = maj a b c := by
  apply Nat.eq_of_testBit_eq
  intro i
  unfold maj
  simp only [xo_bit, an_bit, orr_bit]
  cases decide (i < 32) <;> cases a.testBit i <;> cases b.testBit i <;> cases c.testBit i <;> rfl
theorem orr_comm (a b : Nat) : orr a b = orr b a := by unfold orr; rw [Nat.or_comm]
theorem xo_lt (a b : Nat) : xo a b < 4294967296 := Nat.mod_lt _ (by decide)
theorem an_lt (a b : Nat) : an a b < 4294967296 := Nat.mod_lt _ (by decide)
theorem orr_lt (a b : Nat) : orr a b < 4294967296 := Nat.mod_lt _ (by decide)
theorem add_lt (a b : Nat) : add a b < 4294967296 := Nat.mod_lt _ (by decide)

/-- A state's eight words. -/
structure St where
  a : Nat
  b : Nat
  c : Nat
  d : Nat
  e : Nat
  f : Nat
  g : Nat
  h : Nat
def St.list (s : St) : List Nat := [s.a, s.b, s.c, s.d, s.e, s.f, s.g, s.h]
/-- A round. -/
def step (s : St) (k w : Nat) : St :=
  ⟨add (add (add (add (add s.h (S1 s.e)) (ch s.e s.f s.g)) k) w) (add (S0 s.a) (maj s.a s.b s.c)), s.a, s.b, s.c,
   add s.d (add (add (add (add s.h (S1 s.e)) (ch s.e s.f s.g)) k) w), s.e, s.f, s.g⟩
/-- Four bytes as a word, the first the highest. -/
def word (b : List UInt8) (i : Nat) : Nat := ((b.drop (4 * i)).take 4).foldl (fun n c => orr (sl 8 n) c.toNat) 0
def words (b : List UInt8) : Nat → List Nat
  | 0 => []
  | n + 1 => words b n ++ [word b n]
def next (l : List Nat) : Nat := add (add (add (l.getD (l.length - 16) 0) (s0 (l.getD (l.length - 15) 0))) (l.getD (l.length - 7) 0)) (s1 (l.getD (l.length - 2) 0))
def more : Nat → List Nat → List Nat
  | 0, l => l
  | n + 1, l => more n l ++ [next (more n l)]
def sched (b : List UInt8) : List Nat := more 48 (words b 16)
def K : List Nat := [1116352408, 1899447441, 3049323471, 3921009573, 961987163, 1508970993, 2453635748, 2870763221, 3624381080, 310598401, 607225278, 1426881987, 1925078388, 2162078206, 2614888103, 3248222580, 3835390401, 4022224774, 264347078, 604807628, 770255983, 1249150122, 1555081692, 1996064986, 2554220882, 2821834349, 2952996808, 3210313671, 3336571891, 3584528711, 113926993, 338241895, 666307205, 773529912, 1294757372, 1396182291, 1695183700, 1986661051, 2177026350, 2456956037, 2730485921, 2820302411, 3259730800, 3345764771, 3516065817, 3600352804, 4094571909, 275423344, 430227734, 506948616, 659060556, 883997877, 958139571, 1322822218, 1537002063, 1747873779, 1955562222, 2024104815, 2227730452, 2361852424, 2428436474, 2756734187, 3204031479, 3329325298]
def H : List Nat := [1779033703, 3144134277, 1013904242, 2773480762, 1359893119, 2600822924, 528734635, 1541459225]
def H0 : St := ⟨1779033703, 3144134277, 1013904242, 2773480762, 1359893119, 2600822924, 528734635, 1541459225⟩
def rounds (W : List Nat) (s : St) : Nat → St
  | 0 => s
  | n + 1 => step (rounds W s n) (K.getD n 0) (W.getD n 0)
def plus (s t : St) : St := ⟨add s.a t.a, add s.b t.b, add s.c t.c, add s.d t.d, add s.e t.e, add s.f t.f, add s.g t.g, add s.h t.h⟩
/-- A block, into a state. -/
def block (s : St) (b : List UInt8) : St := plus (rounds (sched b) s 64) s
/-- n blocks, into a state. -/
def comp : Nat → St → List UInt8 → St
  | 0, s, _ => s
  | n + 1, s, l => comp n (block s (l.take 64)) (l.drop 64)
theorem comp_add (m n : Nat) (s : St) (l : List UInt8) : comp (m + n) s l = comp n (comp m s l) (l.drop (64 * m)) := by
  induction m generalizing s l with
  | zero => rw [Nat.zero_add]; rfl
  | succ m ih => rw [Nat.succ_add, comp, ih, comp, List.drop_drop]; congr 2; omega
theorem comp_one (s : St) (l : List UInt8) : comp 1 s l = block s (l.take 64) := rfl
theorem comp_snoc (m : Nat) (s : St) (l : List UInt8) : comp (m + 1) s l = block (comp m s l) ((l.drop (64 * m)).take 64) := by rw [comp_add, comp_one]
theorem comp_app (m : Nat) (s : St) (l t : List UInt8) (h : 64 * m ≤ l.length) : comp m s (l ++ t) = comp m s l := by
  induction m generalizing s l with
  | zero => rfl
  | succ m ih =>
    rw [comp, comp, List.take_append_of_le_length (by omega), List.drop_append_of_le_length (by omega)]
    exact ih _ _ (by rw [List.length_drop]; omega)
/-- How many noughts follow the sign behind a text. -/
def zs (n : Nat) : Nat := (119 - n % 64) % 64
def be8 (n : Nat) : List UInt8 := [(n / 2 ^ 56).toUInt8, (n / 2 ^ 48).toUInt8, (n / 2 ^ 40).toUInt8, (n / 2 ^ 32).toUInt8, (n / 2 ^ 24).toUInt8, (n / 2 ^ 16).toUInt8, (n / 2 ^ 8).toUInt8, n.toUInt8]
def tail (n : Nat) : List UInt8 := 128 :: (List.replicate (zs n) 0 ++ be8 (8 * n))
theorem tail_len (n : Nat) : (tail n).length = zs n + 9 := by simp [tail, be8]
def outB (v : List Nat) : List UInt8 := (List.range 32).map fun i => (v.getD (i / 4) 0 / 2 ^ (24 - i % 4 * 8)).toUInt8
/-- The hash of a text. -/
def sum (b : List UInt8) : List UInt8 := outB (comp ((b.length + 9 + zs b.length) / 64) H0 (b ++ tail b.length)).list
theorem sum_len (b : List UInt8) : (sum b).length = 32 := by simp [sum, outB]
theorem whole (n : Nat) : 64 * ((n + 9 + zs n) / 64) = n + 9 + zs n := by unfold zs; omega
theorem words_len (b : List UInt8) (n : Nat) : (words b n).length = n := by
  induction n with
  | zero => rfl
  | succ n ih => rw [words, List.length_append, ih]; rfl
theorem more_len (n : Nat) (l : List Nat) : (more n l).length = l.length + n := by
  induction n with
  | zero => rfl
  | succ n ih => rw [more, List.length_append, ih]; rfl
theorem abc : sum [97, 98, 99] = [186, 120, 22, 191, 143, 1, 207, 234, 65, 65, 64, 222, 93, 174, 34, 35, 176, 3, 97, 163, 150, 23, 122, 156, 180, 16, 255, 97, 242, 0, 21, 173] := by decide +kernel
/-! ### The words of roots -/
/-- Has n (below 400) no divisor? -/
def prime (n : Nat) : Bool := (List.range 18).all fun k => decide (n < (k + 2) * (k + 2)) || n % (k + 2) != 0
def leastF (p : Nat → Bool) : Nat → Nat → Nat
  | 0, x => x
  | n + 1, x => leastF p n (if p (x ||| 2 ^ n) then x ||| 2 ^ n else x)
def sqF (n x : Nat) : Bool := decide (x * x / 18446744073709551616 < n) || (x * x / 18446744073709551616 == n && x * x % 18446744073709551616 == 0)
def cuF (n x : Nat) : Bool :=
  let hi := x * x / 18446744073709551616
  let lo := x * x % 18446744073709551616
  let sum := (lo * x / 18446744073709551616 + hi * x % 18446744073709551616) % 18446744073709551616
  let top := n * 4294967296 % 18446744073709551616
  decide (sum < top) || (sum == top && lo * x % 18446744073709551616 == 0)
def P : List Nat := [2, 3, 5, 7, 11, 13, 17, 19, 23, 29, 31, 37, 41, 43, 47, 53, 59, 61, 67, 71, 73, 79, 83, 89, 97, 101, 103, 107, 109, 113, 127, 131, 137, 139, 149, 151, 157, 163, 167, 173, 179, 181, 191, 193, 197, 199, 211, 223, 227, 229, 233, 239, 241, 251, 257, 263, 269, 271, 277, 281, 283, 293, 307, 311]
/-- The prime ahead of the i-th. -/
def lo (i : Nat) : Nat := (1 :: P).getD i 0
def chk (i : Nat) : Bool :=
  prime (P.getD i 0) && decide (leastF (cuF (P.getD i 0)) 37 0 % 4294967296 = K.getD i 0) && (decide (8 ≤ i) || decide (leastF (sqF (P.getD i 0)) 37 0 % 4294967296 = H.getD i 0)) && (List.range (P.getD i 0 - lo i - 1)).all (fun k => !prime (lo i + 1 + k)) && decide (lo i < P.getD i 0) && decide (P.getD i 0 < 312) && decide (lo (i + 1) = P.getD i 0)
theorem chk_all : (List.range 64).all chk = true := by decide +kernel
theorem chk_at {i : Nat} (h : i < 64) : chk i = true := List.all_eq_true.1 chk_all i (List.mem_range.2 h)
theorem facts {i : Nat} (h : i < 64) : prime (P.getD i 0) = true ∧ leastF (cuF (P.getD i 0)) 37 0 % 4294967296 = K.getD i 0 ∧ (i < 8 → leastF (sqF (P.getD i 0)) 37 0 % 4294967296 = H.getD i 0) ∧
    (∀ n, lo i < n → n < P.getD i 0 → prime n = false) ∧ lo i < P.getD i 0 ∧ P.getD i 0 < 312 ∧ lo (i + 1) = P.getD i 0 := by
  have hc := chk_at h
  unfold chk at hc
  simp only [Bool.and_eq_true, Bool.or_eq_true, decide_eq_true_eq, List.all_eq_true, List.mem_range, Bool.not_eq_true'] at hc
  obtain ⟨⟨⟨⟨⟨⟨h1, h2⟩, h3⟩, h4⟩, h5⟩, h6⟩, h7⟩ := hc
  refine ⟨h1, h2, fun h8 => h3.resolve_left (by omega), fun n hl hn => ?_, h5, h6, h7⟩
  have := h4 (n - lo i - 1) (by omega)
  rwa [show lo i + 1 + (n - lo i - 1) = n by omega] at this
end Sha
end Go.Proofs.Ytepcbnkhfiphdaa
