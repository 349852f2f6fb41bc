/- The walks of prime, least, squared, cubed (sha). Conditions: each theorem's premises. -/
import Derived.Test.YtepcbnkhfiphdaaSha1
import Derived.Test.YtepcbnkhfiphdaaShelf
namespace Go.Proofs.Ytepcbnkhfiphdaa
open Go.RowKit
theorem prime_yes {n : Nat} {k : Nat} (hk : n < (k + 2) * (k + 2)) (h : ∀ j, j < k → n % (j + 2) ≠ 0) : Sha.prime n = true := by
  unfold Sha.prime
  rw [List.all_eq_true]
  intro j _
  rcases Nat.lt_or_ge j k with hj | hj
  · have := h j hj
    simp [this]
  · have : (k + 2) * (k + 2) ≤ (j + 2) * (j + 2) := Nat.mul_le_mul (by omega) (by omega)
    simp only [Bool.or_eq_true, decide_eq_true_eq]
    exact .inl (by omega)
theorem prime_no {n k : Nat} (hk : (k + 2) * (k + 2) ≤ n) (h18 : k < 18) (h : n % (k + 2) = 0) : Sha.prime n = false := by
  unfold Sha.prime
  rw [List.all_eq_false]
  refine ⟨k, List.mem_range.2 h18, ?_⟩
  simp [h]
  omega
theorem prime_any (n : Nat) (hn : n < 312) (w : World) : Calls Try.prog 47 #[.int .u64 (n : Int)] w fun e w' => e = .returned (.bool (Sha.prime n)) ∧ w = w' := by
  go_enter Try.func47, Try.ntmps47
  go_wp2_with fail
  go_loop [3] (fun d => ∃ k : Nat, 2 ≤ k ∧ k ≤ 18 ∧ d = .int .u64 (k : Int) ∧ Hid (∀ j, j < k - 2 → n % (j + 2) ≠ 0)) (fun d => 100 - (intOf d).toNat)
  case atStart => exact ⟨2, by omega, by omega, rfl, Lib.hid (fun j hj => absurd hj (by omega))⟩
  case round =>
    obtain ⟨d, hd2, hd18, rfl, HP⟩ := hrel
    obtain ⟨k, hk⟩ : ∃ k, d = k + 2 := ⟨d - 2, by omega⟩
    have hmb : d * d ≤ 18 * 18 := Nat.mul_le_mul hd18 hd18
    have hm1 : IntKind.u64.wrap ((d : Int) * (d : Int)) = ((d * d : Nat) : Int) := by
      rw [show (d : Int) * (d : Int) = ((d * d : Nat) : Int) by simp, IntKind.wrap_u64]; omega
    rcases Nat.lt_or_ge n (d * d) with hlt | hge
    · have HY := Lib.hid (prime_yes (k := k) (by rw [← hk]; exact hlt) (fun j hj => HP.out j (by omega)))
      have hd : (n : Int) < IntKind.u64.wrap ((d : Int) * (d : Int)) := by rw [hm1]; omega
      clear hm1 hmb HP hlt hk
      go_wp2_with fail
      go_ret
      exact ⟨by rw [HY.out]; rfl, rfl⟩
    · have hk16 : d < 18 := by
        rcases Nat.lt_or_ge d 18 with h | h
        · omega
        · have : 18 * 18 ≤ d * d := Nat.mul_le_mul h h
          omega
      have hd : IntKind.u64.wrap ((d : Int) * (d : Int)) ≤ (n : Int) := by rw [hm1]; omega
      have em : ((n : Int) % (d : Int)) = ((n % d : Nat) : Int) := by simp
      by_cases h0 : n % d = 0
      · have HN := Lib.hid (prime_no (k := k) (n := n) (by rw [← hk]; exact hge) (by omega) (by rw [← hk]; exact h0))
        have HQ : ((n : Int) % (d : Int) == 0) = true := by rw [em, h0]; rfl
        clear hm1 hmb HP h0 em hge hk
        go_wp2_with fail
        go_ret
        exact ⟨by rw [HN.out]; rfl, rfl⟩
      · have HQ : ((n : Int) % (d : Int) == 0) = false := by rw [em]; simp; omega
        have HP' : Hid (∀ j, j < d + 1 - 2 → n % (j + 2) ≠ 0) := Lib.hid (fun j hj => by
          rcases Nat.lt_or_ge j k with h | h
          · exact HP.out j (by omega)
          · obtain rfl : j = k := by omega
            rw [← hk]
            exact h0)
        clear hm1 hmb HP h0 em hge hk
        go_wp2_with fail
        go_round
        case rel => exact ⟨d + 1, by omega, by omega, by go_num, HP'⟩
        case measure => simp [intOf]; omega
/-- The bits of least, one by one. -/
theorem leastF_lt (p : Nat → Bool) : ∀ (m x : Nat), x < 2 ^ 37 → m ≤ 37 → Sha.leastF p m x < 2 ^ 37
  | 0, _, h, _ => h
  | m + 1, x, h, hm => by
    unfold Sha.leastF
    refine leastF_lt p m _ ?_ (by omega)
    split
    · exact Nat.or_lt_two_pow h (Nat.pow_lt_pow_right (by omega) (by omega))
    · exact h
theorem least_any (F : FuncId) (cap : Array Value) (p : Nat → Bool) (w : World) (hE : ∀ args W, (callFunc F args).run Try.prog W = .ok (.enter F args) W)
    (hF : ∀ x : Nat, x < 2 ^ 37 → Calls Try.prog F (#[.int .u64 (x : Int)] ++ cap) w fun e w' => e = .returned (.bool (p x)) ∧ w = w') :
    Calls Try.prog 48 #[.func (.func F) #[] cap] w fun e w' => e = .returned (.int .u64 ((Sha.leastF p 37 0 : Nat) : Int)) ∧ w = w' := by
  have HF := Lib.hid hF
  clear hF
  go_enter Try.func48, Try.ntmps48
  go_wp2_with fail
  go_loop [2, 3] (fun v2 v3 => ∃ x b m : Nat, v2 = .int .u64 (x : Int) ∧ v3 = .int .u64 (b : Int) ∧ x < 137438953472 ∧ b < 137438953472 ∧ m ≤ 37 ∧ Hid (b = 2 ^ m / 2) ∧ Hid (Sha.leastF p m x = Sha.leastF p 37 0)) (fun _ v3 => (intOf v3).toNat)
  case atStart => exact ⟨0, 68719476736, 37, rfl, rfl, by omega, by omega, by omega, Lib.hid (by decide), Lib.hid rfl⟩
  case round =>
    obtain ⟨x, b, m, rfl, rfl, hx, hb, hm, HB, HL⟩ := hrel
    by_cases h0 : b = 0
    · have hm0 : m = 0 := by
        rcases Nat.eq_zero_or_pos m with h | h
        · exact h
        · obtain ⟨m, rfl⟩ : ∃ k, m = k + 1 := ⟨m - 1, by omega⟩
          have := HB.out
          rw [Nat.pow_succ] at this
          have := Nat.two_pow_pos m
          omega
      subst hm0
      subst h0
      have HY : Hid (x = Sha.leastF p 37 0) := Lib.hid HL.out
      go_wp2_with fail
      go_ret
      exact ⟨by rw [← HY.out]; rfl, rfl⟩
    · obtain ⟨m, rfl⟩ : ∃ k, m = k + 1 := ⟨m - 1, by
        rcases Nat.eq_zero_or_pos m with h | h
        · subst h; exact absurd HB.out h0
        · omega⟩
      have HB' : Hid (b = 2 ^ m) := Lib.hid (by rw [HB.out, Nat.pow_succ]; omega)
      have eo := u64_or_nat x b (by omega) (by omega)
      have hxb : (x ||| b) < 137438953472 := Nat.or_lt_two_pow (n := 37) hx hb
      have HC := Lib.hid (HF.out (x ||| b) hxb)
      have HH : Hid (b / 2 = 2 ^ m / 2) := Lib.hid (by rw [HB'.out])
      have hb1 : (0 : Int) < (b : Int) := by omega
      have hE : ((b : Int) / 2) = ((b / 2 : Nat) : Int) := by simp
      have HE := Lib.hid hE
      clear hE h0
      go_wp2_with fail
      refine HC.out.mono ?_
      rintro e w' ⟨rfl, rfl⟩
      have HL' : Hid (Sha.leastF p m (if p (x ||| b) then (x ||| b) else x) = Sha.leastF p 37 0) := Lib.hid (by rw [← HL.out, HB'.out]; rfl)
      cases hp : p (x ||| b) with
      | true =>
        rw [hp] at HL'
        have HL'' : Hid (Sha.leastF p m (x ||| b) = Sha.leastF p 37 0) := Lib.hid HL'.out
        clear HL'
        have HPT := Lib.hid hp
        clear hp
        go_wp2_with fail
        go_round
        case rel => exact ⟨x ||| b, b / 2, m, rfl, by rw [HE.out], hxb, by omega, by omega, HH, HL''⟩
        case measure => simp [intOf]; omega
      | false =>
        rw [hp] at HL'
        have HL'' : Hid (Sha.leastF p m x = Sha.leastF p 37 0) := Lib.hid HL'.out
        clear HL'
        have HPT := Lib.hid hp
        clear hp
        go_wp2_with fail
        go_round
        case rel => exact ⟨x, b / 2, m, rfl, by rw [HE.out], hx, by omega, by omega, HH, HL''⟩
        case measure => simp [intOf]; omega
theorem enter49 (args : Array Value) (W : World) : (callFunc 49 args).run Try.prog W = .ok (.enter 49 args) W := by simp [go_sem]
theorem enter51 (args : Array Value) (W : World) : (callFunc 51 args).run Try.prog W = .ok (.enter 51 args) W := by simp [go_sem]
theorem mul_any (x y hi lo : Nat) (hx : x < 18446744073709551616) (hy : y < 18446744073709551616) (h1 : hi = x * y / 18446744073709551616) (h2 : lo = x * y % 18446744073709551616) (w : World) :
    Calls Try.prog 58 #[.int .u64 (x : Int), .int .u64 (y : Int)] w fun e w' => e = .returned (.tuple #[.int .u64 (hi : Int), .int .u64 (lo : Int)]) ∧ w = w' := by
  refine (Try.bits_Mul64 x y hx hy w).mono ?_
  rintro e w' ⟨rfl, rfl⟩
  rw [h1, h2]
  exact ⟨rfl, rfl⟩
theorem sq_val (x n hi lo : Nat) (b : Bool) (h1 : hi = x * x / 18446744073709551616) (h2 : lo = x * x % 18446744073709551616) (hb : (decide (hi < n) || (hi == n && lo == 0)) = b) : Sha.sqF n x = b := by
  subst h1
  subst h2
  exact hb
theorem squared_any (x n : Nat) (hx : x < 137438953472) (hn : n < 312) (w : World) : Calls Try.prog 50 #[.int .u64 (x : Int), .int .u64 (n : Int)] w fun e w' => e = .returned (.bool (Sha.sqF n x)) ∧ w = w' := by
  obtain ⟨hi, h1⟩ : ∃ hi, hi = x * x / 18446744073709551616 := ⟨_, rfl⟩
  obtain ⟨lo, h2⟩ : ∃ lo, lo = x * x % 18446744073709551616 := ⟨_, rfl⟩
  have HM := Lib.hid (mul_any x x hi lo (by omega) (by omega) h1 h2)
  have HV := fun b => sq_val x n hi lo b h1 h2
  by_cases c1 : hi < n
  · have HY := Lib.hid (HV true (by simp [c1]))
    clear HV h1 h2
    go_enter Try.func50, Try.ntmps50
    go_wp2_with fail
    refine (HM.out _).mono ?_
    rintro e w' ⟨rfl, rfl⟩
    go_wp2_with fail
    go_ret
    exact ⟨by rw [HY.out]; rfl, rfl⟩
  · by_cases c2 : hi = n
    · by_cases c3 : lo = 0
      · have HY := Lib.hid (HV true (by simp [c2, c3]))
        clear HV h1 h2
        subst c2
        subst c3
        clear c1
        go_enter Try.func50, Try.ntmps50
        go_wp2_with fail
        refine (HM.out _).mono ?_
        rintro e w' ⟨rfl, rfl⟩
        go_wp2_with fail
        go_ret
        exact ⟨by rw [HY.out]; rfl, rfl⟩
      · have HY := Lib.hid (HV false (by simp [c2, c3]))
        have t3 : ((lo : Int) == 0) = false := by simp; omega
        clear HV h1 h2
        subst c2
        clear c1 c3
        go_enter Try.func50, Try.ntmps50
        go_wp2_with fail
        refine (HM.out _).mono ?_
        rintro e w' ⟨rfl, rfl⟩
        go_wp2_with fail
        go_ret
        exact ⟨by rw [HY.out]; rfl, rfl⟩
    · have HY := Lib.hid (HV false (by simp [c1, c2]))
      have t1 : decide (hi < n) = false := by simp; omega
      have t2 : ((hi : Int) == (n : Int)) = false := by simp; omega
      clear HV h1 h2 c1 c2
      go_enter Try.func50, Try.ntmps50
      go_wp2_with fail
      refine (HM.out _).mono ?_
      rintro e w' ⟨rfl, rfl⟩
      go_wp2_with fail
      go_ret
      exact ⟨by rw [HY.out]; rfl, rfl⟩
theorem cu_val (x n hi lo c low ca su : Nat) (b : Bool) (hn : n < 312) (h1 : hi = x * x / 18446744073709551616) (h2 : lo = x * x % 18446744073709551616)
    (h3 : c = lo * x / 18446744073709551616) (h4 : low = lo * x % 18446744073709551616) (h5 : ca = hi * x % 18446744073709551616) (h6 : su = (c + ca) % 18446744073709551616)
    (hb : (decide (su < n * 4294967296) || (su == n * 4294967296 && low == 0)) = b) : Sha.cuF n x = b := by
  subst h1 h2 h3 h4 h5 h6
  unfold Sha.cuF
  have e : n * 4294967296 % 18446744073709551616 = n * 4294967296 := Nat.mod_eq_of_lt (by omega)
  simp only [e]
  exact hb
theorem cubed_any (x n : Nat) (hx : x < 137438953472) (hn : n < 312) (w : World) : Calls Try.prog 52 #[.int .u64 (x : Int), .int .u64 (n : Int)] w fun e w' => e = .returned (.bool (Sha.cuF n x)) ∧ w = w' := by
  obtain ⟨hi, h1⟩ : ∃ hi, hi = x * x / 18446744073709551616 := ⟨_, rfl⟩
  obtain ⟨lo, h2⟩ : ∃ lo, lo = x * x % 18446744073709551616 := ⟨_, rfl⟩
  have hlo : lo < 18446744073709551616 := by omega
  have hhi : hi < 18446744073709551616 := by
    rw [h1]
    have : x * x ≤ 137438953472 * 137438953472 := Nat.mul_le_mul (by omega) (by omega)
    omega
  obtain ⟨c, h3⟩ : ∃ c, c = lo * x / 18446744073709551616 := ⟨_, rfl⟩
  obtain ⟨low, h4⟩ : ∃ low, low = lo * x % 18446744073709551616 := ⟨_, rfl⟩
  obtain ⟨ch, h5'⟩ : ∃ ch, ch = hi * x / 18446744073709551616 := ⟨_, rfl⟩
  obtain ⟨ca, h5⟩ : ∃ ca, ca = hi * x % 18446744073709551616 := ⟨_, rfl⟩
  obtain ⟨su, h6⟩ : ∃ su, su = (c + ca) % 18446744073709551616 := ⟨_, rfl⟩
  have HM := Lib.hid (mul_any x x hi lo (by omega) (by omega) h1 h2)
  have HM2 := Lib.hid (mul_any lo x c low hlo (by omega) h3 h4)
  have HM3 := Lib.hid (mul_any hi x ch ca hhi (by omega) h5' h5)
  have HV := fun b => cu_val x n hi lo c low ca su b hn h1 h2 h3 h4 h5 h6
  have es : IntKind.u64.wrap ((c : Int) + (ca : Int)) = (su : Int) := by rw [IntKind.wrap_u64]; omega
  have et : (n : Int) * 4294967296 % 18446744073709551616 = ((n * 4294967296 : Nat) : Int) := by omega
  have et2 : IntKind.u64.wrap ((n : Int) * 4294967296) = ((n * 4294967296 : Nat) : Int) := by rw [IntKind.wrap_u64]; omega
  have htl : n * 4294967296 < 18446744073709551616 := by omega
  clear h1 h2 h3 h4 h5 h5' h6
  obtain ⟨top, ht⟩ : ∃ top, top = n * 4294967296 := ⟨_, rfl⟩
  rw [← ht] at et et2 HV
  have HT := Lib.hid ht
  clear ht htl
  by_cases c1 : su < top
  · have HY := Lib.hid (HV true (by simp [c1]))
    clear HV
    go_enter Try.func52, Try.ntmps52
    go_wp2_with fail
    refine (HM.out _).mono ?_
    rintro e w' ⟨rfl, rfl⟩
    go_wp2_with fail
    refine (HM2.out _).mono ?_
    rintro e w' ⟨rfl, rfl⟩
    go_wp2_with fail
    refine (HM3.out _).mono ?_
    rintro e w' ⟨rfl, rfl⟩
    go_wp2_with fail
    go_ret
    exact ⟨by rw [HY.out]; rfl, rfl⟩
  · by_cases c2 : su = top
    · by_cases c3 : low = 0
      · have HY := Lib.hid (HV true (by simp [c2, c3]))
        clear HV
        subst c2
        subst c3
        clear c1
        go_enter Try.func52, Try.ntmps52
        go_wp2_with fail
        refine (HM.out _).mono ?_
        rintro e w' ⟨rfl, rfl⟩
        go_wp2_with fail
        refine (HM2.out _).mono ?_
        rintro e w' ⟨rfl, rfl⟩
        go_wp2_with fail
        refine (HM3.out _).mono ?_
        rintro e w' ⟨rfl, rfl⟩
        go_wp2_with fail
        go_ret
        exact ⟨by rw [HY.out]; rfl, rfl⟩
      · have HY := Lib.hid (HV false (by simp [c2, c3]))
        have t3 : ((low : Int) == 0) = false := by simp; omega
        clear HV
        subst c2
        clear c1 c3
        go_enter Try.func52, Try.ntmps52
        go_wp2_with fail
        refine (HM.out _).mono ?_
        rintro e w' ⟨rfl, rfl⟩
        go_wp2_with fail
        refine (HM2.out _).mono ?_
        rintro e w' ⟨rfl, rfl⟩
        go_wp2_with fail
        refine (HM3.out _).mono ?_
        rintro e w' ⟨rfl, rfl⟩
        go_wp2_with fail
        go_ret
        exact ⟨by rw [HY.out]; rfl, rfl⟩
    · have HY := Lib.hid (HV false (by simp [c1, c2]))
      have t1 : decide (su < top) = false := by simp; omega
      have t2 : ((su : Int) == (top : Int)) = false := by simp; omega
      clear HV c1 c2
      go_enter Try.func52, Try.ntmps52
      go_wp2_with fail
      refine (HM.out _).mono ?_
      rintro e w' ⟨rfl, rfl⟩
      go_wp2_with fail
      refine (HM2.out _).mono ?_
      rintro e w' ⟨rfl, rfl⟩
      go_wp2_with fail
      refine (HM3.out _).mono ?_
      rintro e w' ⟨rfl, rfl⟩
      go_wp2_with fail
      go_ret
      exact ⟨by rw [HY.out]; rfl, rfl⟩
end Go.Proofs.Ytepcbnkhfiphdaa
