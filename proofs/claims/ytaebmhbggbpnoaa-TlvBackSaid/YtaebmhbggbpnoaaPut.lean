/- The form of a value of layer 1 as plain data, and what reading a form gives. Plain definitions and theorems, no program; conditions: each theorem's premises. -/
import Derived.Test.YtaebmhbggbpnoaaTlvSpec
import Derived.Lib.BitFns
namespace Go.Proofs.Ytaebmhbggbpnoaa
/-- A number as bytes, the highest first, none for 0. -/
def numE (n : Nat) : List UInt8 := if n = 0 then [] else numE (n / 256) ++ [UInt8.ofNat (n % 256)]
termination_by n
decreasing_by omega
theorem numE_zero : numE 0 = [] := by rw [numE]; simp
theorem numE_pos {n : Nat} (h : n ≠ 0) : numE n = numE (n / 256) ++ [UInt8.ofNat (n % 256)] := by rw [numE, if_neg h]
theorem bigE_append (a b : List UInt8) (c : UInt8) (h : b = [c]) : bigE (a ++ b) = bigE a * 256 + c.toNat := by rw [h, bigE_snoc]
theorem bigE_numE (n : Nat) : bigE (numE n) = n := by
  induction n using Nat.strongRecOn with
  | _ n ih =>
    by_cases h : n = 0
    · subst h; rw [numE_zero]; rfl
    · rw [numE_pos h, bigE_snoc, ih (n / 256) (by omega), UInt8.toNat_ofNat']
      omega
theorem numE_head (n : Nat) : numE n = [] ∨ (numE n).head? ≠ some 0 := by
  induction n using Nat.strongRecOn with
  | _ n ih =>
    by_cases h : n = 0
    · subst h; exact .inl numE_zero
    · right
      rw [numE_pos h]
      by_cases h2 : n / 256 = 0
      · rw [h2, numE_zero]
        simp only [List.nil_append, List.head?_cons, ne_eq, Option.some.injEq]
        intro e
        have := congrArg UInt8.toNat e
        rw [UInt8.toNat_ofNat'] at this
        simp at this
        omega
      · rcases ih (n / 256) (by omega) with h3 | h3
        · rw [numE_pos h2] at h3
          simp at h3
        · rw [List.head?_append]
          cases hh : (numE (n / 256)).head? with
          | none =>
            rw [List.head?_eq_none_iff] at hh
            rw [numE_pos h2] at hh
            simp at hh
          | some x => rw [hh] at h3; simpa using h3
theorem numE_bigE (b : List UInt8) (h : b = [] ∨ b.head? ≠ some 0) : numE (bigE b) = b := by
  have key : ∀ (k : Nat) (b : List UInt8), b.length = k → (b = [] ∨ b.head? ≠ some 0) → numE (bigE b) = b := by
    intro k
    induction k with
    | zero => intro b hb _; rw [List.length_eq_zero_iff] at hb; subst hb; exact numE_zero
    | succ k ih =>
      intro b hb h
      rcases List.eq_nil_or_concat b with rfl | ⟨a, c, rfl⟩
      · simp at hb
      · simp only [List.concat_eq_append] at hb h ⊢
        have ha : a.length = k := by simpa using hb
        have hc := c.toNat_lt
        rw [bigE_snoc]
        have hne : bigE a * 256 + c.toNat ≠ 0 := by
          intro e
          have e1 : bigE a = 0 := by omega
          have e2 : c.toNat = 0 := by omega
          cases a with
          | nil =>
            simp at h
            exact h (UInt8.toNat_inj.1 (by simpa using e2))
          | cons x xs =>
            have := ih (x :: xs) ha (.inr (by simpa using h))
            rw [e1, numE_zero] at this
            cases this
        rw [numE_pos hne, show (bigE a * 256 + c.toNat) / 256 = bigE a from by omega, show (bigE a * 256 + c.toNat) % 256 = c.toNat from by omega, UInt8.ofNat_toNat]
        rw [ih a ha (by
          cases a with
          | nil => exact .inl rfl
          | cons x xs => exact .inr (by simpa using h))]
  exact key _ b rfl h
theorem numE_len (n : Nat) (h : n < 18446744073709551616) : (Lib.bitLen n + 7) / 8 = (numE n).length := by
  induction n using Nat.strongRecOn with
  | _ n ih =>
    by_cases h0 : n = 0
    · subst h0; rw [numE_zero]; rfl
    · rw [numE_pos h0, List.length_append, ← ih (n / 256) (by omega) (by omega)]
      by_cases h1 : n < 256
      · have := Lib.bitLen_le8 ⟨n, h1⟩
        have h2 := Lib.bitLen_half n h0 h
        rw [show n / 256 = 0 from by omega]
        simp only at this
        have e0 : Lib.bitLen 0 = 0 := by rfl
        rw [e0]
        simp
        omega
      · rw [Lib.bitLen_shift8 n (by omega) h]
        simp
        omega
theorem numE_len8 (n : Nat) (h : n < 18446744073709551616) : (numE n).length ≤ 8 := by
  have key : ∀ (k n : Nat), n < 256 ^ k → (numE n).length ≤ k := by
    intro k
    induction k with
    | zero => intro n h; obtain rfl : n = 0 := by simp at h; omega
              rw [numE_zero]; simp
    | succ k ih =>
      intro n h
      by_cases h0 : n = 0
      · subst h0; rw [numE_zero]; simp
      · rw [numE_pos h0, List.length_append]
        have := ih (n / 256) (by rw [Nat.pow_succ] at h; omega)
        simp
        omega
  exact key 8 n (by simpa using h)
theorem numE_at (n k : Nat) (h : k < (numE n).length) : (numE n)[k]? = some (UInt8.ofNat (n / 256 ^ ((numE n).length - 1 - k))) := by
  induction n using Nat.strongRecOn generalizing k with
  | _ n ih =>
    by_cases h0 : n = 0
    · subst h0; rw [numE_zero] at h; simp at h
    · rw [numE_pos h0] at h ⊢
      simp only [List.length_append, List.length_cons, List.length_nil] at h ⊢
      by_cases hk : k < (numE (n / 256)).length
      · rw [List.getElem?_append_left hk, ih (n / 256) (by omega) k hk, Nat.div_div_eq_div_mul, show 256 * 256 ^ ((numE (n / 256)).length - 1 - k) = 256 ^ ((numE (n / 256)).length + 1 - 1 - k) from by
          rw [Nat.mul_comm, ← Nat.pow_succ]; congr 1; omega]
      · obtain rfl : k = (numE (n / 256)).length := by omega
        rw [List.getElem?_append_right (Nat.le_refl _)]
        simp
        apply UInt8.toNat_inj.1
        rw [UInt8.toNat_ofNat', UInt8.toNat_ofNat']
        omega
/-- Has a value no fields but those of its tag? -/
def onlyT : TV → Bool
  | .mk t n b l => if t = 1 then b.isEmpty && l.isEmpty else if t = 2 then n == 0 && l.isEmpty else if t = 3 then n == 0 && b.isEmpty else false
/-- The three bytes ahead of a body. -/
def headT (t : Int) (x : List UInt8) : List UInt8 := [UInt8.ofNat t.toNat, UInt8.ofNat (x.length / 256), UInt8.ofNat (x.length % 256)]
def formsT (f : TV → Option (List UInt8)) : List TV → Option (List UInt8)
  | [] => some []
  | v :: l => match f v with
    | none => none
    | some x => (formsT f l).map (x ++ ·)
def fitT (x : List UInt8) : Option (List UInt8) := if x.length ≤ 65535 then some x else none
/-- What is in a value's form, behind its head; none: it is not right. -/
def bodyT : Nat → TV → Option (List UInt8)
  | 0, .mk t n b l => if onlyT (.mk t n b l) = true ∧ t ≠ 3 then fitT (numE n ++ b) else none
  | d + 1, .mk t n b l => if onlyT (.mk t n b l) = true then (formsT (fun v => (bodyT d v).map fun x => headT v.tag x ++ x) l).bind fun y => fitT (numE n ++ b ++ y) else none
/-- A value's form. -/
def putT (d : Nat) (v : TV) : Option (List UInt8) := (bodyT d v).map fun x => headT v.tag x ++ x
theorem fitT_some {x y : List UInt8} (h : fitT x = some y) : x = y ∧ x.length ≤ 65535 := by
  unfold fitT at h
  split at h
  · injection h with h; exact ⟨h, by assumption⟩
  · cases h
theorem bodyT_only {d : Nat} {v : TV} {x : List UInt8} (h : bodyT d v = some x) : onlyT v = true ∧ x.length ≤ 65535 := by
  obtain ⟨t, n, b, l⟩ := v
  cases d with
  | zero =>
    unfold bodyT at h
    split at h
    · next h1 => obtain ⟨rfl, h2⟩ := fitT_some h; exact ⟨h1.1, h2⟩
    · cases h
  | succ d =>
    unfold bodyT at h
    split at h
    · next h1 =>
      rw [Option.bind_eq_some_iff] at h
      obtain ⟨y, _, h⟩ := h
      obtain ⟨rfl, h2⟩ := fitT_some h
      exact ⟨h1, h2⟩
    · cases h
theorem formsT_snoc (f : TV → Option (List UInt8)) (l : List TV) (v : TV) : formsT f (l ++ [v]) = (formsT f l).bind fun a => (f v).map fun b => a ++ b := by
  induction l with
  | nil => simp only [List.nil_append, formsT]; cases f v <;> simp
  | cons u l ih =>
    simp only [List.cons_append, formsT, ih]
    cases f u with
    | none => rfl
    | some x => cases formsT f l <;> cases f v <;> simp
theorem formsT_take {f : TV → Option (List UInt8)} {l : List TV} {y : List UInt8} (h : formsT f l = some y) (k : Nat) : ∃ x, formsT f (l.take k) = some x ∧ x.length ≤ y.length := by
  induction l generalizing y k with
  | nil => simp [formsT] at h; subst h; exact ⟨[], by simp [formsT], by simp⟩
  | cons u l ih =>
    cases k with
    | zero => exact ⟨[], rfl, by simp⟩
    | succ k =>
      simp only [formsT, List.take_succ_cons] at h ⊢
      cases hf : f u with
      | none => rw [hf] at h; cases h
      | some x =>
        rw [hf] at h
        simp only [Option.map_eq_some_iff] at h
        obtain ⟨a, ha, rfl⟩ := h
        obtain ⟨x', h1, h2⟩ := ih ha k
        exact ⟨x ++ x', by simp [h1], by simp; omega⟩
/-- The number that inner returns. -/
def innerI (d : Nat) (v : TV) : Int := match bodyT d v with
  | none => -1
  | some x => (x.length : Int)
theorem bodyT_succ (d : Nat) (t : Int) (n : Nat) (b : List UInt8) (l : List TV) : bodyT (d + 1) (.mk t n b l) = if onlyT (.mk t n b l) = true then (formsT (putT d) l).bind fun y => fitT (numE n ++ b ++ y) else none := rfl
theorem putT_some {d : Nat} {v : TV} {x : List UInt8} (h : bodyT d v = some x) : putT d v = some (headT v.tag x ++ x) := by unfold putT; rw [h]; rfl
theorem putT_none {d : Nat} {v : TV} (h : bodyT d v = none) : putT d v = none := by unfold putT; rw [h]; rfl
theorem innerI_some {d : Nat} {v : TV} {x : List UInt8} (h : bodyT d v = some x) : innerI d v = (x.length : Int) := by unfold innerI; rw [h]
theorem innerI_none {d : Nat} {v : TV} (h : bodyT d v = none) : innerI d v = -1 := by unfold innerI; rw [h]
theorem innerI_not {d : Nat} {v : TV} (h : onlyT v = false) : innerI d v = -1 := by
  cases hb : bodyT d v with
  | none => exact innerI_none hb
  | some x => rw [(bodyT_only hb).1] at h; cases h
theorem innerI_zero3 {t : Int} {n : Nat} {b : List UInt8} {l : List TV} (h : t = 3) : innerI 0 (.mk t n b l) = -1 := innerI_none (by unfold bodyT; rw [if_neg (fun e => e.2 h)])
theorem innerI_zero {t : Int} {n : Nat} {b : List UInt8} {l : List TV} (ho : onlyT (.mk t n b l) = true) (h : t ≠ 3) : innerI 0 (.mk t n b l) = if 65535 < (numE n).length + b.length then -1 else (((numE n).length + b.length : Nat) : Int) := by
  have e : bodyT 0 (.mk t n b l) = fitT (numE n ++ b) := by unfold bodyT; rw [if_pos ⟨ho, h⟩]
  unfold innerI fitT at *
  rw [e]
  by_cases hc : (numE n ++ b).length ≤ 65535
  · rw [if_pos hc]; simp at hc; simp [show ¬ 65535 < (numE n).length + b.length from by omega]
  · rw [if_neg hc]; simp at hc; simp [hc]
theorem innerI_stop {d k : Nat} {t : Int} {n : Nat} {b : List UInt8} {l : List TV} (h : ∀ x, formsT (putT d) (l.take k) = some x → 65535 < (numE n).length + b.length + x.length) : innerI (d + 1) (.mk t n b l) = -1 := by
  refine innerI_none ?_
  rw [bodyT_succ]
  split
  · cases hf : formsT (putT d) l with
    | none => rfl
    | some y =>
      obtain ⟨x, h1, h2⟩ := formsT_take hf k
      have := h x h1
      simp only [Option.bind_some, fitT]
      rw [if_neg (by simp; omega)]
  · rfl
theorem innerI_full {d : Nat} {t : Int} {n : Nat} {b x : List UInt8} {l : List TV} (ho : onlyT (.mk t n b l) = true) (h : formsT (putT d) l = some x) : innerI (d + 1) (.mk t n b l) = if 65535 < (numE n).length + b.length + x.length then -1 else (((numE n).length + b.length + x.length : Nat) : Int) := by
  have e : bodyT (d + 1) (.mk t n b l) = fitT (numE n ++ b ++ x) := by rw [bodyT_succ, if_pos ho, h]; rfl
  unfold innerI fitT at *
  rw [e]
  by_cases hc : (numE n ++ b ++ x).length ≤ 65535
  · rw [if_pos hc]; simp at hc; simp [show ¬ 65535 < (numE n).length + b.length + x.length from by omega]; omega
  · rw [if_neg hc]; simp at hc; simp [show 65535 < (numE n).length + b.length + x.length from by omega]
end Go.Proofs.Ytaebmhbggbpnoaa
