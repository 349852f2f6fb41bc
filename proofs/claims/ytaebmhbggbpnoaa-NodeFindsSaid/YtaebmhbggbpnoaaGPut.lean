/- The form of a value of layer 1 as plain data, and what reading a form gives. Plain definitions and theorems, no program; conditions: each theorem's premises. -/
import Derived.Test.YtaebmhbggbpnoaaTlvSpec
import Derived.Lib.BitFns
namespace Go.Proofs.Ytaebmhbggbpnoaa
/-- A number as bytes, the highest first, none for 0. -/
def numE (n : Nat) : List UInt8 := if n = 0 then [] else numE (n / 256) ++ [UInt8.ofNat (n % 256)]
termination_by n
decreasing_by omega
theorem numE_zero : numE 0 = [] := by rw [numE]; simp
theorem numE_pos {n : Nat} (h : n ≠ 0) : numE n = numE (n / 256) ++ [UInt8.ofNat (n % 256)] := by rw [numE, if_neg h]
theorem bigE_append (a b : List UInt8) (c : UInt8) (h : b = [c]) : bigE (a ++ b) = bigE a * 256 + c.toNat := by rw [h, bigE_snoc]
theorem bigE_numE (n : Nat) : bigE (numE n) = n := by
  induction n using Nat.strongRecOn with
  | _ n ih =>
    by_cases h : n = 0
    · subst h; rw [numE_zero]; rfl
    · rw [numE_pos h, bigE_snoc, ih (n / 256) (by omega), UInt8.toNat_ofNat']
      omega
theorem numE_head (n : Nat) : numE n = [] ∨ (numE n).head? ≠ some 0 := by
  induction n using Nat.strongRecOn with
  | _ n ih =>
    by_cases h : n = 0
    · subst h; exact .inl numE_zero
    · right
      rw [numE_pos h]
      by_cases h2 : n / 256 = 0
      · rw [h2, numE_zero]
        simp only [List.nil_append, List.head?_cons, ne_eq, Option.some.injEq]
        intro e
        have := congrArg UInt8.toNat e
        rw [UInt8.toNat_ofNat'] at this
        simp at this
        omega
      · rcases ih (n / 256) (by omega) with h3 | h3
        · rw [numE_pos h2] at h3
          simp at h3
        · rw [List.head?_append]
          cases hh : (numE (n / 256)).head? with
          | none =>
            rw [List.head?_eq_none_iff] at hh
            rw [numE_pos h2] at hh
            simp at hh
          | some x => rw [hh] at h3; simpa using h3
theorem numE_bigE (b : List UInt8) (h : b = [] ∨ b.head? ≠ some 0) : numE (bigE b) = b := by
  have key : ∀ (k : Nat) (b : List UInt8), b.length = k → (b = [] ∨ b.head? ≠ some 0) → numE (bigE b) = b := by
    intro k
    induction k with
    | zero => intro b hb _; rw [List.length_eq_zero_iff] at hb; subst hb; exact numE_zero
    | succ k ih =>
      intro b hb h
      rcases List.eq_nil_or_concat b with rfl | ⟨a, c, rfl⟩
      · simp at hb
      · simp only [List.concat_eq_append] at hb h ⊢
        have ha : a.length = k := by simpa using hb
        have hc := c.toNat_lt
        rw [bigE_snoc]
        have hne : bigE a * 256 + c.toNat ≠ 0 := by
          intro e
          have e1 : bigE a = 0 := by omega
          have e2 : c.toNat = 0 := by omega
          cases a with
          | nil =>
            simp at h
            exact h (UInt8.toNat_inj.1 (by simpa using e2))
          | cons x xs =>
            have := ih (x :: xs) ha (.inr (by simpa using h))
            rw [e1, numE_zero] at this
            cases this
        rw [numE_pos hne, show (bigE a * 256 + c.toNat) / 256 = bigE a from by omega, show (bigE a * 256 + c.toNat) % 256 = c.toNat from by omega, UInt8.ofNat_toNat]
        rw [ih a ha (by
          cases a with
          | nil => exact .inl rfl
          | cons x xs => exact .inr (by simpa using h))]
  exact key _ b rfl h
theorem numE_len (n : Nat) (h : n < 18446744073709551616) : (Lib.bitLen n + 7) / 8 = (numE n).length := by
  induction n using Nat.strongRecOn with
  | _ n ih =>
    by_cases h0 : n = 0
    · subst h0; rw [numE_zero]; rfl
    · rw [numE_pos h0, List.length_append, ← ih (n / 256) (by omega) (by omega)]
      by_cases h1 : n < 256
      · have := Lib.bitLen_le8 ⟨n, h1⟩
        have h2 := Lib.bitLen_half n h0 h
        rw [show n / 256 = 0 from by omega]
        simp only at this
        have e0 : Lib.bitLen 0 = 0 := by rfl
        rw [e0]
        simp
        omega
      · rw [Lib.bitLen_shift8 n (by omega) h]
        simp
        omega
theorem numE_len8 (n : Nat) (h : n < 18446744073709551616) : (numE n).length ≤ 8 := by
  have key : ∀ (k n : Nat), n < 256 ^ k → (numE n).length ≤ k := by
    intro k
    induction k with
    | zero => intro n h; obtain rfl : n = 0 := by simp at h; omega
              rw [numE_zero]; simp
    | succ k ih =>
      intro n h
      by_cases h0 : n = 0
      · subst h0; rw [numE_zero]; simp
      · rw [numE_pos h0, List.length_append]
        have := ih (n / 256) (by rw [Nat.pow_succ] at h; omega)
        simp
        omega
  exact key 8 n (by simpa using h)
theorem numE_at (n k : Nat) (h : k < (numE n).length) : (numE n)[k]? = some (UInt8.ofNat (n / 256 ^ ((numE n).length - 1 - k))) := by
  induction n using Nat.strongRecOn generalizing k with
  | _ n ih =>
    by_cases h0 : n = 0
    · subst h0; rw [numE_zero] at h; simp at h
    · rw [numE_pos h0] at h ⊢
      simp only [List.length_append, List.length_cons, List.length_nil] at h ⊢
      by_cases hk : k < (numE (n / 256)).length
      · rw [List.getElem?_append_left hk, ih (n / 256) (by omega) k hk, Nat.div_div_eq_div_mul, show 256 * 256 ^ ((numE (n / 256)).length - 1 - k) = 256 ^ ((numE (n / 256)).length + 1 - 1 - k) from by
          rw [Nat.mul_comm, ← Nat.pow_succ]; congr 1; omega]
      · obtain rfl : k = (numE (n / 256)).length := by omega
        rw [List.getElem?_append_right (Nat.le_refl _)]
        simp
        apply UInt8.toNat_inj.1
        rw [UInt8.toNat_ofNat', UInt8.toNat_ofNat']
        omega
/-- Has a value no fields but those of its tag? -/
def onlyT : TV → Bool
  | .mk t n b l => if t = 1 then b.isEmpty && l.isEmpty else if t = 2 then n == 0 && l.isEmpty else if t = 3 then n == 0 && b.isEmpty else false
/-- The three bytes ahead of a body. -/
def headT (t : Int) (x : List UInt8) : List UInt8 := [UInt8.ofNat t.toNat, UInt8.ofNat (x.length / 256), UInt8.ofNat (x.length % 256)]
def formsT (f : TV → Option (List UInt8)) : List TV → Option (List UInt8)
  | [] => some []
  | v :: l => match f v with
    | none => none
    | some x => (formsT f l).map (x ++ ·)
def fitT (x : List UInt8) : Option (List UInt8) := if x.length ≤ 65535 then some x else none
/-- What is in a value's form, behind its head; none: it is not right. -/
def bodyT : Nat → TV → Option (List UInt8)
  | 0, .mk t n b l => if onlyT (.mk t n b l) = true ∧ t ≠ 3 then fitT (numE n ++ b) else none
  | d + 1, .mk t n b l => if onlyT (.mk t n b l) = true then (formsT (fun v => (bodyT d v).map fun x => headT v.tag x ++ x) l).bind fun y => fitT (numE n ++ b ++ y) else none
/-- A value's form. -/
def putT (d : Nat) (v : TV) : Option (List UInt8) := (bodyT d v).map fun x => headT v.tag x ++ x
theorem fitT_some {x y : List UInt8} (h : fitT x = some y) : x = y ∧ x.length ≤ 65535 := by
  unfold fitT at h
  split at h
  · injection h with h; exact ⟨h, by assumption⟩
  · cases h
theorem bodyT_only {d : Nat} {v : TV} {x : List UInt8} (h : bodyT d v = some x) : onlyT v = true ∧ x.length ≤ 65535 := by
  obtain ⟨t, n, b, l⟩ := v
  cases d with
  | zero =>
    unfold bodyT at h
    split at h
    · next h1 => obtain ⟨rfl, h2⟩ := fitT_some h; exact ⟨h1.1, h2⟩
    · cases h
  | succ d =>
    unfold bodyT at h
    split at h
    · next h1 =>
      rw [Option.bind_eq_some_iff] at h
      obtain ⟨y, _, h⟩ := h
      obtain ⟨rfl, h2⟩ := fitT_some h
      exact ⟨h1, h2⟩
    · cases h
theorem formsT_snoc (f : TV → Option (List UInt8)) (l : List TV) (v : TV) : formsT f (l ++ [v]) = (formsT f l).bind fun a => (f v).map fun b => a ++ b := by
  induction l with
  | nil => simp only [List.nil_append, formsT]; cases f v <;> simp
  | cons u l ih =>
    simp only [List.cons_append, formsT, ih]
    cases f u with
    | none => rfl
    | some x => cases formsT f l <;> cases f v <;> simp
theorem formsT_take {f : TV → Option (List UInt8)} {l : List TV} {y : List UInt8} (h : formsT f l = some y) (k : Nat) : ∃ x, formsT f (l.take k) = some x ∧ x.length ≤ y.length := by
  induction l generalizing y k with
  | nil => simp [formsT] at h; subst h; exact ⟨[], by simp [formsT], by simp⟩
  | cons u l ih =>
    cases k with
    | zero => exact ⟨[], rfl, by simp⟩
    | succ k =>
      simp only [formsT, List.take_succ_cons] at h ⊢
      cases hf : f u with
      | none => rw [hf] at h; cases h
      | some x =>
        rw [hf] at h
        simp only [Option.map_eq_some_iff] at h
        obtain ⟨a, ha, rfl⟩ := h
        obtain ⟨x', h1, h2⟩ := ih ha k
        exact ⟨x ++ x', by simp [h1], by simp; omega⟩
/-- The number that inner returns. -/
def innerI (d : Nat) (v : TV) : Int := match bodyT d v with
  | none => -1
  | some x => (x.length : Int)
theorem bodyT_succ (d : Nat) (t : Int) (n : Nat) (b : List UInt8) (l : List TV) : bodyT (d + 1) (.mk t n b l) = if onlyT (.mk t n b l) = true then (formsT (putT d) l).bind fun y => fitT (numE n ++ b ++ y) else none := rfl
theorem putT_some {d : Nat} {v : TV} {x : List UInt8} (h : bodyT d v = some x) : putT d v = some (headT v.tag x ++ x) := by unfold putT; rw [h]; rfl
theorem putT_none {d : Nat} {v : TV} (h : bodyT d v = none) : putT d v = none := by unfold putT; rw [h]; rfl
theorem innerI_some {d : Nat} {v : TV} {x : List UInt8} (h : bodyT d v = some x) : innerI d v = (x.length : Int) := by unfold innerI; rw [h]
theorem innerI_none {d : Nat} {v : TV} (h : bodyT d v = none) : innerI d v = -1 := by unfold innerI; rw [h]
theorem innerI_not {d : Nat} {v : TV} (h : onlyT v = false) : innerI d v = -1 := by
  cases hb : bodyT d v with
  | none => exact innerI_none hb
  | some x => rw [(bodyT_only hb).1] at h; cases h
theorem innerI_zero3 {t : Int} {n : Nat} {b : List UInt8} {l : List TV} (h : t = 3) : innerI 0 (.mk t n b l) = -1 := innerI_none (by unfold bodyT; rw [if_neg (fun e => e.2 h)])
theorem innerI_zero {t : Int} {n : Nat} {b : List UInt8} {l : List TV} (ho : onlyT (.mk t n b l) = true) (h : t ≠ 3) : innerI 0 (.mk t n b l) = if 65535 < (numE n).length + b.length then -1 else (((numE n).length + b.length : Nat) : Int) := by
  have e : bodyT 0 (.mk t n b l) = fitT (numE n ++ b) := by unfold bodyT; rw [if_pos ⟨ho, h⟩]
  unfold innerI fitT at *
  rw [e]
  by_cases hc : (numE n ++ b).length ≤ 65535
  · rw [if_pos hc]; simp at hc; simp [show ¬ 65535 < (numE n).length + b.length from by omega]
  · rw [if_neg hc]; simp at hc; simp [hc]
theorem innerI_stop {d k : Nat} {t : Int} {n : Nat} {b : List UInt8} {l : List TV} (h : ∀ x, formsT (putT d) (l.take k) = some x → 65535 < (numE n).length + b.length + x.length) : innerI (d + 1) (.mk t n b l) = -1 := by
  refine innerI_none ?_
  rw [bodyT_succ]
  split
  · cases hf : formsT (putT d) l with
    | none => rfl
    | some y =>
      obtain ⟨x, h1, h2⟩ := formsT_take hf k
      have := h x h1
      simp only [Option.bind_some, fitT]
      rw [if_neg (by simp; omega)]
  · rfl
theorem innerI_full {d : Nat} {t : Int} {n : Nat} {b x : List UInt8} {l : List TV} (ho : onlyT (.mk t n b l) = true) (h : formsT (putT d) l = some x) : innerI (d + 1) (.mk t n b l) = if 65535 < (numE n).length + b.length + x.length then -1 else (((numE n).length + b.length + x.length : Nat) : Int) := by
  have e : bodyT (d + 1) (.mk t n b l) = fitT (numE n ++ b ++ x) := by rw [bodyT_succ, if_pos ho, h]; rfl
  unfold innerI fitT at *
  rw [e]
  by_cases hc : (numE n ++ b ++ x).length ≤ 65535
  · rw [if_pos hc]; simp at hc; simp [show ¬ 65535 < (numE n).length + b.length + x.length from by omega]; omega
  · rw [if_neg hc]; simp at hc; simp [show 65535 < (numE n).length + b.length + x.length from by omega]
end Go.Proofs.Ytaebmhbggbpnoaa
namespace Go.Proofs.Ytaebmhbggbpnoaa
/-- All numbers are of 64 bits. -/
inductive OkT : TV → Prop
  | mk {t : Int} {n : Nat} {b : List UInt8} {l : List TV} (h : n < 18446744073709551616) (hl : ∀ (i : Nat) (v : TV), l[i]? = some v → OkT v) : OkT (.mk t n b l)
theorem OkT.num {t : Int} {n : Nat} {b : List UInt8} {l : List TV} (h : OkT (.mk t n b l)) : n < 18446744073709551616 := by cases h; assumption
theorem OkT.mem {t : Int} {n : Nat} {b : List UInt8} {l : List TV} (h : OkT (.mk t n b l)) : ∀ v ∈ l, OkT v := by
  cases h with
  | mk _ hl =>
    intro v hv
    obtain ⟨i, hi, rfl⟩ := List.getElem_of_mem hv
    exact hl i _ (List.getElem?_eq_getElem hi)
theorem only_tag' {v : TV} (h : onlyT v = true) : v.tag = 1 ∨ v.tag = 2 ∨ v.tag = 3 := by
  obtain ⟨t, n, b, l⟩ := v
  simp only [onlyT] at h
  simp only [TV.tag]
  split at h
  · omega
  · split at h
    · omega
    · split at h
      · omega
      · cases h
theorem split_head (t : Int) (x rest : List UInt8) (ht : t = 1 ∨ t = 2 ∨ t = 3) (hx : x.length ≤ 65535) : splitT (headT t x ++ x ++ rest) = some (t.toNat, x, rest) := by
  have e1 : (UInt8.ofNat (x.length / 256)).toNat * 256 + (UInt8.ofNat (x.length % 256)).toNat = x.length := by
    rw [UInt8.toNat_ofNat', UInt8.toNat_ofNat']; omega
  have e2 : (UInt8.ofNat t.toNat).toNat = t.toNat := by rw [UInt8.toNat_ofNat']; omega
  simp only [headT, splitT, List.cons_append, List.nil_append]
  rw [e1, e2, if_pos (by simp)]
  simp
theorem readAll_forms (rd : List UInt8 → Option (TV × List UInt8)) (f : TV → Option (List UInt8)) (l : List TV) (y : List UInt8) (h : formsT f l = some y)
    (hr : ∀ v ∈ l, ∀ x rest, f v = some x → x ≠ [] ∧ rd (x ++ rest) = some (v, rest)) : readAll rd y = some l := by
  induction l generalizing y with
  | nil => simp [formsT] at h; subst h; rw [readAll]
  | cons v l ih =>
    simp only [formsT] at h
    cases hf : f v with
    | none => rw [hf] at h; cases h
    | some x =>
      rw [hf] at h
      simp only [Option.map_eq_some_iff] at h
      obtain ⟨z, hz, rfl⟩ := h
      obtain ⟨hne, hrd⟩ := hr v (by simp) x z hf
      cases x with
      | nil => exact absurd rfl hne
      | cons c cs =>
        rw [List.cons_append] at hrd ⊢
        rw [readAll, hrd]
        simp only
        rw [if_pos (by simp; omega), ih z hz (fun v hv => hr v (by simp [hv]))]
        rfl
theorem readT_succ (d : Nat) (b : List UInt8) : readT (d + 1) b = match splitT b with
    | none => none
    | some (t, inn, rest) =>
      if t = 1 then (if inn.length ≤ 8 ∧ (inn = [] ∨ inn.head? ≠ some 0) then some (.mk 1 (bigE inn) [] [], rest) else none)
      else if t = 2 then some (.mk 2 0 inn [], rest)
      else if t = 3 then (readAll (readT d) inn).map fun l => (.mk 3 0 [] l, rest)
      else none := by
  rw [readT]
  cases splitT b <;> rfl
/-- What is put is read, whatever is behind it. -/
theorem read_put (d : Nat) : ∀ (v : TV) (x rest : List UInt8), OkT v → bodyT d v = some x → readT d (headT v.tag x ++ x ++ rest) = some (v, rest) := by
  induction d with
  | zero =>
    intro v x rest hok hb
    obtain ⟨t, n, b, l⟩ := v
    obtain ⟨ho, hx⟩ := bodyT_only hb
    have ht := only_tag' ho
    simp only [TV.tag] at ht ⊢
    rw [readT, split_head t x rest ht hx]
    simp only
    unfold bodyT at hb
    split at hb
    · next h1 =>
      obtain ⟨rfl, _⟩ := fitT_some hb
      simp only [onlyT] at ho
      rcases ht with rfl | rfl | rfl
      · simp at ho
        obtain ⟨rfl, rfl⟩ := ho
        simp only [List.append_nil]
        rw [if_pos (by decide), if_pos ⟨numE_len8 n hok.num, numE_head n⟩, bigE_numE]
      · simp at ho
        obtain ⟨rfl, rfl⟩ := ho
        rw [numE_zero]
        simp
      · exact absurd rfl h1.2
    · cases hb
  | succ d ih =>
    intro v x rest hok hb
    obtain ⟨t, n, b, l⟩ := v
    obtain ⟨ho, hx⟩ := bodyT_only hb
    have ht := only_tag' ho
    simp only [TV.tag] at ht ⊢
    rw [readT_succ, split_head t x rest ht hx]
    simp only
    rw [bodyT_succ, if_pos ho, Option.bind_eq_some_iff] at hb
    obtain ⟨y, hy, hb⟩ := hb
    obtain ⟨rfl, _⟩ := fitT_some hb
    simp only [onlyT] at ho
    rcases ht with rfl | rfl | rfl
    · simp at ho
      obtain ⟨rfl, rfl⟩ := ho
      simp only [formsT, Option.some.injEq] at hy
      subst hy
      simp only [List.append_nil]
      rw [if_pos (by decide), if_pos ⟨numE_len8 n hok.num, numE_head n⟩, bigE_numE]
    · simp at ho
      obtain ⟨rfl, rfl⟩ := ho
      simp only [formsT, Option.some.injEq] at hy
      subst hy
      rw [numE_zero]
      simp
    · simp at ho
      obtain ⟨rfl, rfl⟩ := ho
      rw [numE_zero]
      simp only [List.nil_append]
      rw [if_neg (by decide), if_neg (by decide), if_pos (by decide), readAll_forms (readT d) (putT d) l y hy]
      · rfl
      · intro v hv x rest hf
        unfold putT at hf
        simp only [Option.map_eq_some_iff] at hf
        obtain ⟨z, hz, rfl⟩ := hf
        exact ⟨by simp [headT], ih v z rest (hok.mem v hv) hz⟩
theorem split_back {b inn rest : List UInt8} {t : Nat} (h : splitT b = some (t, inn, rest)) : b = headT (t : Int) inn ++ inn ++ rest ∧ inn.length ≤ 65535 := by
  unfold splitT at h
  split at h
  · next tb hb lb r =>
    split at h
    · next hle =>
      simp only [Option.some.injEq, Prod.mk.injEq] at h
      obtain ⟨rfl, rfl, rfl⟩ := h
      have h1 := hb.toNat_lt
      have h2 := lb.toNat_lt
      have hlen : (r.take (hb.toNat * 256 + lb.toNat)).length = hb.toNat * 256 + lb.toNat := by rw [List.length_take]; omega
      refine ⟨?_, by omega⟩
      simp only [headT, hlen, List.cons_append, List.nil_append, Int.toNat_natCast, UInt8.ofNat_toNat, List.take_append_drop]
      rw [show (hb.toNat * 256 + lb.toNat) / 256 = hb.toNat from by omega, show (hb.toNat * 256 + lb.toNat) % 256 = lb.toNat from by omega, UInt8.ofNat_toNat, UInt8.ofNat_toNat]
    · cases h
  · cases h
theorem readAll_back (rd : List UInt8 → Option (TV × List UInt8)) (f : TV → Option (List UInt8)) (P : TV → Prop) (hr : ∀ b v rest, rd b = some (v, rest) → P v ∧ ∃ x, f v = some x ∧ b = x ++ rest) :
    ∀ (k : Nat) (b : List UInt8) (l : List TV), b.length ≤ k → readAll rd b = some l → formsT f l = some b ∧ ∀ v ∈ l, P v := by
  intro k
  induction k with
  | zero =>
    intro b l hk h
    obtain rfl : b = [] := List.eq_nil_of_length_eq_zero (by omega)
    rw [readAll] at h
    injection h with h
    subst h
    exact ⟨rfl, by simp⟩
  | succ k ih =>
    intro b l hk h
    cases b with
    | nil => rw [readAll] at h; injection h with h; subst h; exact ⟨rfl, by simp⟩
    | cons c cs =>
      rw [readAll] at h
      cases hd : rd (c :: cs) with
      | none => rw [hd] at h; cases h
      | some p =>
        obtain ⟨v, rest⟩ := p
        rw [hd] at h
        simp only at h
        split at h
        · next hlt =>
          simp only [Option.map_eq_some_iff] at h
          obtain ⟨l', h1, rfl⟩ := h
          obtain ⟨hp, x, hx, he⟩ := hr _ _ _ hd
          obtain ⟨h2, h3⟩ := ih rest l' (by simp at hlt hk; omega) h1
          refine ⟨?_, ?_⟩
          · simp only [formsT, hx, h2, Option.map_some]
            rw [he]
          · intro u hu
            simp at hu
            rcases hu with rfl | hu
            · exact hp
            · exact h3 u hu
        · cases h
/-- What is read has the form that was read. -/
theorem put_read (d : Nat) : ∀ (b rest : List UInt8) (v : TV), readT d b = some (v, rest) → OkT v ∧ ∃ x, bodyT d v = some x ∧ b = headT v.tag x ++ x ++ rest := by
  have one : ∀ (d : Nat) (inn : List UInt8), inn.length ≤ 65535 → inn.length ≤ 8 ∧ (inn = [] ∨ inn.head? ≠ some 0) → OkT (.mk 1 (bigE inn) [] []) ∧ bodyT d (.mk 1 (bigE inn) [] []) = some inn := by
    intro d inn h1 h2
    refine ⟨.mk ?_ (by simp), ?_⟩
    · have := bigE_lt inn
      exact Nat.lt_of_lt_of_le this (Nat.le_trans (Nat.pow_le_pow_right (by omega) h2.1) (by decide))
    · cases d <;> simp [bodyT, onlyT, formsT, fitT, numE_bigE inn h2.2, h1]
  have two : ∀ (d : Nat) (inn : List UInt8), inn.length ≤ 65535 → OkT (.mk 2 0 inn []) ∧ bodyT d (.mk 2 0 inn []) = some inn := by
    intro d inn h1
    refine ⟨.mk (by decide) (by simp), ?_⟩
    cases d <;> simp [bodyT, onlyT, formsT, fitT, numE_zero, h1]
  induction d with
  | zero =>
    intro b rest v h
    rw [readT] at h
    cases hs : splitT b with
    | none => rw [hs] at h; cases h
    | some p =>
      obtain ⟨t, inn, r⟩ := p
      obtain ⟨hb, hl⟩ := split_back hs
      rw [hs] at h
      simp only at h
      split at h
      · next ht =>
        split at h
        · next hc =>
          simp only [Option.some.injEq, Prod.mk.injEq] at h
          obtain ⟨rfl, rfl⟩ := h
          subst ht
          exact ⟨(one 0 inn hl hc).1, inn, (one 0 inn hl hc).2, hb⟩
        · cases h
      · split at h
        · next ht =>
          simp only [Option.some.injEq, Prod.mk.injEq] at h
          obtain ⟨rfl, rfl⟩ := h
          subst ht
          exact ⟨(two 0 inn hl).1, inn, (two 0 inn hl).2, hb⟩
        · split at h <;> cases h
  | succ d ih =>
    intro b rest v h
    rw [readT_succ] at h
    cases hs : splitT b with
    | none => rw [hs] at h; cases h
    | some p =>
      obtain ⟨t, inn, r⟩ := p
      obtain ⟨hb, hl⟩ := split_back hs
      rw [hs] at h
      simp only at h
      split at h
      · next ht =>
        split at h
        · next hc =>
          simp only [Option.some.injEq, Prod.mk.injEq] at h
          obtain ⟨rfl, rfl⟩ := h
          subst ht
          exact ⟨(one (d + 1) inn hl hc).1, inn, (one (d + 1) inn hl hc).2, hb⟩
        · cases h
      · split at h
        · next ht =>
          simp only [Option.some.injEq, Prod.mk.injEq] at h
          obtain ⟨rfl, rfl⟩ := h
          subst ht
          exact ⟨(two (d + 1) inn hl).1, inn, (two (d + 1) inn hl).2, hb⟩
        · split at h
          · next ht =>
            simp only [Option.map_eq_some_iff, Prod.mk.injEq] at h
            obtain ⟨l, h1, rfl, rfl⟩ := h
            subst ht
            obtain ⟨h2, h3⟩ := readAll_back (readT d) (putT d) OkT (fun b v rest h => by
              obtain ⟨h4, x, h5, h6⟩ := ih b rest v h
              exact ⟨h4, headT v.tag x ++ x, putT_some h5, h6⟩) inn.length inn l (Nat.le_refl _) h1
            refine ⟨.mk (by decide) (fun i v hv => h3 v (List.mem_of_getElem? hv)), inn, ?_, hb⟩
            rw [bodyT_succ, if_pos (by simp [onlyT]), h2]
            simp [numE_zero, fitT, hl]
          · cases h
/-- No form begins another's. -/
theorem put_prefix {d : Nat} {u v : TV} {x y z : List UInt8} (hu : OkT u) (hv : OkT v) (hx : putT d u = some x) (hy : putT d v = some y) (h : y = x ++ z) : u = v ∧ z = [] := by
  unfold putT at hx hy
  simp only [Option.map_eq_some_iff] at hx hy
  obtain ⟨a, ha, rfl⟩ := hx
  obtain ⟨b, hb, rfl⟩ := hy
  have h1 := read_put d u a z hu ha
  have h2 := read_put d v b [] hv hb
  rw [List.append_nil, h, h1] at h2
  simp only [Option.some.injEq, Prod.mk.injEq] at h2
  exact h2
end Go.Proofs.Ytaebmhbggbpnoaa
