/- Chunks of layer 5 (chunker) as plain relations on lists. Plain definitions and theorems, no program; conditions: each theorem's premises. -/
import Derived.Test.YtognkonncfjneaaDoorGearSpec
import Derived.Test.YtognkonncfjneaaDoorMaskSpec
namespace Go.Proofs.YtognkonncfjneaaDoor
namespace Ch
/-- The first number from i on, of N, with a property. -/
def first (p : Nat → Bool) : Nat → Nat → Option Nat
  | 0, _ => none
  | N + 1, i => if p i then some i else first p N (i + 1)
theorem first_of (p : Nat → Bool) : ∀ (N i n : Nat), i ≤ n → n < i + N → p n = true → (∀ j, i ≤ j → j < n → p j = false) → first p N i = some n
  | 0, i, n, h1, h2, _, _ => by omega
  | N + 1, i, n, h1, h2, h3, h4 => by
    unfold first
    rcases Nat.eq_or_lt_of_le h1 with e | e
    · subst e; rw [if_pos h3]
    · rw [if_neg (by rw [h4 i (Nat.le_refl _) e]; exact Bool.false_ne_true)]
      exact first_of p N (i + 1) n e (by omega) h3 (fun j hj hn => h4 j (by omega) hn)
theorem first_none_of (p : Nat → Bool) : ∀ (N i : Nat), (∀ j, i ≤ j → j < i + N → p j = false) → first p N i = none
  | 0, _, _ => rfl
  | N + 1, i, h => by
    unfold first
    rw [if_neg (by rw [h i (Nat.le_refl _) (by omega)]; exact Bool.false_ne_true)]
    exact first_none_of p N (i + 1) (fun j hj hn => h j (by omega) (by omega))
theorem first_some (p : Nat → Bool) : ∀ (N i n : Nat), first p N i = some n → i ≤ n ∧ n < i + N ∧ p n = true ∧ ∀ j, i ≤ j → j < n → p j = false
  | 0, i, n, h => by cases h
  | N + 1, i, n, h => by
    unfold first at h
    by_cases hp : p i = true
    · rw [if_pos hp] at h
      injection h with h
      subst h
      exact ⟨Nat.le_refl _, by omega, hp, fun j h1 h2 => by omega⟩
    · rw [if_neg hp] at h
      obtain ⟨h1, h2, h3, h4⟩ := first_some p N (i + 1) n h
      refine ⟨by omega, by omega, h3, fun j hj hn => ?_⟩
      rcases Nat.eq_or_lt_of_le hj with e | e
      · subst e; simpa using hp
      · exact h4 j e hn
theorem first_none (p : Nat → Bool) (N i : Nat) (h : first p N i = none) (j : Nat) (h1 : i ≤ j) (h2 : j < i + N) : p j = false := by
  induction N generalizing i with
  | zero => omega
  | succ N ih =>
    unfold first at h
    by_cases hp : p i = true
    · rw [if_pos hp] at h; cases h
    · rw [if_neg hp] at h
      rcases Nat.eq_or_lt_of_le h1 with e | e
      · subst e; simpa using hp
      · exact ih (i + 1) h e (by omega)
/-- A rule, right: its seed, least, exponent of the mean, most. -/
structure Rule where
  seed : Nat
  mn : Nat
  k : Nat
  mx : Nat
  few : seed < Gear.M
  h1 : 1 ≤ mn
  h2 : mn ≤ 2 ^ k
  h3 : 2 ^ k ≤ mx
  h4 : mx ≤ 4096
  hk : k < 13
def stopB (r : Rule) (b : List UInt8) (n : Nat) : Bool := n == r.mx || (decide (r.mn ≤ n) && (Gear.hash r.seed (b.take n) &&& Gear.maskK r.k == 0))
def cutS (r : Rule) (b : List UInt8) : Option Nat := first (stopB r b) b.length 1
section
variable {r : Rule} {b c x : List UInt8} {n : Nat}
theorem cut_of (h1 : 1 ≤ n) (h2 : n ≤ b.length) (h3 : stopB r b n = true) (h4 : ∀ j, 1 ≤ j → j < n → stopB r b j = false) : cutS r b = some n := first_of _ _ _ _ h1 (by omega) h3 h4
theorem cut_none_of (h : ∀ j, 1 ≤ j → j ≤ b.length → stopB r b j = false) : cutS r b = none := first_none_of _ _ _ (fun j h1 h2 => h j h1 (by omega))
theorem cut_some (h : cutS r b = some n) : 1 ≤ n ∧ n ≤ b.length ∧ stopB r b n = true ∧ ∀ j, 1 ≤ j → j < n → stopB r b j = false := by
  obtain ⟨h1, h2, h3, h4⟩ := first_some _ _ _ _ h
  exact ⟨h1, by omega, h3, h4⟩
theorem cut_none (h : cutS r b = none) {j : Nat} (h1 : 1 ≤ j) (h2 : j ≤ b.length) : stopB r b j = false := first_none _ _ _ h j h1 (by omega)
theorem stop_append (h : n ≤ b.length) : stopB r (b ++ c) n = stopB r b n := by
  unfold stopB
  rw [List.take_append_of_le_length h]
theorem cut_append (h : cutS r b = some n) : cutS r (b ++ c) = some n := by
  obtain ⟨h1, h2, h3, h4⟩ := cut_some h
  exact cut_of h1 (by rw [List.length_append]; omega) (by rw [stop_append h2]; exact h3) (fun j hj hn => by rw [stop_append (by omega)]; exact h4 j hj hn)
theorem cut_nil : cutS r [] = none := rfl
/-- A chunk has at most mx bytes. -/
theorem cut_le (h : cutS r b = some n) : n ≤ r.mx := by
  obtain ⟨h1, h2, h3, h4⟩ := cut_some h
  rcases Nat.lt_or_ge r.mx n with hlt | hge
  · have := h4 r.mx (by have := r.h1; have := r.h2; have := r.h3; omega) hlt
    simp [stopB] at this
  · exact hge
theorem cut_ge (h : cutS r b = some n) : r.mn ≤ n := by
  obtain ⟨h1, h2, h3, h4⟩ := cut_some h
  have a := r.h2
  have c := r.h3
  unfold stopB at h3
  simp at h3
  rcases h3 with h3 | h3
  · omega
  · exact h3.1
theorem none_le (h : cutS r b = none) : b.length < r.mx := by
  rcases Nat.lt_or_ge b.length r.mx with hlt | hge
  · exact hlt
  · have := cut_none h (j := r.mx) (by have := r.h1; have := r.h2; have := r.h3; omega) hge
    simp [stopB] at this
end
/-- The chunks that are sure, and what is left. -/
inductive Sure (r : Rule) : List UInt8 → List (List UInt8) → List UInt8 → Prop
  | stop {b : List UInt8} (h : cutS r b = none) : Sure r b [] b
  | more {b x : List UInt8} {l : List (List UInt8)} {n : Nat} (h : cutS r b = some n) (hs : Sure r (b.drop n) l x) : Sure r b (b.take n :: l) x
section
variable {r : Rule} {b c x y : List UInt8} {l m : List (List UInt8)}
theorem Sure.uniq (h : Sure r b l x) : ∀ {m y}, Sure r b m y → l = m ∧ x = y := by
  induction h with
  | stop h =>
    intro m y h'
    cases h' with
    | stop _ => exact ⟨rfl, rfl⟩
    | more h2 _ => rw [h] at h2; cases h2
  | more h _ ih =>
    intro m y h'
    cases h' with
    | stop h2 => rw [h] at h2; cases h2
    | more h2 hs =>
      rw [h] at h2
      injection h2 with h2
      subst h2
      obtain ⟨e1, e2⟩ := ih hs
      exact ⟨by rw [e1], e2⟩
theorem Sure.rest (h : Sure r b l x) : cutS r x = none := by
  induction h with
  | stop h => exact h
  | more _ _ ih => exact ih
theorem Sure.flat (h : Sure r b l x) : l.flatten ++ x = b := by
  induction h with
  | stop _ => rfl
  | more _ _ ih => rw [List.flatten_cons, List.append_assoc, ih, List.take_append_drop]
theorem Sure.sizes (h : Sure r b l x) : ∀ c ∈ l, r.mn ≤ c.length ∧ c.length ≤ r.mx := by
  induction h with
  | stop _ => intro c hc; cases hc
  | more h _ ih =>
    intro c hc
    obtain ⟨_, h2, _, _⟩ := cut_some h
    rcases List.mem_cons.1 hc with e | e
    · subst e
      rw [List.length_take, Nat.min_eq_left h2]
      exact ⟨cut_ge h, cut_le h⟩
    · exact ih c e
/-- What comes behind. -/
theorem Sure.append (h : Sure r b l x) : ∀ {m y}, Sure r (x ++ c) m y → Sure r (b ++ c) (l ++ m) y := by
  induction h with
  | stop _ => exact fun h => h
  | more h _ ih =>
    intro m y h'
    obtain ⟨_, h2, _, _⟩ := cut_some h
    have e := Sure.more (cut_append (c := c) h) (by rw [List.drop_append_of_le_length h2]; exact ih h')
    rw [List.take_append_of_le_length h2] at e
    exact e
theorem Sure.total (r : Rule) : ∀ (N : Nat) (b : List UInt8), b.length ≤ N → ∃ l x, Sure r b l x
  | 0, b, h => by
    obtain rfl : b = [] := List.eq_nil_of_length_eq_zero (by omega)
    exact ⟨_, _, .stop cut_nil⟩
  | N + 1, b, h => by
    cases hc : cutS r b with
    | none => exact ⟨_, _, .stop hc⟩
    | some n =>
      obtain ⟨h1, _⟩ := cut_some hc
      obtain ⟨l, x, hs⟩ := Sure.total r N (b.drop n) (by rw [List.length_drop]; omega)
      exact ⟨_, _, .more hc hs⟩
/-- What is left, as chunks. -/
def last (x : List UInt8) : List (List UInt8) := if x = [] then [] else [x]
/-- All chunks. -/
def SplitS (r : Rule) (b : List UInt8) (m : List (List UInt8)) : Prop := ∃ l x, Sure r b l x ∧ m = l ++ last x
theorem SplitS.uniq (h : SplitS r b l) (h' : SplitS r b m) : l = m := by
  obtain ⟨l1, x1, s1, rfl⟩ := h
  obtain ⟨l2, x2, s2, rfl⟩ := h'
  obtain ⟨rfl, rfl⟩ := s1.uniq s2
  rfl
theorem last_flat (x : List UInt8) : (last x).flatten = x := by unfold last; split <;> simp_all
theorem SplitS.flat (h : SplitS r b l) : l.flatten = b := by
  obtain ⟨l1, x1, s1, rfl⟩ := h
  rw [List.flatten_append, last_flat, s1.flat]
theorem SplitS.nil : SplitS r [] [] := ⟨[], [], .stop cut_nil, rfl⟩
theorem SplitS.nil_eq (h : SplitS r [] l) : l = [] := h.uniq .nil
theorem SplitS.more {n : Nat} (h : cutS r b = some n) (hs : SplitS r (b.drop n) l) : SplitS r b (b.take n :: l) := by
  obtain ⟨l1, x1, s1, rfl⟩ := hs
  exact ⟨_, _, .more h s1, rfl⟩
theorem SplitS.rest (h : cutS r b = none) (hb : b ≠ []) : SplitS r b [b] := ⟨[], b, .stop h, by simp [last, hb]⟩
/-- Behind the end of a chunk. -/
theorem SplitS.tail (h : SplitS r b l) (i : Nat) (hi : i ≤ l.length) : SplitS r (b.drop (l.take i).flatten.length) (l.drop i) := by
  obtain ⟨l1, x1, s1, rfl⟩ := h
  induction s1 generalizing i with
  | @stop b h =>
    unfold last at *
    by_cases hb : b = []
    · subst hb
      simp at hi ⊢
      subst hi
      exact .nil
    · simp [hb] at hi ⊢
      rcases Nat.eq_zero_or_pos i with e | e
      · subst e; simpa using SplitS.rest h hb
      · obtain rfl : i = 1 := by omega
        simpa using SplitS.nil
  | @more b x l n h s ih =>
    rcases Nat.eq_zero_or_pos i with e | e
    · subst e
      have h0 : SplitS r b (b.take n :: l ++ last x) := ⟨_, _, Sure.more h s, rfl⟩
      rw [List.take_zero, List.flatten_nil, List.length_nil, List.drop_zero, List.drop_zero]
      exact h0
    · obtain ⟨j, rfl⟩ : ∃ j, i = j + 1 := ⟨i - 1, by omega⟩
      obtain ⟨_, h2, _, _⟩ := cut_some h
      have := ih j (by simp at hi ⊢; omega)
      rw [List.drop_drop] at this
      simpa [Nat.min_eq_left h2] using this
theorem SplitS.sizes (h : SplitS r b l) : ∀ i c, l[i]? = some c → 1 ≤ c.length ∧ c.length ≤ r.mx ∧ (i + 1 < l.length → r.mn ≤ c.length) := by
  obtain ⟨l1, x1, s1, rfl⟩ := h
  intro i c hc
  have a := r.h1
  rcases Nat.lt_or_ge i l1.length with hi | hi
  · rw [List.getElem?_append_left hi] at hc
    have := s1.sizes c (List.mem_of_getElem? hc)
    exact ⟨by omega, this.2, fun _ => this.1⟩
  · rw [List.getElem?_append_right hi] at hc
    unfold last at *
    by_cases hx : x1 = []
    · simp [hx] at hc
    · simp only [hx, if_false] at hc ⊢
      rcases Nat.eq_zero_or_pos (i - l1.length) with e | e
      · rw [e] at hc
        simp at hc
        subst hc
        have h0 : 0 < x1.length := List.length_pos_iff.2 hx
        have := none_le s1.rest
        refine ⟨h0, by omega, fun hl => ?_⟩
        simp at hl
        omega
      · rw [List.getElem?_eq_none (by simp; omega)] at hc
        cases hc
end
end Ch
end Go.Proofs.YtognkonncfjneaaDoor
