/- Sorting entries by their names, without a program: what a stable rearrangement keeps, and when a part is sorted. Plain definitions and theorems; conditions: each theorem's premises. -/
import Derived.Test.YtaebmhbggbpnoaaGNd4
import Derived.Sort.Walk0
namespace Go.Proofs.Ytaebmhbggbpnoaa
/-- Does a name stand ahead of another one? -/
def kl (x y : EV) : Prop := x.name.toList < y.name.toList
instance (x y : EV) : Decidable (kl x y) := by unfold kl; exact inferInstance
theorem kl_cmp (x y : EV) : cmpS x.name y.name < 0 ↔ kl x y := by
  unfold cmpS kl
  rw [bytesLess_eq]
  by_cases h : x.name.toList < y.name.toList
  · simp [h]
  · simp only [h, decide_false, Bool.false_eq_true, if_false, iff_false]
    split <;> decide
theorem kl_irrefl (x : EV) : ¬ kl x x := List.lt_irrefl _
theorem kl_trans {x y z : EV} (h : kl x y) (h' : kl y z) : kl x z := List.lt_trans h h'
theorem kl_asymm {x y : EV} (h : kl x y) : ¬ kl y x := fun h' => kl_irrefl x (kl_trans h h')
theorem kle_trans {x y z : EV} (h : ¬ kl y x) (h' : ¬ kl z y) : ¬ kl z x := fun h2 => by
  rcases List.le_iff_lt_or_eq.1 (List.not_lt.1 h') with e | e
  · exact h (List.lt_trans e h2)
  · unfold kl at h h2
    rw [e] at h
    exact h h2
theorem kl_kle {x y z : EV} (h : kl x y) (h' : ¬ kl z y) : kl x z := by
  rcases List.le_iff_lt_or_eq.1 (List.not_lt.1 h') with e | e
  · exact List.lt_trans h e
  · unfold kl at h ⊢
    rw [e] at h
    exact h
theorem kle_kl {x y z : EV} (h : ¬ kl y x) (h' : kl y z) : kl x z := by
  rcases List.le_iff_lt_or_eq.1 (List.not_lt.1 h) with e | e
  · exact List.lt_trans e h'
  · unfold kl at h' ⊢
    rw [e]
    exact h'
theorem name_ext {x y : ByteArray} (h : x.toList = y.toList) : x = y := by
  have h1 : (x == y) = true := by rw [beq_toListBytes]; simpa using h
  have h2 : (x == y) = (x.data == y.data) := by cases x; cases y; rfl
  rw [h2] at h1
  have h3 := eq_of_beq h1
  cases x
  cases y
  simp only at h3
  rw [h3]
theorem kl_ne {x y : EV} (h : kl x y) : x.name ≠ y.name := fun e => by
  unfold kl at h
  rw [e] at h
  exact List.lt_irrefl _ h
theorem kle_eq {x y : EV} (h : ¬ kl x y) (h' : ¬ kl y x) : x.name = y.name := name_ext (by
  rcases List.le_iff_lt_or_eq.1 (List.not_lt.1 h) with e | e
  · exact absurd e h'
  · exact e.symm)
/-- Is a part sorted? -/
def Srt (a b : Nat) (L : List EV) : Prop := ∀ i j x y, a ≤ i → i < j → j < b → L[i]? = some x → L[j]? = some y → ¬ kl y x
theorem Srt.mono {a b a' b' : Nat} {L : List EV} (h : Srt a b L) (ha : a ≤ a') (hb : b' ≤ b) : Srt a' b' L := fun i j x y h1 h2 h3 => h i j x y (by omega) h2 (by omega)
theorem Srt.same {a b : Nat} {L L' : List EV} (h : Srt a b L) (he : ∀ i, a ≤ i → i < b → L'[i]? = L[i]?) : Srt a b L' := fun i j x y h1 h2 h3 hx hy => h i j x y h1 h2 h3 (by rw [← he i h1 (by omega)]; exact hx) (by rw [← he j (by omega) h3]; exact hy)
theorem Srt.le {a b : Nat} {L : List EV} (h : Srt a b L) {i j : Nat} {x y : EV} (h1 : a ≤ i) (h2 : i ≤ j) (h3 : j < b) (hx : L[i]? = some x) (hy : L[j]? = some y) : ¬ kl y x := by
  rcases Nat.lt_or_ge i j with hlt | hge
  · exact h i j x y h1 hlt h3 hx hy
  · obtain rfl : i = j := by omega
    rw [hx] at hy
    injection hy with hy
    subst hy
    exact kl_irrefl x
/-- A stable rearrangement of a part. -/
structure Sb (a b : Nat) (L L' : List EV) : Prop where
  len : L'.length = L.length
  out : ∀ i, i < a ∨ b ≤ i → L'[i]? = L[i]?
  inn : ∀ i, a ≤ i → i < b → ∃ j, a ≤ j ∧ j < b ∧ L'[i]? = L[j]?
  fil : ∀ k : ByteArray, L'.filter (fun e => decide (e.name = k)) = L.filter (fun e => decide (e.name = k))
theorem Sb.refl (a b : Nat) (L : List EV) : Sb a b L L := ⟨rfl, fun _ _ => rfl, fun i h h' => ⟨i, h, h', rfl⟩, fun _ => rfl⟩
theorem Sb.trans {a b : Nat} {L L' L'' : List EV} (h : Sb a b L L') (h' : Sb a b L' L'') : Sb a b L L'' :=
  ⟨h'.len.trans h.len, fun i hi => (h'.out i hi).trans (h.out i hi), fun i h1 h2 => by
    obtain ⟨j, j1, j2, e⟩ := h'.inn i h1 h2
    obtain ⟨k, k1, k2, e'⟩ := h.inn j j1 j2
    exact ⟨k, k1, k2, e.trans e'⟩, fun k => (h'.fil k).trans (h.fil k)⟩
theorem Sb.mono {a b a' b' : Nat} {L L' : List EV} (h : Sb a b L L') (ha : a' ≤ a) (hb : b ≤ b') : Sb a' b' L L' :=
  ⟨h.len, fun i hi => h.out i (by omega), fun i h1 h2 => by
    rcases Nat.lt_or_ge i a with h3 | h3
    · exact ⟨i, h1, h2, h.out i (.inl h3)⟩
    · rcases Nat.lt_or_ge i b with h4 | h4
      · obtain ⟨j, j1, j2, e⟩ := h.inn i h3 h4
        exact ⟨j, by omega, by omega, e⟩
      · exact ⟨i, h1, h2, h.out i (.inr h4)⟩, h.fil⟩
theorem Sb.ok {a b : Nat} {L L' : List EV} (h : Sb a b L L') (hL : ∀ e ∈ L, e.ok) : ∀ e ∈ L', e.ok := fun e he => by
  have h1 : e ∈ L'.filter (fun x => decide (x.name = e.name)) := by simp [he]
  rw [h.fil] at h1
  exact hL e (List.mem_filter.1 h1).1
/-- Two parts that lie one behind the other change places. -/
theorem rot_get (P X Y S : List EV) (i : Nat) : (P ++ Y ++ X ++ S)[i]? = if i < P.length ∨ P.length + X.length + Y.length ≤ i then (P ++ X ++ Y ++ S)[i]? else if i < P.length + Y.length then (P ++ X ++ Y ++ S)[i + X.length]? else (P ++ X ++ Y ++ S)[i - Y.length]? := by
  simp only [List.append_assoc]
  rcases Nat.lt_or_ge i P.length with h | h
  · rw [if_pos (.inl h), List.getElem?_append_left h, List.getElem?_append_left h]
  · rw [List.getElem?_append_right h]
    by_cases h2 : P.length + X.length + Y.length ≤ i
    · rw [if_pos (.inr h2), List.getElem?_append_right h]
      rw [List.getElem?_append_right (by omega), List.getElem?_append_right (by omega), List.getElem?_append_right (by omega), List.getElem?_append_right (by omega)]
      congr 1
      omega
    · rw [if_neg (by omega)]
      by_cases h3 : i < P.length + Y.length
      · rw [if_pos h3, List.getElem?_append_left (by omega), List.getElem?_append_right (by omega), List.getElem?_append_right (by omega), List.getElem?_append_left (by omega)]
        congr 1
        omega
      · rw [if_neg h3, List.getElem?_append_right (by omega), List.getElem?_append_left (by omega), List.getElem?_append_right (by omega), List.getElem?_append_left (by omega)]
        congr 1
        omega
theorem filter_none {k : ByteArray} {X : List EV} (h : ∀ x ∈ X, x.name ≠ k) : X.filter (fun e => decide (e.name = k)) = [] := by
  rw [List.filter_eq_nil_iff]
  intro x hx
  simp [h x hx]
theorem Sb.rot {a b : Nat} (P X Y S : List EV) (hn : ∀ x ∈ X, ∀ y ∈ Y, x.name ≠ y.name) (ha : a ≤ P.length) (hb : P.length + X.length + Y.length ≤ b) : Sb a b (P ++ X ++ Y ++ S) (P ++ Y ++ X ++ S) := by
  refine ⟨by simp only [List.length_append]; omega, fun i hi => ?_, fun i h1 h2 => ?_, fun k => ?_⟩
  · rw [rot_get, if_pos (by omega)]
  · rw [rot_get]
    split
    · exact ⟨i, h1, h2, rfl⟩
    · split
      · exact ⟨i + X.length, by omega, by omega, rfl⟩
      · exact ⟨i - Y.length, by omega, by omega, rfl⟩
  · simp only [List.filter_append, List.append_assoc]
    by_cases hx : ∃ x ∈ X, x.name = k
    · obtain ⟨x, hx, rfl⟩ := hx
      rw [filter_none (X := Y) (fun y hy e => hn x hx y hy e.symm)]
      simp
    · rw [filter_none (X := X) (fun x h e => hx ⟨x, h, e⟩)]
      simp
/-- Two neighbours, swapped. -/
theorem split_two {L : List EV} {i : Nat} {x y : EV} (hx : L[i]? = some x) (hy : L[i + 1]? = some y) : L = L.take i ++ [x] ++ [y] ++ L.drop (i + 2) := by
  have h1 : i < L.length := (List.getElem?_eq_some_iff.1 hx).1
  have h2 : i + 1 < L.length := (List.getElem?_eq_some_iff.1 hy).1
  have e1 : L[i] = x := (List.getElem?_eq_some_iff.1 hx).2
  have e2 : L[i + 1] = y := (List.getElem?_eq_some_iff.1 hy).2
  conv => lhs; rw [← List.take_append_drop i L, List.drop_eq_getElem_cons h1, List.drop_eq_getElem_cons h2, e1, e2]
  simp
theorem set_two {L : List EV} {i : Nat} {x y : EV} (hx : L[i]? = some x) (hy : L[i + 1]? = some y) : (L.set i y).set (i + 1) x = L.take i ++ [y] ++ [x] ++ L.drop (i + 2) := by
  have h1 : i < L.length := (List.getElem?_eq_some_iff.1 hx).1
  have h2 : i + 1 < L.length := (List.getElem?_eq_some_iff.1 hy).1
  have hl : (L.take i).length = i := by simp; omega
  conv => lhs; rw [split_two hx hy]
  simp only [List.append_assoc, List.cons_append, List.nil_append]
  rw [List.set_append_right _ _ (by omega), hl, Nat.sub_self, List.set_cons_zero, List.set_append_right _ _ (by omega), hl, show i + 1 - i = 1 from by omega]
  rfl
theorem set_two' {L : List EV} {i : Nat} {x y : EV} (hx : L[i]? = some x) (hy : L[i + 1]? = some y) : (L.set (i + 1) x).set i y = L.take i ++ [y] ++ [x] ++ L.drop (i + 2) := by
  rw [List.set_comm _ _ (by omega)]
  exact set_two hx hy
theorem Sb.swap {a b i : Nat} {L : List EV} {x y : EV} (hx : L[i]? = some x) (hy : L[i + 1]? = some y) (hn : x.name ≠ y.name) (ha : a ≤ i) (hb : i + 2 ≤ b) : Sb a b L ((L.set i y).set (i + 1) x) := by
  have h1 : i < L.length := (List.getElem?_eq_some_iff.1 hx).1
  have hl : (L.take i).length = i := by simp; omega
  have h := Sb.rot (a := a) (b := b) (L.take i) [x] [y] (L.drop (i + 2)) (by simpa using hn) (by omega) (by simp only [hl, List.length_cons, List.length_nil]; omega)
  rw [← split_two hx hy] at h
  rw [set_two hx hy]
  exact h
theorem get_swap {i j : Nat} {L : List EV} {x y : EV} (hx : L[i]? = some x) (hy : L[i + 1]? = some y) : ((L.set i y).set (i + 1) x)[j]? = if j = i then some y else if j = i + 1 then some x else L[j]? := by
  have h1 : i < L.length := (List.getElem?_eq_some_iff.1 hx).1
  have h2 : i + 1 < L.length := (List.getElem?_eq_some_iff.1 hy).1
  by_cases e1 : j = i + 1
  · subst e1
    rw [List.getElem?_set_self (by simpa using h2), if_neg (by omega), if_pos rfl]
  · rw [List.getElem?_set_ne (by omega), if_neg e1]
    by_cases e2 : j = i
    · subst e2
      rw [List.getElem?_set_self h1, if_pos rfl]
    · rw [List.getElem?_set_ne (by omega), if_neg e2]
end Go.Proofs.Ytaebmhbggbpnoaa
namespace Go.Proofs.Ytaebmhbggbpnoaa
/-- Sorted, but for how the element at j stands to those ahead of it. -/
def SrtL (a b j : Nat) (L : List EV) : Prop := ∀ p q x y, a ≤ p → p < q → q < b → q ≠ j → L[p]? = some x → L[q]? = some y → ¬ kl y x
/-- Sorted, but for how the element at j stands to those behind it. -/
def SrtR (a b j : Nat) (L : List EV) : Prop := ∀ p q x y, a ≤ p → p < q → q < b → p ≠ j → L[p]? = some x → L[q]? = some y → ¬ kl y x
section
variable {a b i j k : Nat} {L L' : List EV} {x y : EV}
theorem SrtL.start (h : Srt a j L) : SrtL a (j + 1) j L := fun p q u v h1 h2 h3 h4 hp hq => h p q u v h1 h2 (by omega) hp hq
theorem SrtL.of (h : Srt a j L) (hb : b = j + 1) : SrtL a b j L := by subst hb; exact SrtL.start h
theorem SrtL.swap (h : SrtL a b (j + 1) L) (hx : L[j]? = some x) (hy : L[j + 1]? = some y) (hk : kl y x) (ha : a ≤ j) (hb : j + 1 < b) : SrtL a b j ((L.set j y).set (j + 1) x) := fun p q u v h1 h2 h3 h4 hp hq => by
  rw [get_swap hx hy] at hp hq
  by_cases e1 : p = j
  · rw [if_pos e1] at hp
    injection hp with hp
    subst hp
    rw [if_neg h4] at hq
    by_cases e2 : q = j + 1
    · rw [if_pos e2] at hq
      injection hq with hq
      subst hq
      exact kl_asymm hk
    · rw [if_neg e2] at hq
      exact h (j + 1) q _ v (by omega) (by omega) h3 e2 hy hq
  · rw [if_neg e1] at hp
    by_cases e2 : p = j + 1
    · rw [if_pos e2] at hp
      injection hp with hp
      subst hp
      rw [if_neg h4, if_neg (by omega)] at hq
      exact h j q _ v ha (by omega) h3 (by omega) hx hq
    · rw [if_neg e2] at hp
      rw [if_neg h4] at hq
      by_cases e3 : q = j + 1
      · rw [if_pos e3] at hq
        injection hq with hq
        subst hq
        exact h p j u _ h1 (by omega) (by omega) (by omega) hp hx
      · rw [if_neg e3] at hq
        exact h p q u v h1 h2 h3 e3 hp hq
theorem SrtL.done (h : SrtL a b j L) (hj : j ≤ a ∨ ∃ x y, L[j - 1]? = some x ∧ L[j]? = some y ∧ ¬ kl y x) : Srt a b L := fun p q u v h1 h2 h3 hp hq => by
  by_cases e : q = j
  · subst e
    rcases hj with hj | ⟨x, y, hx, hy, hk⟩
    · omega
    · rw [hy] at hq
      injection hq with hq
      subst hq
      by_cases e2 : p = q - 1
      · subst e2
        rw [hx] at hp
        injection hp with hp
        subst hp
        exact hk
      · exact kle_trans (h p (q - 1) u x h1 (by omega) (by omega) (by omega) hp hx) hk
  · exact h p q u v h1 h2 h3 e hp hq
theorem SrtL.done' (h : SrtL a b j L) (hy : L[j]? = some y) (hj : ∀ p x, a ≤ p → p < j → L[p]? = some x → ¬ kl y x) : Srt a b L := fun p q u v h1 h2 h3 hp hq => by
  by_cases e : q = j
  · subst e
    rw [hy] at hq
    injection hq with hq
    subst hq
    exact hj p u h1 h2 hp
  · exact h p q u v h1 h2 h3 e hp hq
theorem SrtR.swap (h : SrtR a b j L) (hx : L[j]? = some x) (hy : L[j + 1]? = some y) (hk : kl y x) (ha : a ≤ j) (hb : j + 1 < b) : SrtR a b (j + 1) ((L.set j y).set (j + 1) x) := fun p q u v h1 h2 h3 h4 hp hq => by
  rw [get_swap hx hy] at hp hq
  by_cases e1 : p = j
  · rw [if_pos e1] at hp
    injection hp with hp
    subst hp
    rw [if_neg (by omega)] at hq
    by_cases e2 : q = j + 1
    · rw [if_pos e2] at hq
      injection hq with hq
      subst hq
      exact kl_asymm hk
    · rw [if_neg e2] at hq
      exact h (j + 1) q _ v (by omega) (by omega) h3 (by omega) hy hq
  · rw [if_neg e1, if_neg h4] at hp
    by_cases e2 : q = j
    · rw [if_pos e2] at hq
      injection hq with hq
      subst hq
      exact h p (j + 1) u _ h1 (by omega) hb e1 hp hy
    · rw [if_neg e2] at hq
      by_cases e3 : q = j + 1
      · rw [if_pos e3] at hq
        injection hq with hq
        subst hq
        exact h p j u _ h1 (by omega) (by omega) e1 hp hx
      · rw [if_neg e3] at hq
        exact h p q u v h1 h2 h3 e1 hp hq
theorem SrtR.done (h : SrtR a b j L) (hx : L[j]? = some x) (hj : ∀ q y, j < q → q < b → L[q]? = some y → ¬ kl y x) : Srt a b L := fun p q u v h1 h2 h3 hp hq => by
  by_cases e : p = j
  · subst e
    rw [hx] at hp
    injection hp with hp
    subst hp
    exact hj q v h2 h3 hq
  · exact h p q u v h1 h2 h3 e hp hq
end
/-- What a merge's turn of its middle leaves. -/
structure Mid (a s m mid e b : Nat) (L L1 : List EV) : Prop where
  eq : e + s = mid + m
  ord : a ≤ s ∧ s ≤ m ∧ m ≤ e ∧ e ≤ b ∧ s ≤ mid ∧ mid ≤ e
  out : ∀ p, p < s ∨ e ≤ p → L1[p]? = L[p]?
  one : ∀ p, s ≤ p → p < mid → L1[p]? = L[p + m - s]?
  two : ∀ p, mid ≤ p → p < e → L1[p]? = L[p + s - mid]?
section
variable {a s m mid e b : Nat} {L L1 L2 L3 : List EV}
theorem Mid.refl1 (h : a ≤ m ∧ m ≤ b ∧ m = s ∧ e = mid ∧ m ≤ mid ∧ mid ≤ b) : Mid a s m mid e b L L := by
  obtain ⟨h1, h2, rfl, rfl, h5, h6⟩ := h
  exact ⟨by omega, by omega, fun _ _ => rfl, fun p h h' => by congr 1; omega, fun p h h' => by omega⟩
theorem Mid.refl2 (h : a ≤ mid ∧ m ≤ b ∧ s = mid ∧ e = m ∧ mid ≤ m) : Mid a s m mid e b L L := by
  obtain ⟨h1, h2, rfl, rfl, h5⟩ := h
  exact ⟨by omega, by omega, fun _ _ => rfl, fun p h h' => by omega, fun p h h' => by congr 1; omega⟩
theorem Mid.of (P X Y S : List EV) (hs : P.length = s) (hm : P.length + X.length = m) (he : P.length + X.length + Y.length = e) (hmid : s + Y.length = mid) (ha : a ≤ s) (hb : e ≤ b) : Mid a s m mid e b (P ++ X ++ Y ++ S) (P ++ Y ++ X ++ S) := by
  refine ⟨by omega, by omega, fun p h => ?_, fun p h h' => ?_, fun p h h' => ?_⟩
  · rw [rot_get, if_pos (by omega)]
  · rw [rot_get, if_neg (by omega), if_pos (by omega)]
    congr 1
    omega
  · rw [rot_get, if_neg (by omega), if_neg (by omega)]
    congr 1
    omega
theorem Mid.s1 (h : Mid a s m mid e b L L1) (h1 : Srt a m L) : Srt a s L1 := (h1.mono (Nat.le_refl _) h.ord.2.1).same (fun i _ hi => h.out i (.inl hi))
theorem Mid.s2 (h : Mid a s m mid e b L L1) (h2 : Srt m b L) : Srt s mid L1 := fun i j x y i1 i2 i3 hx hy => by
  rw [h.one i i1 (by omega)] at hx
  rw [h.one j (by omega) i3] at hy
  have := h.ord
  have := h.eq
  exact h2 _ _ x y (by omega) (by omega) (by omega) hx hy
theorem Mid.s3 (h : Mid a s m mid e b L L1) (h1 : Srt a m L) : Srt mid e L1 := fun i j x y i1 i2 i3 hx hy => by
  rw [h.two i i1 (by omega)] at hx
  rw [h.two j (by omega) i3] at hy
  have := h.ord
  have := h.eq
  exact h1 _ _ x y (by omega) (by omega) (by omega) hx hy
theorem Mid.s4 (h : Mid a s m mid e b L L1) (h2 : Srt m b L) : Srt e b L1 := (h2.mono h.ord.2.2.1 (Nat.le_refl _)).same (fun i hi _ => h.out i (.inr hi))
/-- What is in the first part is not above what is in the second. -/
theorem Mid.cross (h : Mid a s m mid e b L L1) (h1 : Srt a m L) (h2 : Srt m b L) (c1 : ∀ p q x y, s ≤ p → p < m → m ≤ q → q < e → L[p]? = some x → L[q]? = some y → kl y x) (c2 : ∀ p q x y, a ≤ p → p < s → e ≤ q → q < b → L[p]? = some x → L[q]? = some y → ¬ kl y x) :
    ∀ p q x y, a ≤ p → p < mid → mid ≤ q → q < b → L1[p]? = some x → L1[q]? = some y → ¬ kl y x := fun p q x y p1 p2 q1 q2 hx hy => by
  have ho := h.ord
  have he := h.eq
  rcases Nat.lt_or_ge p s with hp | hp
  · rw [h.out p (.inl hp)] at hx
    rcases Nat.lt_or_ge q e with hq | hq
    · rw [h.two q q1 hq] at hy
      exact h1 p _ x y p1 (by omega) (by omega) hx hy
    · rw [h.out q (.inr hq)] at hy
      exact c2 p q x y p1 hp hq q2 hx hy
  · rw [h.one p hp p2] at hx
    rcases Nat.lt_or_ge q e with hq | hq
    · rw [h.two q q1 hq] at hy
      exact kl_asymm (c1 _ _ y x (by omega) (by omega) (by omega) (by omega) hy hx)
    · rw [h.out q (.inr hq)] at hy
      exact h2 _ _ x y (by omega) (by omega) q2 hx hy
end
/-- Two parts that are sorted, the first not above the second. -/
theorem srt_join {a mid b : Nat} {L1 L2 L3 : List EV} (hc : ∀ p q x y, a ≤ p → p < mid → mid ≤ q → q < b → L1[p]? = some x → L1[q]? = some y → ¬ kl y x)
    (s1 : Sb a mid L1 L2) (t1 : Srt a mid L2) (s2 : Sb mid b L2 L3) (t2 : Srt mid b L3) : Srt a b L3 := fun i j x y h1 h2 h3 hx hy => by
  rcases Nat.lt_or_ge i mid with hi | hi
  · rcases Nat.lt_or_ge j mid with hj | hj
    · rw [s2.out i (.inl hi)] at hx
      rw [s2.out j (.inl hj)] at hy
      exact t1 i j x y h1 h2 hj hx hy
    · rw [s2.out i (.inl hi)] at hx
      obtain ⟨i', i1, i2, ei⟩ := s1.inn i h1 hi
      obtain ⟨j', j1, j2, ej⟩ := s2.inn j hj h3
      rw [ei] at hx
      rw [ej, s1.out j' (.inr j1)] at hy
      exact hc i' j' x y i1 i2 j1 j2 hx hy
  · exact t2 i j x y hi h2 h3 hx hy
end Go.Proofs.Ytaebmhbggbpnoaa
