/- The plain law of layer 1: reading a form gives the value, what is read has that form, no form begins another. Conditions: each theorem's premises. -/
import Derived.Test.YtaebmhbggbpnoaaPut
namespace Go.Proofs.Ytaebmhbggbpnoaa
/-- All numbers are of 64 bits. -/
inductive OkT : TV → Prop
  | mk {t : Int} {n : Nat} {b : List UInt8} {l : List TV} (h : n < 18446744073709551616) (hl : ∀ (i : Nat) (v : TV), l[i]? = some v → OkT v) : OkT (.mk t n b l)
theorem OkT.num {t : Int} {n : Nat} {b : List UInt8} {l : List TV} (h : OkT (.mk t n b l)) : n < 18446744073709551616 := by cases h; assumption
theorem OkT.mem {t : Int} {n : Nat} {b : List UInt8} {l : List TV} (h : OkT (.mk t n b l)) : ∀ v ∈ l, OkT v := by
  cases h with
  | mk _ hl =>
    intro v hv
    obtain ⟨i, hi, rfl⟩ := List.getElem_of_mem hv
    exact hl i _ (List.getElem?_eq_getElem hi)
theorem only_tag' {v : TV} (h : onlyT v = true) : v.tag = 1 ∨ v.tag = 2 ∨ v.tag = 3 := by
  obtain ⟨t, n, b, l⟩ := v
  simp only [onlyT] at h
  simp only [TV.tag]
  split at h
  · omega
  · split at h
    · omega
    · split at h
      · omega
      · cases h
theorem split_head (t : Int) (x rest : List UInt8) (ht : t = 1 ∨ t = 2 ∨ t = 3) (hx : x.length ≤ 65535) : splitT (headT t x ++ x ++ rest) = some (t.toNat, x, rest) := by
  have e1 : (UInt8.ofNat (x.length / 256)).toNat * 256 + (UInt8.ofNat (x.length % 256)).toNat = x.length := by
    rw [UInt8.toNat_ofNat', UInt8.toNat_ofNat']; omega
  have e2 : (UInt8.ofNat t.toNat).toNat = t.toNat := by rw [UInt8.toNat_ofNat']; omega
  simp only [headT, splitT, List.cons_append, List.nil_append]
  rw [e1, e2, if_pos (by simp)]
  simp
theorem readAll_forms (rd : List UInt8 → Option (TV × List UInt8)) (f : TV → Option (List UInt8)) (l : List TV) (y : List UInt8) (h : formsT f l = some y)
    (hr : ∀ v ∈ l, ∀ x rest, f v = some x → x ≠ [] ∧ rd (x ++ rest) = some (v, rest)) : readAll rd y = some l := by
  induction l generalizing y with
  | nil => simp [formsT] at h; subst h; rw [readAll]
  | cons v l ih =>
    simp only [formsT] at h
    cases hf : f v with
    | none => rw [hf] at h; cases h
    | some x =>
      rw [hf] at h
      simp only [Option.map_eq_some_iff] at h
      obtain ⟨z, hz, rfl⟩ := h
      obtain ⟨hne, hrd⟩ := hr v (by simp) x z hf
      cases x with
      | nil => exact absurd rfl hne
      | cons c cs =>
        rw [List.cons_append] at hrd ⊢
        rw [readAll, hrd]
        simp only
        rw [if_pos (by simp; omega), ih z hz (fun v hv => hr v (by simp [hv]))]
        rfl
theorem readT_succ (d : Nat) (b : List UInt8) : readT (d + 1) b = match splitT b with
    | none => none
    | some (t, inn, rest) =>
      if t = 1 then (if inn.length ≤ 8 ∧ (inn = [] ∨ inn.head? ≠ some 0) then some (.mk 1 (bigE inn) [] [], rest) else none)
      else if t = 2 then some (.mk 2 0 inn [], rest)
      else if t = 3 then (readAll (readT d) inn).map fun l => (.mk 3 0 [] l, rest)
      else none := by
  rw [readT]
  cases splitT b <;> rfl
/-- What is put is read, whatever is behind it. -/
theorem read_put (d : Nat) : ∀ (v : TV) (x rest : List UInt8), OkT v → bodyT d v = some x → readT d (headT v.tag x ++ x ++ rest) = some (v, rest) := by
  induction d with
  | zero =>
    intro v x rest hok hb
    obtain ⟨t, n, b, l⟩ := v
    obtain ⟨ho, hx⟩ := bodyT_only hb
    have ht := only_tag' ho
    simp only [TV.tag] at ht ⊢
    rw [readT, split_head t x rest ht hx]
    simp only
    unfold bodyT at hb
    split at hb
    · next h1 =>
      obtain ⟨rfl, _⟩ := fitT_some hb
      simp only [onlyT] at ho
      rcases ht with rfl | rfl | rfl
      · simp at ho
        obtain ⟨rfl, rfl⟩ := ho
        simp only [List.append_nil]
        rw [if_pos (by decide), if_pos ⟨numE_len8 n hok.num, numE_head n⟩, bigE_numE]
      · simp at ho
        obtain ⟨rfl, rfl⟩ := ho
        rw [numE_zero]
        simp
      · exact absurd rfl h1.2
    · cases hb
  | succ d ih =>
    intro v x rest hok hb
    obtain ⟨t, n, b, l⟩ := v
    obtain ⟨ho, hx⟩ := bodyT_only hb
    have ht := only_tag' ho
    simp only [TV.tag] at ht ⊢
    rw [readT_succ, split_head t x rest ht hx]
    simp only
    rw [bodyT_succ, if_pos ho, Option.bind_eq_some_iff] at hb
    obtain ⟨y, hy, hb⟩ := hb
    obtain ⟨rfl, _⟩ := fitT_some hb
    simp only [onlyT] at ho
    rcases ht with rfl | rfl | rfl
    · simp at ho
      obtain ⟨rfl, rfl⟩ := ho
      simp only [formsT, Option.some.injEq] at hy
      subst hy
      simp only [List.append_nil]
      rw [if_pos (by decide), if_pos ⟨numE_len8 n hok.num, numE_head n⟩, bigE_numE]
    · simp at ho
      obtain ⟨rfl, rfl⟩ := ho
      simp only [formsT, Option.some.injEq] at hy
      subst hy
      rw [numE_zero]
      simp
    · simp at ho
      obtain ⟨rfl, rfl⟩ := ho
      rw [numE_zero]
      simp only [List.nil_append]
      rw [if_neg (by decide), if_neg (by decide), if_pos (by decide), readAll_forms (readT d) (putT d) l y hy]
      · rfl
      · intro v hv x rest hf
        unfold putT at hf
        simp only [Option.map_eq_some_iff] at hf
        obtain ⟨z, hz, rfl⟩ := hf
        exact ⟨by simp [headT], ih v z rest (hok.mem v hv) hz⟩
theorem split_back {b inn rest : List UInt8} {t : Nat} (h : splitT b = some (t, inn, rest)) : b = headT (t : Int) inn ++ inn ++ rest ∧ inn.length ≤ 65535 := by
  unfold splitT at h
  split at h
  · next tb hb lb r =>
    split at h
    · next hle =>
      simp only [Option.some.injEq, Prod.mk.injEq] at h
      obtain ⟨rfl, rfl, rfl⟩ := h
      have h1 := hb.toNat_lt
      have h2 := lb.toNat_lt
      have hlen : (r.take (hb.toNat * 256 + lb.toNat)).length = hb.toNat * 256 + lb.toNat := by rw [List.length_take]; omega
      refine ⟨?_, by omega⟩
      simp only [headT, hlen, List.cons_append, List.nil_append, Int.toNat_natCast, UInt8.ofNat_toNat, List.take_append_drop]
      rw [show (hb.toNat * 256 + lb.toNat) / 256 = hb.toNat from by omega, show (hb.toNat * 256 + lb.toNat) % 256 = lb.toNat from by omega, UInt8.ofNat_toNat, UInt8.ofNat_toNat]
    · cases h
  · cases h
theorem readAll_back (rd : List UInt8 → Option (TV × List UInt8)) (f : TV → Option (List UInt8)) (P : TV → Prop) (hr : ∀ b v rest, rd b = some (v, rest) → P v ∧ ∃ x, f v = some x ∧ b = x ++ rest) :
    ∀ (k : Nat) (b : List UInt8) (l : List TV), b.length ≤ k → readAll rd b = some l → formsT f l = some b ∧ ∀ v ∈ l, P v := by
  intro k
  induction k with
  | zero =>
    intro b l hk h
    obtain rfl : b = [] := List.eq_nil_of_length_eq_zero (by omega)
    rw [readAll] at h
    injection h with h
    subst h
    exact ⟨rfl, by simp⟩
  | succ k ih =>
    intro b l hk h
    cases b with
    | nil => rw [readAll] at h; injection h with h; subst h; exact ⟨rfl, by simp⟩
    | cons c cs =>
      rw [readAll] at h
      cases hd : rd (c :: cs) with
      | none => rw [hd] at h; cases h
      | some p =>
        obtain ⟨v, rest⟩ := p
        rw [hd] at h
        simp only at h
        split at h
        · next hlt =>
          simp only [Option.map_eq_some_iff] at h
          obtain ⟨l', h1, rfl⟩ := h
          obtain ⟨hp, x, hx, he⟩ := hr _ _ _ hd
          obtain ⟨h2, h3⟩ := ih rest l' (by simp at hlt hk; omega) h1
          refine ⟨?_, ?_⟩
          · simp only [formsT, hx, h2, Option.map_some]
            rw [he]
          · intro u hu
            simp at hu
            rcases hu with rfl | hu
            · exact hp
            · exact h3 u hu
        · cases h
/-- What is read has the form that was read. -/
theorem put_read (d : Nat) : ∀ (b rest : List UInt8) (v : TV), readT d b = some (v, rest) → OkT v ∧ ∃ x, bodyT d v = some x ∧ b = headT v.tag x ++ x ++ rest := by
  have one : ∀ (d : Nat) (inn : List UInt8), inn.length ≤ 65535 → inn.length ≤ 8 ∧ (inn = [] ∨ inn.head? ≠ some 0) → OkT (.mk 1 (bigE inn) [] []) ∧ bodyT d (.mk 1 (bigE inn) [] []) = some inn := by
    intro d inn h1 h2
    refine ⟨.mk ?_ (by simp), ?_⟩
    · have := bigE_lt inn
      exact Nat.lt_of_lt_of_le this (Nat.le_trans (Nat.pow_le_pow_right (by omega) h2.1) (by decide))
    · cases d <;> simp [bodyT, onlyT, formsT, fitT, numE_bigE inn h2.2, h1]
  have two : ∀ (d : Nat) (inn : List UInt8), inn.length ≤ 65535 → OkT (.mk 2 0 inn []) ∧ bodyT d (.mk 2 0 inn []) = some inn := by
    intro d inn h1
    refine ⟨.mk (by decide) (by simp), ?_⟩
    cases d <;> simp [bodyT, onlyT, formsT, fitT, numE_zero, h1]
  induction d with
  | zero =>
    intro b rest v h
    rw [readT] at h
    cases hs : splitT b with
    | none => rw [hs] at h; cases h
    | some p =>
      obtain ⟨t, inn, r⟩ := p
      obtain ⟨hb, hl⟩ := split_back hs
      rw [hs] at h
      simp only at h
      split at h
      · next ht =>
        split at h
        · next hc =>
          simp only [Option.some.injEq, Prod.mk.injEq] at h
          obtain ⟨rfl, rfl⟩ := h
          subst ht
          exact ⟨(one 0 inn hl hc).1, inn, (one 0 inn hl hc).2, hb⟩
        · cases h
      · split at h
        · next ht =>
          simp only [Option.some.injEq, Prod.mk.injEq] at h
          obtain ⟨rfl, rfl⟩ := h
          subst ht
          exact ⟨(two 0 inn hl).1, inn, (two 0 inn hl).2, hb⟩
        · split at h <;> cases h
  | succ d ih =>
    intro b rest v h
    rw [readT_succ] at h
    cases hs : splitT b with
    | none => rw [hs] at h; cases h
    | some p =>
      obtain ⟨t, inn, r⟩ := p
      obtain ⟨hb, hl⟩ := split_back hs
      rw [hs] at h
      simp only at h
      split at h
      · next ht =>
        split at h
        · next hc =>
          simp only [Option.some.injEq, Prod.mk.injEq] at h
          obtain ⟨rfl, rfl⟩ := h
          subst ht
          exact ⟨(one (d + 1) inn hl hc).1, inn, (one (d + 1) inn hl hc).2, hb⟩
        · cases h
      · split at h
        · next ht =>
          simp only [Option.some.injEq, Prod.mk.injEq] at h
          obtain ⟨rfl, rfl⟩ := h
          subst ht
          exact ⟨(two (d + 1) inn hl).1, inn, (two (d + 1) inn hl).2, hb⟩
        · split at h
          · next ht =>
            simp only [Option.map_eq_some_iff, Prod.mk.injEq] at h
            obtain ⟨l, h1, rfl, rfl⟩ := h
            subst ht
            obtain ⟨h2, h3⟩ := readAll_back (readT d) (putT d) OkT (fun b v rest h => by
              obtain ⟨h4, x, h5, h6⟩ := ih b rest v h
              exact ⟨h4, headT v.tag x ++ x, putT_some h5, h6⟩) inn.length inn l (Nat.le_refl _) h1
            refine ⟨.mk (by decide) (fun i v hv => h3 v (List.mem_of_getElem? hv)), inn, ?_, hb⟩
            rw [bodyT_succ, if_pos (by simp [onlyT]), h2]
            simp [numE_zero, fitT, hl]
          · cases h
/-- No form begins another's. -/
theorem put_prefix {d : Nat} {u v : TV} {x y z : List UInt8} (hu : OkT u) (hv : OkT v) (hx : putT d u = some x) (hy : putT d v = some y) (h : y = x ++ z) : u = v ∧ z = [] := by
  unfold putT at hx hy
  simp only [Option.map_eq_some_iff] at hx hy
  obtain ⟨a, ha, rfl⟩ := hx
  obtain ⟨b, hb, rfl⟩ := hy
  have h1 := read_put d u a z hu ha
  have h2 := read_put d v b [] hv hb
  rw [List.append_nil, h, h1] at h2
  simp only [Option.some.injEq, Prod.mk.injEq] at h2
  exact h2
end Go.Proofs.Ytaebmhbggbpnoaa
