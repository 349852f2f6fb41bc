/- Entries sorted and without doubles, without a program: the first of each name, in the order of their names, whichever way it is made. Plain definitions and theorems; conditions: each theorem's premises. -/
import Derived.Test.YtaebmhbggbpnoaaGNs13
namespace Go.Proofs.Ytaebmhbggbpnoaa
/-- Is an entry the first that bears its name? -/
def Fst (l : List EV) (e : EV) : Prop := (l.filter (fun x => decide (x.name = e.name))).head? = some e
theorem Fst.mem {l : List EV} {e : EV} (h : Fst l e) : e ∈ l := (List.mem_filter.1 (List.mem_of_head? h)).1
theorem Fst.nil (e : EV) : ¬ Fst [] e := by simp [Fst]
theorem Fst.snoc (T : List EV) (x e : EV) : Fst (T ++ [x]) e ↔ Fst T e ∨ (e = x ∧ ∀ y ∈ T, y.name ≠ x.name) := by
  unfold Fst
  rw [List.filter_append, List.head?_append]
  cases h : (T.filter (fun y => decide (y.name = e.name))).head? with
  | some z =>
    simp only [Option.some_or]
    constructor
    · exact .inl
    · rintro (h1 | ⟨rfl, h1⟩)
      · exact h1
      · have h2 := List.mem_filter.1 (List.mem_of_head? h)
        exact absurd (by simpa using h2.2) (h1 z h2.1)
  | none =>
    rw [List.head?_eq_none_iff, List.filter_eq_nil_iff] at h
    simp only [Option.none_or]
    constructor
    · intro h1
      have h2 := List.mem_filter.1 (List.mem_of_head? h1)
      obtain rfl : e = x := by simpa using h2.1
      exact .inr ⟨rfl, fun y hy he => h y hy (by simpa using he)⟩
    · rintro (h1 | ⟨rfl, h1⟩)
      · cases h1
      · simp
theorem Fst.of_name {T : List EV} {y : EV} (hy : y ∈ T) : ∃ z, Fst T z ∧ z.name = y.name := by
  cases h : (T.filter (fun x => decide (x.name = y.name))).head? with
  | none =>
    rw [List.head?_eq_none_iff, List.filter_eq_nil_iff] at h
    exact absurd (by simp) (h y hy)
  | some z =>
    have h2 := List.mem_filter.1 (List.mem_of_head? h)
    have h3 : z.name = y.name := by simpa using h2.2
    exact ⟨z, by unfold Fst; rw [h3]; exact h, h3⟩
theorem kl_uniq : ∀ {A B : List EV}, A.Pairwise kl → B.Pairwise kl → (∀ e, e ∈ A ↔ e ∈ B) → A = B
  | [], [], _, _, _ => rfl
  | [], b :: B, _, _, h => by have := (h b).2 (by simp); simp at this
  | a :: A, [], _, _, h => by have := (h a).1 (by simp); simp at this
  | a :: A, b :: B, ha, hb, h => by
    rw [List.pairwise_cons] at ha hb
    have e1 : a = b := by
      have h1 : a = b ∨ a ∈ B := by simpa using (h a).1 (by simp)
      have h2 : b = a ∨ b ∈ A := by simpa using (h b).2 (by simp)
      rcases h1 with h1 | h1
      · exact h1
      · rcases h2 with h2 | h2
        · exact h2.symm
        · exact absurd (ha.1 b h2) (kl_asymm (hb.1 a h1))
    subst e1
    rw [kl_uniq ha.2 hb.2 (fun e => ?_)]
    constructor
    · intro he
      have h1 : e = a ∨ e ∈ B := by simpa using (h e).1 (by simp [he])
      rcases h1 with h1 | h1
      · subst h1; exact absurd (ha.1 _ he) (kl_irrefl _)
      · exact h1
    · intro he
      have h1 : e = a ∨ e ∈ A := by simpa using (h e).2 (by simp [he])
      rcases h1 with h1 | h1
      · subst h1; exact absurd (hb.1 _ he) (kl_irrefl _)
      · exact h1
theorem pair_snoc {A : List EV} {x : EV} (h : A.Pairwise kl) (hx : ∀ y ∈ A, kl y x) : (A ++ [x]).Pairwise kl := by
  rw [List.pairwise_append]
  exact ⟨h, by simp, fun a ha b hb => by rw [List.mem_singleton.1 hb]; exact hx a ha⟩
theorem mem_take_at {L : List EV} {i : Nat} {y : EV} (h : y ∈ L.take i) : ∃ j, j < i ∧ L[j]? = some y := by
  obtain ⟨j, hj, he⟩ := List.mem_iff_getElem.1 h
  have hj' : j < i ∧ j < L.length := by rw [List.length_take] at hj; omega
  exact ⟨j, hj'.1, by rw [← he, List.getElem_take]; exact List.getElem?_eq_getElem _⟩
theorem at_mem_take {L : List EV} {i j : Nat} {y : EV} (h : L[j]? = some y) (hj : j < i) : y ∈ L.take i := by
  have h1 : (L.take i)[j]? = some y := by rw [List.getElem?_take]; simp [hj, h]
  exact List.mem_of_getElem? h1
theorem cpt_spec {n : Nat} {L : List EV} (hL : Srt 0 n L) (hn : L.length = n) : ∀ i, i ≤ n → (cpt L i).Pairwise kl ∧ ∀ e, e ∈ cpt L i ↔ Fst (L.take i) e
  | 0, _ => ⟨List.Pairwise.nil, fun e => by simp [cpt, Fst.nil]⟩
  | i + 1, hi => by
    obtain ⟨h1, h2⟩ := cpt_spec hL hn i (by omega)
    obtain ⟨x, hx⟩ : ∃ x, L[i]? = some x := ⟨_, List.getElem?_eq_getElem (by omega)⟩
    rw [take_snoc hx]
    rcases i with _ | k
    · rw [cpt_one hx]
      refine ⟨by simp, fun e => ?_⟩
      rw [Fst.snoc]
      simp [Fst.nil]
    · obtain ⟨y, hy⟩ : ∃ y, L[k]? = some y := ⟨_, List.getElem?_eq_getElem (by omega)⟩
      by_cases hxy : x.name = y.name
      · rw [cpt_same rfl hx hy hxy]
        refine ⟨h1, fun e => ?_⟩
        rw [h2, Fst.snoc]
        exact ⟨.inl, fun h => by
          rcases h with h | ⟨-, h⟩
          · exact h
          · exact absurd hxy.symm (h y (at_mem_take hy (Nat.lt_succ_self _)))⟩
      · have hne : ∀ z ∈ L.take (k + 1), z.name ≠ x.name ∧ kl z x := fun z hz => by
          obtain ⟨j, hj, hzj⟩ := mem_take_at hz
          have a1 : ¬ kl y z := hL.le (Nat.zero_le _) (show j ≤ k by omega) (by omega) hzj hy
          have a2 : ¬ kl x y := hL.le (Nat.zero_le _) (Nat.le_succ k) (by omega) hy hx
          have a3 : kl y x := by
            by_cases h : kl y x
            · exact h
            · exact absurd (kle_eq a2 h) hxy
          have a4 : kl z x := kle_kl a1 a3
          exact ⟨kl_ne a4, a4⟩
        rw [cpt_other rfl hx hy hxy]
        refine ⟨pair_snoc h1 fun z hz => (hne z ((h2 z).1 hz).mem).2, fun e => ?_⟩
        rw [Fst.snoc, List.mem_append, h2]
        constructor
        · rintro (h | h)
          · exact .inl h
          · exact .inr ⟨List.mem_singleton.1 h, fun z hz => (hne z hz).1⟩
        · rintro (h | ⟨h, -⟩)
          · exact .inl h
          · exact .inr (List.mem_singleton.2 h)
/-- The reference's way: one more entry is put where it belongs, unless its name is there. -/
def insR : List EV → EV → List EV
  | [], x => [x]
  | b :: B, x => if kl b x then b :: insR B x else if b.name = x.name then b :: B else x :: b :: B
theorem insR_end {x : EV} : ∀ {out : List EV}, (∀ y ∈ out, kl y x) → insR out x = out ++ [x]
  | [], _ => rfl
  | b :: B, h => by rw [insR, if_pos (h b (by simp)), insR_end (fun y hy => h y (by simp [hy]))]; rfl
theorem insR_at {x b : EV} : ∀ {out : List EV} {k : Nat}, (∀ j y, j < k → out[j]? = some y → kl y x) → out[k]? = some b → ¬ kl b x →
    insR out x = if b.name = x.name then out else out.take k ++ [x] ++ out.drop k
  | [], k, _, hb, _ => by simp at hb
  | c :: B, 0, _, hb, hn => by
    simp at hb
    subst hb
    rw [insR, if_neg hn]
    simp
  | c :: B, k + 1, h, hb, hn => by
    rw [insR, if_pos (h 0 c (by omega) (by simp)), insR_at (out := B) (k := k) (fun j y hj hy => h (j + 1) y (by omega) (by simpa using hy)) (by simpa using hb) hn]
    split
    · rfl
    · simp
theorem insR_spec {x : EV} : ∀ {out : List EV}, out.Pairwise kl → (insR out x).Pairwise kl ∧ ∀ e, e ∈ insR out x ↔ e ∈ out ∨ (e = x ∧ ∀ y ∈ out, y.name ≠ x.name)
  | [], _ => by simp [insR]
  | b :: B, h => by
    have h' := h
    rw [List.pairwise_cons] at h
    obtain ⟨i1, i2⟩ := insR_spec (x := x) h.2
    rw [insR]
    by_cases hk : kl b x
    · rw [if_pos hk]
      refine ⟨List.pairwise_cons.2 ⟨fun e he => ?_, i1⟩, fun e => ?_⟩
      · rcases (i2 e).1 he with h1 | ⟨rfl, -⟩
        · exact h.1 e h1
        · exact hk
      · simp only [List.mem_cons, i2]
        constructor
        · rintro (h1 | h1 | ⟨h1, h2⟩)
          · exact .inl (.inl h1)
          · exact .inl (.inr h1)
          · refine .inr ⟨h1, fun y hy => ?_⟩
            rcases hy with rfl | hy
            · exact kl_ne hk
            · exact h2 y hy
        · rintro ((h1 | h1) | ⟨h1, h2⟩)
          · exact .inl h1
          · exact .inr (.inl h1)
          · exact .inr (.inr ⟨h1, fun y hy => h2 y (.inr hy)⟩)
    · rw [if_neg hk]
      by_cases hn : b.name = x.name
      · rw [if_pos hn]
        exact ⟨h', fun e => ⟨.inl, fun h1 => by
          rcases h1 with h1 | ⟨-, h2⟩
          · exact h1
          · exact absurd hn (h2 b (by simp))⟩⟩
      · rw [if_neg hn]
        have hxb : kl x b := by
          by_cases h1 : kl x b
          · exact h1
          · exact absurd (kle_eq hk h1) hn
        have hx : ∀ y ∈ b :: B, kl x y := fun y hy => by
          rcases List.mem_cons.1 hy with rfl | hy
          · exact hxb
          · exact kl_trans hxb (h.1 y hy)
        refine ⟨List.pairwise_cons.2 ⟨hx, h'⟩, fun e => ?_⟩
        rw [List.mem_cons]
        constructor
        · rintro (rfl | h1)
          · exact .inr ⟨rfl, fun y hy => (kl_ne (hx y hy)).symm⟩
          · exact .inl h1
        · rintro (h1 | ⟨h1, -⟩)
          · exact .inr h1
          · exact .inl h1
/-- The reference's answer over the first of a list. -/
def sortR (l : List EV) : Nat → List EV
  | 0 => []
  | i + 1 => match l[i]? with
    | some x => insR (sortR l i) x
    | none => sortR l i
theorem sortR_next {l : List EV} {i : Nat} {x : EV} (h : l[i]? = some x) : sortR l (i + 1) = insR (sortR l i) x := by
  rw [sortR, h]
theorem sortR_spec (l : List EV) : ∀ i, i ≤ l.length → (sortR l i).Pairwise kl ∧ ∀ e, e ∈ sortR l i ↔ Fst (l.take i) e
  | 0, _ => ⟨List.Pairwise.nil, fun e => by simp [sortR, Fst.nil]⟩
  | i + 1, hi => by
    obtain ⟨h1, h2⟩ := sortR_spec l i (by omega)
    obtain ⟨x, hx⟩ : ∃ x, l[i]? = some x := ⟨_, List.getElem?_eq_getElem (by omega)⟩
    obtain ⟨i1, i2⟩ := insR_spec (x := x) h1
    rw [take_snoc hx, sortR_next hx]
    refine ⟨i1, fun e => ?_⟩
    rw [i2, Fst.snoc, h2]
    constructor
    · rintro (h | ⟨h, h3⟩)
      · exact .inl h
      · refine .inr ⟨h, fun y hy he => ?_⟩
        obtain ⟨z, hz, hzn⟩ := Fst.of_name hy
        exact h3 z ((h2 z).2 hz) (hzn.trans he)
    · rintro (h | ⟨h, h3⟩)
      · exact .inl h
      · exact .inr ⟨h, fun y hy => h3 y ((h2 y).1 hy).mem⟩
theorem insR_len (x : EV) : ∀ out : List EV, (insR out x).length ≤ out.length + 1
  | [] => by simp [insR]
  | b :: B => by
    have := insR_len x B
    rw [insR]
    split
    · simp only [List.length_cons]; omega
    · split <;> simp only [List.length_cons] <;> omega
theorem sortR_len (l : List EV) : ∀ i, (sortR l i).length ≤ i
  | 0 => by simp [sortR]
  | i + 1 => by
    have h := sortR_len l i
    rw [sortR]
    split
    · have := insR_len ‹EV› (sortR l i); omega
    · omega
theorem sortR_mem {l : List EV} {n : Nat} {e : EV} (hn : l.length = n) (h : e ∈ sortR l n) : e ∈ l := by
  have h1 := (((sortR_spec l n (by omega)).2 e).1 h).mem
  exact List.mem_of_mem_take h1
/-- Both ways are one. -/
theorem sort_same {n : Nat} {l L : List EV} (hn : l.length = n) (hs : Sb 0 n l L) (hL : Srt 0 n L) : cpt L n = sortR l n := by
  have hl : L.length = n := hs.len.trans hn
  obtain ⟨c1, c2⟩ := cpt_spec hL hl n (Nat.le_refl _)
  obtain ⟨r1, r2⟩ := sortR_spec l n (by omega)
  refine kl_uniq c1 r1 fun e => ?_
  rw [c2, r2, List.take_of_length_le (by omega), List.take_of_length_le (by omega)]
  unfold Fst
  rw [hs.fil]
end Go.Proofs.Ytaebmhbggbpnoaa
namespace Go.Proofs.Ytaebmhbggbpnoaa
open Go.RowKit
theorem ML.es {w : World} {g n c base : Nat} {A : Option Addr} {L : List EV} (h : ML w g A n c L) (hg : base ≤ g) : Es w (fun j => base ≤ j) A n c L :=
  ⟨h.len, h.cap, fun x hx => EC_size (h.ok x hx), by rw [show (L.flatMap fun x => (EC x).toList) = flatE L from rfl, flatE_len h.ok, h.len], fun hn => by
    obtain ⟨hA, rest, hb⟩ := h.blk hn
    refine ⟨_, hA, hg, fun j u hu => ?_⟩
    rw [add_plain, hb.cell]
    have h1 : (flatE L)[j]? = some u := hu
    simp only [List.getElem?_toArray]
    rw [List.getElem?_append_left (List.getElem?_eq_some_iff.1 h1).1]
    exact h1⟩
set_option maxRecDepth 100000 in
theorem nd_sort (w : World) (S : Nat → Prop) (A : Option Addr) (n c : Nat) (l : List EV) (hx : Es w S A n c l) (hn : n ≤ 100000) :
    Calls Try.prog 83 #[.slice A n c] w fun e w' => ∃ A' k c', e = .returned (.slice A' k c') ∧ Es w' (fun j => w.heap.size ≤ j) A' k c' (sortR l n) ∧ k ≤ n ∧ Below w.heap.size w w' := by
  have HX := Lib.hid hx
  have HL := Lib.hid hx.len
  clear hx
  go_enter Try.func83, Try.ntmps83
  go_wp2_with fail
  refine (nd_clone w S A n c l HX.out hn).mono ?_
  rintro e w1 ⟨A1, c1, g, rfl, hm, hg, hb⟩
  have HM := Lib.hid hm
  have HG := Lib.hid hg
  have HB := Lib.hid hb
  clear hm hg hb
  go_wp2_with fail
  refine (nd_sortstable w1 g A1 n c1 l HM.out (by omega)).mono ?_
  rintro e w2 ⟨rfl, L2, hm2, hs2, ht2, hg2⟩
  have HM2 := Lib.hid hm2
  have HE := Lib.hid (sort_same HL.out hs2 ht2)
  have HB2 : Hid (Below w.heap.size w w2) := Lib.hid (HB.out.grown hg2 HB.out.size (fun k hk => by cases hk; exact HG.out))
  clear hm2 hs2 ht2 hg2
  go_wp2_with fail
  refine (nd_compact w2 g A1 n c1 L2 HM2.out hn).mono ?_
  rintro e w3 ⟨k, rfl, hm3, hg3⟩
  rw [HE.out] at hm3
  have HM3 := Lib.hid hm3
  have HK : Hid (k ≤ n) := Lib.hid (by have h1 := hm3.len; have h2 := sortR_len l n; omega)
  have HB3 : Hid (Below w.heap.size w w3) := Lib.hid (HB2.out.grown hg3 HB2.out.size (fun k hk => by cases hk; exact HG.out))
  clear hm3 hg3
  go_wp2_with fail
  go_ret
  exact ⟨A1, k, c1, rfl, HM3.out.es HG.out, HK.out, HB3.out⟩
end Go.Proofs.Ytaebmhbggbpnoaa
