/- The walk of slices.Clone over entries. Conditions: each theorem's premises. -/
import Derived.Test.YtaebmhbggbpnoaaGNs11
import Derived.Test.YtaebmhbggbpnoaaGNd14
namespace Go.Proofs.Ytaebmhbggbpnoaa
open Go.RowKit
theorem eql_nil96 (w : World) (a : Option Addr) (n c n' c' : Nat) : (binOp .eql 96 (.slice a n c) (.slice none n' c')).run Try.prog w = .ok (.bool a.isNone) w := Lib.run_eql_slice_nil w _ _ a n c n' c' Try.underlying96
theorem Es.ok {w : World} {S : Nat → Prop} {A : Option Addr} {n c : Nat} {l : List EV} (h : Es w S A n c l) : ∀ e ∈ l, e.ok := fun e he => by
  have := h.all e he
  simp [EC, u8s] at this
  exact this
theorem flatE_one (l : List EV) : ∀ u ∈ flatE l, u.oneCell' = true := fun u hu => by
  obtain ⟨e, he, hu⟩ := List.mem_flatMap.1 hu
  exact (Array.all_eq_true_iff_forall_mem.1 (EC_one e)) u (by simpa using hu)
theorem ML.of_own {w : World} {A : Option Addr} {n c base : Nat} {L : List EV} (h : w.ownsRow base 144 34 (.slice A n c) n (flatE L)) (hok : ∀ e ∈ L, e.ok) (hl : L.length = n) : ∃ g, base ≤ g ∧ ML w g A n c L := by
  obtain ⟨_, ⟨h1, rfl⟩ | ⟨g, cap, cur, h1, hg, hh, hle, _, hsz, ht⟩⟩ := h
  · injection h1 with h1 h2 h3
    subst h1
    subst h3
    exact ⟨base, Nat.le_refl _, hl, Nat.le_refl _, hok, fun h => absurd h (by omega)⟩
  · injection h1 with h1 h2 h3
    subst h1
    subst h3
    refine ⟨g, hg, hl, hle, hok, fun _ => ⟨rfl, cur.toList.drop (n * 34), ?_⟩⟩
    rw [← ht, List.take_append_drop]
    exact hh
theorem ML.own0 (w : World) (A : Option Addr) (g c : Nat) : ML w g A 0 c [] := ⟨rfl, Nat.zero_le _, fun _ h => by simp at h, fun h => absurd h (by omega)⟩
set_option maxRecDepth 100000 in
theorem nd_clone (w : World) (S : Nat → Prop) (A : Option Addr) (n c : Nat) (l : List EV) (hx : Es w S A n c l) (hn : n ≤ 100000) :
    Calls Try.prog 114 #[.slice A n c] w fun e w' => ∃ A' c' g, e = .returned (.slice A' n c') ∧ ML w' g A' n c' l ∧ w.heap.size ≤ g ∧ Below w.heap.size w w' := by
  have qT := eql_nil96
  obtain ⟨i0, hi0, hz0, hz1, hz2⟩ := info_parts info144
  cases A with
  | none =>
    have h0 : n = 0 := by
      rcases Nat.eq_zero_or_pos n with h0 | h0
      · exact h0
      · obtain ⟨_, h', _⟩ := hx.rd.2 h0; cases h'
    obtain rfl : n = 0 := h0
    obtain rfl : l = [] := List.eq_nil_of_length_eq_zero hx.len
    go_enter Try.func114, Try.ntmps114
    go_wp2_with fail
    go_ret
    exact ⟨_, _, w.heap.size, rfl, ML.own0 _ _ _ _, Nat.le_refl _, Below.refl _ _⟩
  | some ad =>
    have hb0 : Below w.heap.size w (w.alloc (.cells #[] 144)) := (Below.refl _ _).alloc (Nat.le_refl _) _
    have r1 := (hx.after (by omega) hb0).rd
    have HL := Lib.hid hx.len
    have HOK := Lib.hid hx.ok
    clear hx
    go_enter Try.func114, Try.ntmps114
    go_wp2_with (at_builtin; refine wpList_append_any _ rfl (.tmp 5) (.tmp 6) 96 rfl w.heap.size 144 i0 _ 34 _ Try.underlying96 hi0 hz0 hz1 hz2 (EC_size (e := noEnt) noName_len) (by omega) (.slice (some ⟨w.heap.size, 0, none⟩) 0 0) 0 [] rfl (World.ownsRow_made w #[] 0 (Nat.le_refl _) (by simp [maxLen]) rfl) S (some ad) n c (flatE l) rfl r1 (flatE_one l) (by simp only [maxLen]; omega) (by omega) (by simp) ?_; intro v1 w1 hown hg hat)
    go_ret
    have hb1 : Below w.heap.size w w1 := hb0.grown hg (by simp) (by simp [Value.ownBlock])
    obtain ⟨A1, c1, rfl, hc1⟩ := own_shape hown
    simp only [Nat.zero_add, List.nil_append] at hown ⊢
    obtain ⟨g, hg1, hm⟩ := ML.of_own hown HOK.out HL.out
    exact ⟨A1, c1, g, rfl, hm, hg1, hb1⟩
set_option maxRecDepth 100000 in
theorem nd_names (w : World) (a b : EV) :
    Calls Try.prog 118 #[.agg (EC a), .agg (EC b)] w fun e w' => e = .returned (.bool (decide (a.name = b.name))) ∧ Below w.heap.size w w' := by
  obtain ⟨RA, hRA⟩ : ∃ R, R = EC a := ⟨_, rfl⟩
  obtain ⟨RB, hRB⟩ : ∃ R, R = EC b := ⟨_, rfl⟩
  have e0 : RA[0]? = some (.string a.name) := by rw [hRA]; exact EC_0 a
  have e1 : RB[0]? = some (.string b.name) := by rw [hRB]; exact EC_0 b
  have HB := Lib.hid (((Below.refl w.heap.size w).alloc (Nat.le_refl _) (.cells RA 144)).alloc (by simp) (.cells RB 144))
  have HE : Hid ((a.name.toList == b.name.toList) = decide (a.name = b.name)) := Lib.hid (by
    by_cases h : a.name = b.name
    · simp [h]
    · rw [decide_eq_false h]
      simp only [beq_eq_false_iff_ne, ne_eq]
      exact fun e => h (name_ext e))
  rw [← hRA, ← hRB]
  clear hRA hRB
  go_enter Try.func118, Try.ntmps118
  go_wp2_with fail
  go_ret
  exact ⟨ret_bool HE.out, HB.out⟩
end Go.Proofs.Ytaebmhbggbpnoaa
