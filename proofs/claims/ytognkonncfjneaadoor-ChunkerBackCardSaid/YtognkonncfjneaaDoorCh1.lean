/- The walks of Right, Usual, Own, knife (chunker) and of the reference's Right, Usual. Conditions: each theorem's premises. -/
import Derived.Test.YtognkonncfjneaaDoorChMem
import Derived.Test.YtognkonncfjneaaDoorMask2
namespace Go.Proofs.YtognkonncfjneaaDoor
open Go.RowKit
/-- Which rules are right. -/
def RRight (mn av mx : Int) : Prop := 1 ≤ mn ∧ mn ≤ av ∧ av ≤ mx ∧ mx ≤ 4096 ∧ ∃ k, k < 13 ∧ av = ((2 ^ k : Nat) : Int)
theorem pow12 : ∀ k, k < 21 → 2 ^ k ≤ 4096 → k < 13 := by decide +kernel
theorem ones_pow {n : Nat} (h : n ≤ 4096) : Gear.swar n = 1 ↔ ∃ k, k < 13 ∧ (n : Int) = ((2 ^ k : Nat) : Int) := by
  constructor
  · intro e
    obtain ⟨k, hk, e2⟩ := Gear.swar_pow (x := n) (by omega) e
    exact ⟨k, pow12 k (by omega) (by omega), by rw [e2]⟩
  · rintro ⟨k, hk, e⟩
    have e2 : n = 2 ^ k := by omega
    rw [e2]
    exact Gear.swar_of_pow k (by omega)
theorem pow_4096 : ∀ k, k < 13 → 2 ^ k ≤ 4096 := by decide +kernel
theorem rule_right (r : Ch.Rule) : RRight (r.mn : Int) ((2 ^ r.k : Nat) : Int) (r.mx : Int) := by
  obtain ⟨seed, mn, k, mx, few, h1, h2, h3, h4, hk⟩ := r
  exact ⟨by show (1 : Int) ≤ (mn : Int); omega, by show (mn : Int) ≤ ((2 ^ k : Nat) : Int); omega, by show ((2 ^ k : Nat) : Int) ≤ (mx : Int); omega, by show (mx : Int) ≤ 4096; omega, k, hk, rfl⟩
/-- A right rule, as one. -/
theorem right_rule {seed : Nat} {mn av mx : Int} (hs : seed < Gear.M) (h : RRight mn av mx) : ∃ r : Ch.Rule, r.seed = seed ∧ mn = (r.mn : Int) ∧ av = ((2 ^ r.k : Nat) : Int) ∧ mx = (r.mx : Int) := by
  obtain ⟨h1, h2, h3, h4, k, hk, e⟩ := h
  exact ⟨⟨seed, mn.toNat, k, mx.toNat, hs, by omega, by omega, by omega, by omega, hk⟩, rfl, by show mn = (mn.toNat : Int); omega, e, by show mx = (mx.toNat : Int); omega⟩
def RightEnd (mn av mx : Int) (e : Ending) : Prop := ∃ b, e = .returned (.bool b) ∧ (b = true ↔ RRight mn av mx)
theorem right_false {mn av mx : Int} (h : ¬ RRight mn av mx) : RightEnd mn av mx (.returned (.bool false)) := ⟨false, rfl, by simp [h]⟩
set_option maxHeartbeats 1000000 in
theorem cright_any (w : World) (seed : Nat) (mn av mx : Int) : Calls Tryd.prog 26 #[.agg #[.int .u64 (seed : Int), .int .i64 mn, .int .i64 av, .int .i64 mx]] w fun e w' => RightEnd mn av mx e ∧ Below w.heap.size w w' := by
  rcases (show mn < 1 ∨ (1 ≤ mn ∧ av < mn) ∨ (1 ≤ mn ∧ mn ≤ av ∧ mx < av) ∨ (1 ≤ mn ∧ mn ≤ av ∧ av ≤ mx ∧ 4096 < mx) ∨ (1 ≤ mn ∧ mn ≤ av ∧ av ≤ mx ∧ mx ≤ 4096) by omega) with h | ⟨h, h1⟩ | ⟨h, h1, h2⟩ | ⟨h, h1, h2, h3⟩ | ⟨h, h1, h2, h3⟩
  iterate 4
    · have HN : Hid (¬ RRight mn av mx) := Lib.hid (by unfold RRight; rintro ⟨_, _, _, _, _⟩; omega)
      go_enter Tryd.func26, Tryd.ntmps26
      go_wp2_with fail
      go_ret
      exact ⟨right_false HN.out, (Below.refl _ w).alloc (Nat.le_refl _) _⟩
  · obtain ⟨n, rfl⟩ : ∃ n : Nat, av = (n : Int) := ⟨av.toNat, by omega⟩
    have HO := Lib.hid (fun w => ones_any w n (by omega))
    have HP := Lib.hid (ones_pow (n := n) (by omega))
    obtain ⟨r, hr⟩ : ∃ r, r = Gear.swar n := ⟨_, rfl⟩
    rw [← hr] at HO HP
    clear hr
    by_cases hr1 : r = 1
    · have HR : Hid (RRight mn (n : Int) mx) := Lib.hid ⟨h, h1, h2, h3, HP.out.1 hr1⟩
      subst hr1
      go_enter Tryd.func26, Tryd.ntmps26
      go_wp2_with fail
      refine (HO.out _).mono ?_
      rintro e w' ⟨rfl, rfl⟩
      go_wp2_with fail
      go_ret
      exact ⟨⟨true, rfl, by simp [HR.out]⟩, (Below.refl _ w).alloc (Nat.le_refl _) _⟩
    · have HN : Hid (¬ RRight mn (n : Int) mx) := Lib.hid fun hh => hr1 (HP.out.2 hh.2.2.2.2)
      have hb : ((r : Int) == 1) = false := by simp; omega
      clear hr1
      go_enter Tryd.func26, Tryd.ntmps26
      go_wp2_with fail
      refine (HO.out _).mono ?_
      rintro e w' ⟨rfl, rfl⟩
      go_wp2_with fail
      go_ret
      exact ⟨right_false HN.out, (Below.refl _ w).alloc (Nat.le_refl _) _⟩
set_option maxHeartbeats 1000000 in
theorem rright_any (w : World) (seed : Nat) (mn av mx : Int) : Calls Tryd.prog 27 #[.agg #[.int .u64 (seed : Int), .int .i64 mn, .int .i64 av, .int .i64 mx]] w fun e w' => RightEnd mn av mx e ∧ Below w.heap.size w w' := by
  go_enter Tryd.func27, Tryd.ntmps27
  go_wp2_with fail
  go_loopw [3, 4] (fun v3 v4 wr => wr = w.alloc (.cells #[.int .u64 (seed : Int), .int .i64 mn, .int .i64 av, .int .i64 mx] 41) ∧ ∃ (b : Bool) (j : Nat), j ≤ 13 ∧ v3 = .bool b ∧ v4 = .int .i64 ((2 ^ j : Nat) : Int) ∧ Hid (b = true ↔ ∃ k, k < j ∧ av = ((2 ^ k : Nat) : Int))) (fun _ v4 _ => 8192 - (intOf v4).toNat)
  case atStart => exact ⟨rfl, false, 0, by omega, rfl, rfl, Lib.hid (by simp)⟩
  case round =>
    obtain ⟨rfl, b, j, hj, rfl, rfl, HB⟩ := hrel
    obtain ⟨p, hp⟩ : ∃ p, p = 2 ^ j := ⟨_, rfl⟩
    have hp1 : 1 ≤ p := by rw [hp]; exact Nat.one_le_two_pow
    have HP := Lib.hid hp
    rw [← hp]
    clear hp
    by_cases hlt : j < 13
    · have hp2 : p ≤ 4096 := by rw [HP.out]; exact pow_4096 j hlt
      have hp3 : (p : Int) ≤ 4096 := by omega
      have HD : Hid (((p : Int) * 2) = ((2 ^ (j + 1) : Nat) : Int)) := Lib.hid (by rw [HP.out, Nat.pow_succ]; omega)
      have hmeas : 8192 - p * 2 < 8192 - p := by omega
      by_cases hb : b = true
      · subst hb
        have HB2 : Hid (true = true ↔ ∃ k, k < j + 1 ∧ av = ((2 ^ k : Nat) : Int)) := Lib.hid (by
          obtain ⟨k, hk, e⟩ := HB.out.1 rfl
          exact ⟨fun _ => ⟨k, by omega, e⟩, fun _ => rfl⟩)
        go_wp2_with fail
        go_roundw
        case rel => exact ⟨trivial, true, j + 1, by omega, rfl, by rw [HD.out], HB2⟩
        case measure => simp [intOf]; omega
      · have hb' : b = false := by simpa using hb
        subst hb'
        by_cases he : av = (p : Int)
        · have hbe : (av == (p : Int)) = true := by simpa using he
          have HB2 : Hid (true = true ↔ ∃ k, k < j + 1 ∧ av = ((2 ^ k : Nat) : Int)) := Lib.hid ⟨fun _ => ⟨j, by omega, by rw [he, HP.out]⟩, fun _ => rfl⟩
          clear he
          go_wp2_with fail
          go_roundw
          case rel => exact ⟨trivial, true, j + 1, by omega, rfl, by rw [HD.out], HB2⟩
          case measure => simp [intOf]; omega
        · have hbe : (av == (p : Int)) = false := by simpa using he
          have HB2 : Hid (false = true ↔ ∃ k, k < j + 1 ∧ av = ((2 ^ k : Nat) : Int)) := Lib.hid ⟨fun h => Bool.noConfusion h, fun ⟨k, hk, e⟩ => by
            rcases Nat.lt_succ_iff_lt_or_eq.1 hk with h | h
            · exact HB.out.2 ⟨k, h, e⟩
            · subst h; rw [← HP.out] at e; exact absurd e he⟩
          clear he
          go_wp2_with fail
          go_roundw
          case rel => exact ⟨trivial, false, j + 1, by omega, rfl, by rw [HD.out], HB2⟩
          case measure => simp [intOf]; omega
    · obtain rfl : j = 13 := by omega
      have hp2 : p = 8192 := by rw [HP.out]
      subst hp2
      clear HP
      rcases (show mn < 1 ∨ (1 ≤ mn ∧ av < mn) ∨ (1 ≤ mn ∧ mn ≤ av ∧ mx < av) ∨ (1 ≤ mn ∧ mn ≤ av ∧ av ≤ mx ∧ 4096 < mx) ∨ (1 ≤ mn ∧ mn ≤ av ∧ av ≤ mx ∧ mx ≤ 4096) by omega) with h | ⟨h, h1⟩ | ⟨h, h1, h2⟩ | ⟨h, h1, h2, h3⟩ | ⟨h, h1, h2, h3⟩
      iterate 4
        · have HN : Hid (¬ RRight mn av mx) := Lib.hid (by unfold RRight; rintro ⟨_, _, _, _, _⟩; omega)
          clear HB
          go_wp2_with fail
          go_ret
          exact ⟨right_false HN.out, (Below.refl _ w).alloc (Nat.le_refl _) _⟩
      · have HR : Hid (b = true ↔ RRight mn av mx) := Lib.hid ⟨fun hb => ⟨h, h1, h2, h3, HB.out.1 hb⟩, fun hh => HB.out.2 hh.2.2.2.2⟩
        clear HB
        go_wp2_with fail
        go_ret
        exact ⟨⟨b, rfl, HR.out⟩, (Below.refl _ w).alloc (Nat.le_refl _) _⟩
theorem usual_any (w : World) : Calls Tryd.prog 31 #[] w fun e w' => e = .returned (.agg #[.int .u64 0, .int .i64 16, .int .i64 32, .int .i64 64]) ∧ Below w.heap.size w w' := by
  go_enter Tryd.func31, Tryd.ntmps31
  go_wp2_with fail
  exact bodyPost_ret (v := .agg #[.int .u64 0, .int .i64 16, .int .i64 32, .int .i64 64]) (by simp [results, Tryd.f31, go_sem]) rfl ⟨rfl, (Below.refl _ w).alloc (Nat.le_refl _) _⟩
theorem rusual_any (w : World) : Calls Tryd.prog 32 #[] w fun e w' => e = .returned (.agg #[.int .u64 0, .int .i64 16, .int .i64 32, .int .i64 64]) ∧ Below w.heap.size w w' := by
  go_enter Tryd.func32, Tryd.ntmps32
  go_wp2_with fail
  exact bodyPost_ret (v := .agg #[.int .u64 0, .int .i64 16, .int .i64 32, .int .i64 64]) (by simp [results, Tryd.f32, go_sem]) rfl ⟨rfl, (Below.refl _ w).alloc (Nat.le_refl _) _⟩
theorem own_any (w : World) (seed : Nat) (mn av mx : Int) : Calls Tryd.prog 23 #[.agg #[.int .u64 (seed : Int), .int .i64 mn, .int .i64 av, .int .i64 mx]] w fun e w' => e = .returned (.agg #[.int .u64 (seed : Int), .int .i64 mn, .int .i64 av, .int .i64 mx]) ∧ Below w.heap.size w w' := by
  go_enter Tryd.func23, Tryd.ntmps23
  go_wp2_with fail
  exact bodyPost_ret (v := .agg #[.int .u64 (seed : Int), .int .i64 mn, .int .i64 av, .int .i64 mx]) (by simp [results, Tryd.f23, go_sem]) rfl ⟨rfl, ((Below.refl _ w).alloc (Nat.le_refl _) _).alloc (by simp) _⟩
/-- A right rule's answers. -/
theorem cright_yes (w : World) (r : Ch.Rule) : Calls Tryd.prog 26 #[.agg #[.int .u64 (r.seed : Int), .int .i64 (r.mn : Int), .int .i64 ((2 ^ r.k : Nat) : Int), .int .i64 (r.mx : Int)]] w fun e w' => e = .returned (.bool true) ∧ Below w.heap.size w w' := by
  refine (cright_any w r.seed r.mn ((2 ^ r.k : Nat) : Int) r.mx).mono ?_
  rintro e w' ⟨⟨b, rfl, hb⟩, hw⟩
  exact ⟨by rw [hb.2 (rule_right r)], hw⟩
theorem rright_yes (w : World) (r : Ch.Rule) : Calls Tryd.prog 27 #[.agg #[.int .u64 (r.seed : Int), .int .i64 (r.mn : Int), .int .i64 ((2 ^ r.k : Nat) : Int), .int .i64 (r.mx : Int)]] w fun e w' => e = .returned (.bool true) ∧ Below w.heap.size w w' := by
  refine (rright_any w r.seed r.mn ((2 ^ r.k : Nat) : Int) r.mx).mono ?_
  rintro e w' ⟨⟨b, rfl, hb⟩, hw⟩
  exact ⟨by rw [hb.2 (rule_right r)], hw⟩
theorem cright_no (w : World) (seed : Nat) (mn av mx : Int) (h : ¬ RRight mn av mx) : Calls Tryd.prog 26 #[.agg #[.int .u64 (seed : Int), .int .i64 mn, .int .i64 av, .int .i64 mx]] w fun e w' => e = .returned (.bool false) ∧ Below w.heap.size w w' := by
  refine (cright_any w seed mn av mx).mono ?_
  rintro e w' ⟨⟨b, rfl, hb⟩, hw⟩
  have : b = false := by
    cases b
    · rfl
    · exact absurd (hb.1 rfl) h
  exact ⟨by rw [this], hw⟩
theorem rright_no (w : World) (seed : Nat) (mn av mx : Int) (h : ¬ RRight mn av mx) : Calls Tryd.prog 27 #[.agg #[.int .u64 (seed : Int), .int .i64 mn, .int .i64 av, .int .i64 mx]] w fun e w' => e = .returned (.bool false) ∧ Below w.heap.size w w' := by
  refine (rright_any w seed mn av mx).mono ?_
  rintro e w' ⟨⟨b, rfl, hb⟩, hw⟩
  have : b = false := by
    cases b
    · rfl
    · exact absurd (hb.1 rfl) h
  exact ⟨by rw [this], hw⟩
/-- A gear's mask at a rule. -/
theorem mask_rule (w : World) (r : Ch.Rule) (hT : Tab64 w) : Calls Tryd.prog 15 #[.int .i64 ((2 ^ r.k : Nat) : Int)] w fun e w' => e = .returned (.int .u64 ((Gear.maskK r.k : Nat) : Int)) ∧ w = w' := mask_pow w r.k (by have := r.hk; omega) hT
theorem maskK_lt : ∀ k, k < 21 → Gear.maskK k < Gear.M := by decide +kernel
end Go.Proofs.YtognkonncfjneaaDoor
