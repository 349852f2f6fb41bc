/- The walk of GearMasks. Conditions: each theorem's premises. -/
import Derived.Test.YtognkonncfjneaaDoorAlive1
namespace Go.Proofs.YtognkonncfjneaaDoor
open Go.RowKit
theorem mask_lt : ∀ k, k < 21 → Gear.maskK k < 18446744073709551616 ∧ (Gear.maskK k = 0 → k = 0) ∧ (k < 20 → Gear.maskK (k + 1) &&& Gear.maskK k = Gear.maskK k ∧ Gear.maskK (k + 1) ≠ Gear.maskK k) := by decide +kernel
set_option maxHeartbeats 1000000 in
theorem gearMasks_any (w : World) (x : Int) (hT : Tab64 w) : Calls Tryd.prog 4 #[.int .i64 x] w fun e w' => e = .returned (.bool true) ∧ Below w.heap.size w w' := by
  have HA := Lib.hid (gearAlive_any w hT)
  by_cases hn : NoPow x
  · have HM := Lib.hid (mask_no w x hn)
    have HR := Lib.hid (rmask_any w x)
    have HN := Lib.hid hn
    have h1 : (x != 1) = true := by have := hn 0 (by omega); simpa using this
    clear hn hT
    go_enter Tryd.func4, Tryd.ntmps4
    go_wp2_with fail
    refine (HM.out).mono ?_
    rintro e w1 ⟨rfl, rfl⟩
    go_wp2_with fail
    refine (HR.out).mono ?_
    rintro e w1 ⟨⟨k, hk, hx, -⟩ | ⟨-, rfl⟩, rfl⟩
    · exact absurd HN.out (not_noPow hk hx)
    go_wp2_with fail
    all_goals (refine (HA.out).mono ?_; rintro e w2 ⟨rfl, hb⟩; have HB := Lib.hid hb; clear hb; go_wp2_with fail; go_ret; exact ⟨rfl, HB.out⟩)
  · obtain ⟨k, hk, hx⟩ : ∃ k, k < 21 ∧ x = ((2 ^ k : Nat) : Int) := by
      apply Classical.byContradiction
      intro hn2
      exact hn fun k hk e => hn2 ⟨k, hk, e⟩
    have HM := Lib.hid (mask_pow w k hk hT)
    have HR := Lib.hid (rmask_any w x)
    obtain ⟨m0, hm0⟩ : ∃ m, m = Gear.maskK k := ⟨_, rfl⟩
    have HX := Lib.hid hx
    rw [← hx, ← hm0] at HM
    have HE : Hid (∀ j, j < 21 → x = ((2 ^ j : Nat) : Int) → Gear.maskK j = m0) := Lib.hid fun j hj e => by
      rw [HX.out] at e
      have e2 : 2 ^ k = 2 ^ j := by omega
      rw [hm0, (Nat.pow_right_inj (by omega)).1 e2]
    obtain ⟨pl, ph⟩ := pow_le k hk
    obtain ⟨ml, mz, mn⟩ := mask_lt k hk
    rw [← hm0] at ml mz mn
    have x1 : 1 ≤ x := by rw [hx]; omega
    have x2 : x ≤ 1048576 := by rw [hx]; omega
    by_cases hk20 : k < 20
    · have x3 : x ≤ 524288 := by
        have := (pow_le (k + 1) (by omega)).2
        rw [Nat.pow_succ] at this
        rw [hx]
        omega
      have HM2 := Lib.hid (mask_pow w (k + 1) (by omega) hT)
      have e2x : ((2 ^ (k + 1) : Nat) : Int) = 2 * x := by rw [hx, Nat.pow_succ]; omega
      obtain ⟨m1, hm1⟩ : ∃ m, m = Gear.maskK (k + 1) := ⟨_, rfl⟩
      have ml1 : m1 < 18446744073709551616 := by rw [hm1]; exact (mask_lt (k + 1) (by omega)).1
      obtain ⟨q1, q2⟩ := mn hk20
      rw [← hm1] at q1 q2
      rw [e2x, ← hm1] at HM2
      have hand : bits .and .u64 (m1 : Int) (m0 : Int) = (m0 : Int) := by rw [u64_and_nat _ _ ml1 ml, q1]
      have hne : ((m1 : Int) != (m0 : Int)) = true := by simpa using fun e : (m1 : Int) = (m0 : Int) => q2 (by omega)
      have hzx : ((m0 : Int) == 0) = false ∨ (m0 = 0 ∧ x = 1) := by
        by_cases z : m0 = 0
        · right; exact ⟨z, by rw [hx, mz z]; rfl⟩
        · left; simpa using z
      clear hx hn hT e2x hm0 hm1 mn q1 q2 mz pl ph ml ml1
      go_enter Tryd.func4, Tryd.ntmps4
      go_wp2_with fail
      refine (HM.out).mono ?_
      rintro e w1 ⟨rfl, rfl⟩
      go_wp2_with fail
      refine (HR.out).mono ?_
      rintro e w1 ⟨⟨j, hj, hx, rfl⟩ | ⟨hno, -⟩, rfl⟩
      case inr => exact absurd hno (not_noPow hk HX.out)
      rw [HE.out j hj hx]
      clear hx HR HM
      rcases hzx with hz | ⟨rfl, rfl⟩
      · go_wp2_with fail
        refine (HM2.out).mono ?_
        rintro e w1 ⟨rfl, rfl⟩
        go_wp2_with fail
        refine (HA.out).mono ?_
        rintro e w2 ⟨rfl, hb⟩
        have HB := Lib.hid hb
        clear hb
        go_wp2_with fail
        go_ret
        exact ⟨rfl, HB.out⟩
      · rw [show ((0 : Nat) : Int) = 0 from rfl] at hand hne ⊢
        go_wp2_with fail
        all_goals (refine (HM2.out).mono ?_; rintro e w1 ⟨rfl, rfl⟩; go_wp2_with fail; refine (HA.out).mono ?_; rintro e w2 ⟨rfl, hb⟩; have HB := Lib.hid hb; clear hb; go_wp2_with fail; go_ret; exact ⟨rfl, HB.out⟩)
    · obtain rfl : k = 20 := by omega
      have x3 : 524288 < x := by rw [hx]; decide
      clear hx hn hT hm0 mn mz pl ph ml
      go_enter Tryd.func4, Tryd.ntmps4
      go_wp2_with fail
      refine (HM.out).mono ?_
      rintro e w1 ⟨rfl, rfl⟩
      go_wp2_with fail
      refine (HR.out).mono ?_
      rintro e w1 ⟨⟨j, hj, hx, rfl⟩ | ⟨hno, -⟩, rfl⟩
      case inr => exact absurd hno (not_noPow hk HX.out)
      rw [HE.out j hj hx]
      clear hx HR HM
      go_wp2_with fail
      all_goals (refine (HA.out).mono ?_; rintro e w2 ⟨rfl, hb⟩; have HB := Lib.hid hb; clear hb; go_wp2_with fail; go_ret; exact ⟨rfl, HB.out⟩)
end Go.Proofs.YtognkonncfjneaaDoor
