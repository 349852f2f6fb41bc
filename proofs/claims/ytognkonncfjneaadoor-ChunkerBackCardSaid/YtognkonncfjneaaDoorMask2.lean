/- The walks of Mask and of the reference's Mask. Conditions: each theorem's premises. -/
import Derived.Test.YtognkonncfjneaaDoorMask1
namespace Go.Proofs.YtognkonncfjneaaDoor
open Go.RowKit
theorem mask_xor : ∀ k, k < 21 → bits .xor .u64 IntKind.u64.max (18446744073709551615 / 2 ^ k) = ((Gear.maskK k : Nat) : Int) := by decide +kernel
set_option maxHeartbeats 1000000 in
theorem mask_pow (w : World) (k : Nat) (hk : k < 21) (hT : Tab64 w) :
    Calls Tryd.prog 15 #[.int .i64 ((2 ^ k : Nat) : Int)] w fun e w' => e = .returned (.int .u64 ((Gear.maskK k : Nat) : Int)) ∧ w = w' := by
  have HZ := Lib.hid (tz_any w k hk hT)
  obtain ⟨p1, p2⟩ := pow_le k hk
  have HO := Lib.hid (ones_any w (2 ^ k) p2)
  rw [Gear.swar_of_pow k hk] at HO
  obtain ⟨x, hx⟩ : ∃ x, x = 2 ^ k := ⟨_, rfl⟩
  rw [← hx] at HZ HO p1 p2 ⊢
  clear hx hT
  go_enter Tryd.func15, Tryd.ntmps15
  go_wp2_with fail
  refine (HO.out).mono ?_
  rintro e w' ⟨rfl, rfl⟩
  go_wp2_with fail
  refine (HZ.out).mono ?_
  rintro e w' ⟨rfl, rfl⟩
  go_wp2_with fail
  all_goals go_ret
  all_goals refine ⟨?_, rfl⟩
  all_goals show Ending.returned (.int .u64 (bits .xor .u64 IntKind.u64.max (18446744073709551615 / 2 ^ k))) = _
  all_goals rw [mask_xor k hk]
/-- No power of two up to 1 << 20. -/
def NoPow (x : Int) : Prop := ∀ k, k < 21 → x ≠ ((2 ^ k : Nat) : Int)
set_option maxHeartbeats 1000000 in
theorem mask_no (w : World) (x : Int) (hx : NoPow x) :
    Calls Tryd.prog 15 #[.int .i64 x] w fun e w' => e = .returned (.int .u64 0) ∧ w = w' := by
  rcases (show x < 1 ∨ (1 ≤ x ∧ 1048576 < x) ∨ (1 ≤ x ∧ x ≤ 1048576) by omega) with h | ⟨h, h'⟩ | ⟨h, h'⟩
  · clear hx
    go_enter Tryd.func15, Tryd.ntmps15
    go_wp2_with fail
    go_ret
    exact ⟨rfl, rfl⟩
  · clear hx
    go_enter Tryd.func15, Tryd.ntmps15
    go_wp2_with fail
    go_ret
    exact ⟨rfl, rfl⟩
  · obtain ⟨n, rfl⟩ : ∃ n : Nat, x = (n : Int) := ⟨x.toNat, by omega⟩
    have HO := Lib.hid (ones_any w n (by omega))
    have hne : ¬ (((Gear.swar n : Nat) : Int) = 1) := fun e => by
      obtain ⟨k, hk, e2⟩ := Gear.swar_pow (x := n) (by omega) (by omega)
      exact hx k (by omega) (by rw [e2])
    clear hx
    obtain ⟨r, hr⟩ : ∃ r, r = Gear.swar n := ⟨_, rfl⟩
    rw [← hr] at HO hne
    clear hr
    have hb : ((r : Int) != 1) = true := by simpa using hne
    clear hne
    go_enter Tryd.func15, Tryd.ntmps15
    go_wp2_with fail
    refine (HO.out).mono ?_
    rintro e w' ⟨rfl, rfl⟩
    go_wp2_with fail
    go_ret
    exact ⟨rfl, rfl⟩
theorem pow_w : ∀ k, k < 21 → wrap64 ((2 : Int) ^ k) = ((2 ^ k : Nat) : Int) := by decide +kernel
theorem mask_w : ∀ k, k < 21 → IntKind.u64.wrap (18446744073709551615 - IntKind.u64.wrap (IntKind.u64.wrap ((2 : Int) ^ (64 - k)) - 1)) = ((Gear.maskK k : Nat) : Int) := by decide +kernel
/-- What a mask of x is. -/
def Masked (x : Int) (e : Ending) : Prop := (∃ k, k < 21 ∧ x = ((2 ^ k : Nat) : Int) ∧ e = .returned (.int .u64 ((Gear.maskK k : Nat) : Int))) ∨ NoPow x ∧ e = .returned (.int .u64 0)
set_option maxHeartbeats 1000000 in
theorem rmask_any (w : World) (x : Int) : Calls Tryd.prog 16 #[.int .i64 x] w fun e w' => Masked x e ∧ w = w' := by
  go_enter Tryd.func16, Tryd.ntmps16
  go_wp2_with fail
  go_loopw [3] (fun v3 wr => w = wr ∧ ∃ j : Nat, j ≤ 21 ∧ v3 = .int .u64 (j : Int) ∧ Hid (∀ k, k < j → x ≠ ((2 ^ k : Nat) : Int))) (fun v3 _ => 21 - (intOf v3).toNat)
  case atStart => exact ⟨rfl, 0, by omega, rfl, Lib.hid fun k h => absurd h (by omega)⟩
  case round =>
    obtain ⟨rfl, j, hj, rfl, HN⟩ := hrel
    by_cases hlt : j < 21
    · have hj20 : (j : Int) ≤ 20 := by omega
      have HW := Lib.hid (pow_w j hlt)
      by_cases he : x = ((2 ^ j : Nat) : Int)
      · have hb : (x == wrap64 (2 ^ j)) = true := by rw [HW.out]; simpa using he
        have HE := Lib.hid he
        clear he
        go_wp2_with fail
        refine bodyPost_ret (results_tmp rfl _ _ _) rfl ?_
        refine ⟨.inl ⟨j, hlt, HE.out, ?_⟩, rfl⟩
        show Ending.returned (.int .u64 (IntKind.u64.wrap (18446744073709551615 - IntKind.u64.wrap (IntKind.u64.wrap ((2 : Int) ^ (64 - j)) - 1)))) = _
        rw [mask_w j hlt]
      · have hb : (x == wrap64 (2 ^ j)) = false := by rw [HW.out]; simpa using he
        have HE := Lib.hid he
        clear he
        go_wp2_with fail
        go_roundw
        case rel => exact ⟨trivial, j + 1, by omega, by go_num, Lib.hid fun k hk => (Nat.lt_succ_iff_lt_or_eq.1 hk).elim (HN.out k) (fun e => by rw [e]; exact HE.out)⟩
        case measure => simp [intOf]; omega
    · obtain rfl : j = 21 := by omega
      go_wp2_with fail
      go_ret
      exact ⟨.inr ⟨HN.out, rfl⟩, rfl⟩
theorem mask_any (w : World) (x : Int) (hT : Tab64 w) : Calls Tryd.prog 15 #[.int .i64 x] w fun e w' => Masked x e ∧ w = w' := by
  by_cases h : NoPow x
  · exact (mask_no w x h).mono fun e w' ⟨he, hw⟩ => ⟨.inr ⟨h, he⟩, hw⟩
  · obtain ⟨k, hk, rfl⟩ : ∃ k, k < 21 ∧ x = ((2 ^ k : Nat) : Int) := by
      apply Classical.byContradiction
      intro hn
      exact h fun k hk e => hn ⟨k, hk, e⟩
    exact (mask_pow w k hk hT).mono fun e w' ⟨he, hw⟩ => ⟨.inl ⟨k, hk, rfl, he⟩, hw⟩
end Go.Proofs.YtognkonncfjneaaDoor
