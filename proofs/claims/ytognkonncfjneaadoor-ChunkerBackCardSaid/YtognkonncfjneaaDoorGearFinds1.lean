/- The walk of GearFinds. Conditions: each theorem's premises. -/
import Derived.Test.YtognkonncfjneaaDoorAlive1
namespace Go.Proofs.YtognkonncfjneaaDoor
open Go.RowKit
theorem Tab64.below {w w' : World} (h : Tab64 w) (hb : Below w.heap.size w w') : Tab64 w' := fun j hj => (hb.cell (p := ⟨1, j, none⟩) (World.block_lt_of_cell? w _ (h j hj))).trans (h j hj)
theorem Found.int {v : Nat → Nat} {mask N : Nat} {e : Ending} (h : Found v mask N e) : ∃ a : Int, e = .returned (.int .i64 a) ∧ -1 ≤ a ∧ a < (N : Int) ∧ Found v mask N (.returned (.int .i64 a)) := by
  rcases h with ⟨rfl, h⟩ | ⟨k, hk, rfl, h⟩
  · exact ⟨-1, rfl, by omega, by omega, .inl ⟨rfl, h⟩⟩
  · exact ⟨(k : Int), rfl, by omega, by omega, .inr ⟨k, hk, rfl, h⟩⟩
/-- Where the first one without a bit is. -/
theorem Found.here {v : Nat → Nat} {mask N : Nat} {a : Int} (h : Found v mask N (.returned (.int .i64 a))) {k : Nat} (hk : k < N) (hz : v (k + 1) &&& mask = 0) (hb : ∀ j, j < k → v (j + 1) &&& mask ≠ 0) : a = (k : Int) := by
  rcases h with ⟨_, h⟩ | ⟨k0, hk0, e, h0, h⟩
  · exact absurd hz (h k hk)
  · injection e with e
    injection e with _ e
    rcases Nat.lt_trichotomy k0 k with h1 | h1 | h1
    · exact absurd h0 (hb k0 h1)
    · omega
    · exact absurd hz (h k h1)
theorem Found.nowhere {v : Nat → Nat} {mask N : Nat} {a : Int} (h : Found v mask N (.returned (.int .i64 a))) (hb : ∀ j, j < N → v (j + 1) &&& mask ≠ 0) : a = -1 := by
  rcases h with ⟨e, _⟩ | ⟨k0, hk0, e, h0, h⟩
  · injection e with e
    injection e
  · exact absurd h0 (hb k0 hk0)
set_option maxRecDepth 10000 in
set_option maxHeartbeats 2000000 in
theorem gearFinds_any (w : World) (seed mask : Nat) (hs : seed < Gear.M) (hm : mask < Gear.M) (S : Nat → Prop) (A : Option Addr) (n c : Nat) (bs : List UInt8) (hx : Bs w S A n c bs) (hT : Tab64 w) :
    Calls Tryd.prog 5 #[.int .u64 (seed : Int), .slice A n c, .int .u64 (mask : Int)] w fun e w' => e = .returned (.bool true) ∧ Below w.heap.size w w' := by
  have HT := Lib.hid hT
  have HX := Lib.hid hx.old
  clear hT hx
  by_cases hn : 300 < n
  · have hn' : 300 < (n : Int) := by omega
    go_enter Tryd.func5, Tryd.ntmps5
    go_wp2_with fail
    refine (gearAlive_any w HT.out).mono ?_
    rintro e w2 ⟨rfl, hb⟩
    have HB := Lib.hid hb
    clear hb
    go_wp2_with fail
    go_ret
    exact ⟨rfl, HB.out⟩
  have hn' : (n : Int) ≤ 300 := by omega
  go_enter Tryd.func5, Tryd.ntmps5
  go_wp2_with fail
  refine (new_any _ seed hs).mono ?_
  rintro e w1 ⟨rfl, hT1, hb1⟩
  have HX1 := Lib.hid (HX.out.under (fun k hk => hk) hb1)
  have HB1 := Lib.hid hb1
  have HT1 := Lib.hid hT1
  have hl1 := hT1.lt
  clear hT1 hb1
  go_wp2_with fail
  refine (find_any w1 w.heap.size seed _ A n c bs mask hm (.inr ⟨_, HT1.out⟩) HX1.out (by omega) (fun k hk => by have : k < w.heap.size := hk; omega)).mono ?_
  rintro e w2 ⟨hF, hg2⟩
  obtain ⟨a, rfl, ha1, ha2, hF⟩ := hF.int
  have HF := Lib.hid hF
  have HT2 := Lib.hid hg2.1
  have HB2 := Lib.hid (HB1.out.trans (hg2.after (by omega) (by omega)))
  clear hF hg2 HX1 HT1 HB1
  go_wp2_with fail
  go_loopw [9] (fun v9 wr => ∃ k : Nat, k ≤ n ∧ v9 = .int .i64 (k : Int) ∧ Hid (Below w.heap.size w wr) ∧ Hid (Grl wr w.heap.size seed) ∧ Hid (∀ j, j < k → Gear.hash seed (bs.take (j + 1)) &&& mask ≠ 0)) (fun v9 _ => n - (intOf v9).toNat)
  case atStart => exact ⟨0, by omega, rfl, HB2, HT2, Lib.hid fun j hj => absurd hj (by omega)⟩
  case round =>
    obtain ⟨k, hk, rfl, HB, HG, HN⟩ := hrel
    have hwr := HB.out.size
    by_cases hlt : k < n
    · have hlt' : (k : Int) < (n : Int) := by omega
      have HX3 := HX.out.under (fun k hk => hk) HB.out
      obtain ⟨A', c', hcut, hX3⟩ := HX3.upto ((k : Int) + 1) (k + 1) (by omega) (by omega)
      have HX4 := Lib.hid hX3
      clear HX3 hX3
      go_wp2_with fail
      refine (hash_any wr w.heap.size seed _ A' (k + 1) c' _ HG.out HX4.out (by omega) (fun k hk => by have : k < w.heap.size := hk; omega)).mono ?_
      rintro e w3 ⟨rfl, hg3⟩
      have HB3 := Lib.hid (HB.out.trans (hg3.after (by omega) (by omega)))
      have HG3 := Lib.hid hg3.1
      clear hg3
      have hhl := Gear.hash_lt seed (bs.take (k + 1))
      by_cases hz : Gear.hash seed (bs.take (k + 1)) &&& mask = 0
      · have he : bits .and .u64 ((Gear.hash seed (bs.take (k + 1)) : Nat) : Int) (mask : Int) = 0 := by rw [u64_and_nat _ _ hhl hm, hz]; rfl
        have hak := HF.out.here hlt hz HN.out
        subst hak
        clear hhl hz
        go_wp2_with fail
        refine (gearAlive_any w3 (HT.out.below HB3.out)).mono ?_
        rintro e w4 ⟨rfl, hb4⟩
        have HB4 := Lib.hid (HB3.out.trans (hb4.mono HB3.out.size))
        clear hb4
        go_wp2_with fail
        refine bodyPost_ret (results_tmp rfl _ _ _) rfl ?_
        exact ⟨rfl, HB4.out⟩
      · obtain ⟨z, hzz⟩ : ∃ z, z = Gear.hash seed (bs.take (k + 1)) &&& mask := ⟨_, rfl⟩
        have he : bits .and .u64 ((Gear.hash seed (bs.take (k + 1)) : Nat) : Int) (mask : Int) = (z : Int) := by rw [u64_and_nat _ _ hhl hm, hzz]
        have hzb : ((z : Int) == 0) = false := by rw [← hzz] at hz; simpa using hz
        have HZ := Lib.hid hz
        clear hz hzz hhl
        go_wp2_with fail
        go_roundw
        case rel => exact ⟨k + 1, by omega, by go_num, HB3, HG3, Lib.hid fun j hj => (Nat.lt_succ_iff_lt_or_eq.1 hj).elim (HN.out j) (fun e => by rw [e]; exact HZ.out)⟩
        case measure => simp [intOf]; omega
    · obtain rfl : k = n := by omega
      have hak := HF.out.nowhere HN.out
      subst hak
      go_wp2_with fail
      refine (gearAlive_any wr (HT.out.below HB.out)).mono ?_
      rintro e w4 ⟨rfl, hb4⟩
      have HB4 := Lib.hid (HB.out.trans (hb4.mono HB.out.size))
      clear hb4
      go_wp2_with fail
      go_ret
      exact ⟨rfl, HB4.out⟩
end Go.Proofs.YtognkonncfjneaaDoor
