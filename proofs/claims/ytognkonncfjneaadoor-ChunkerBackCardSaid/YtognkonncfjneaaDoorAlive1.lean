/- The walk of alive (gear). Conditions: each theorem's premises. -/
import Derived.Test.YtognkonncfjneaaDoorHash2
import Derived.Test.YtognkonncfjneaaDoorMask2
namespace Go.Proofs.YtognkonncfjneaaDoor
open Go.RowKit
theorem Bs.nil (w : World) (S : Nat → Prop) : Bs w S none 0 0 [] := ⟨rfl, Nat.le_refl _, ⟨rfl, fun h => absurd h (by omega)⟩⟩
theorem Gi.after {w W : World} {g seed : Nat} (h : Gi w g seed W) {B : Nat} (hB : B ≤ g) (hz : B ≤ w.heap.size) : Below B w W := only_below h.2 hB hz
theorem not_noPow {x : Int} {k : Nat} (hk : k < 21) (hx : x = ((2 ^ k : Nat) : Int)) : ¬ NoPow x := fun h => h k hk hx
theorem mask_32 : Gear.maskK 5 = 17870283321406128128 := by decide
set_option maxHeartbeats 1000000 in
theorem gearAlive_any (w : World) (hT : Tab64 w) : Calls Tryd.prog 11 #[] w fun e w' => e = .returned (.bool true) ∧ Below w.heap.size w w' := by
  have HM := Lib.hid (mask_pow w 5 (by omega) hT)
  have hm32 := mask_32
  clear hT
  go_enter Tryd.func11, Tryd.ntmps11
  go_wp2_with fail
  refine (HM.out).mono ?_
  rintro e w1 ⟨rfl, rfl⟩
  rw [hm32]
  clear HM hm32
  go_wp2_with fail
  refine (new_any _ 0 (by decide)).mono ?_
  rintro e w1 ⟨rfl, hT1, hb1⟩
  have HT1 := Lib.hid hT1
  have HB1 := Lib.hid hb1
  have hl1 := hT1.lt
  clear hT1 hb1
  go_wp2_with fail
  refine (hash_any w1 w.heap.size 0 (fun _ => False) none 0 0 [] (.inr ⟨_, HT1.out⟩) (Bs.nil _ _) (by omega) (fun _ h => h.elim)).mono ?_
  rintro e w2 ⟨rfl, hg2⟩
  have HB2 := Lib.hid (HB1.out.trans (hg2.after (Nat.le_refl _) (by omega)))
  have hl2 : w.heap.size ≤ w2.heap.size := HB2.out.size
  clear hg2 HT1 HB1
  rw [Gear.hash_nil]
  go_wp2_with fail
  refine (new_any _ 0 (by decide)).mono ?_
  rintro e w3 ⟨rfl, hT3, hb3⟩
  have HT3 := Lib.hid hT3
  have HB3 := Lib.hid (HB2.out.trans (hb3.mono hl2))
  clear hT3 hb3 HB2
  go_wp2_with fail
  refine (row_any w3 w2.heap.size 0 (.inr ⟨_, HT3.out⟩) 0).mono ?_
  rintro e w4 ⟨rfl, -, hg4⟩
  have HB4 := Lib.hid (HB3.out.trans (only_below hg4 hl2 (by have := HB3.out.size; omega)))
  clear hg4 HT3 HB3
  go_wp2_with fail
  refine (rrow_any w4 0 0).mono ?_
  rintro e w5 ⟨rfl, rfl⟩
  go_wp2_with fail
  go_ret
  exact ⟨rfl, HB4.out⟩
end Go.Proofs.YtognkonncfjneaaDoor
