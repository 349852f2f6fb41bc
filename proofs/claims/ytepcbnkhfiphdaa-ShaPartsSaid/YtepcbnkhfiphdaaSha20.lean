/- The walk of alive (the law's own, layer 3). Conditions: each theorem's premises. -/
import Derived.Test.YtepcbnkhfiphdaaSha19
import Derived.Lib.SlBytesConst
namespace Go.Proofs.Ytepcbnkhfiphdaa
open Go.RowKit
theorem bs_lit (w : World) (cs : Array Value) (t : TypeId) (fz : Nat × Nat) (n : Nat) (bs : List UInt8) (h : cs.toList = u8s bs) (hn : bs.length = n) : Bs (w.alloc (.cells cs t fz)) (fun k => w.heap.size ≤ k) (some ⟨w.heap.size, 0, none⟩) n n bs := by
  refine ⟨hn, Nat.le_refl _, by rw [u8s_length, hn, Nat.mul_one], fun _ => ⟨_, rfl, Nat.le_refl _, fun j u hu => ?_⟩⟩
  rw [add_plain, cell_of_row _ _ _ _ _ _ (heap_alloc_new w _)]
  rw [← h] at hu
  simpa using hu
theorem abc_text : Sha.hex (Sha.sum [97, 98, 99]) = [98, 97, 55, 56, 49, 54, 98, 102, 56, 102, 48, 49, 99, 102, 101, 97, 52, 49, 52, 49, 52, 48, 100, 101, 53, 100, 97, 101, 50, 50, 50, 51, 98, 48, 48, 51, 54, 49, 97, 51, 57, 54, 49, 55, 55, 97, 57, 99, 98, 52, 49, 48, 102, 102, 54, 49, 102, 50, 48, 48, 49, 53, 97, 100] := by
  rw [Sha.abc]
  decide +kernel
set_option maxRecDepth 100000 in
set_option maxHeartbeats 1000000 in
theorem alive_any (w : World) : Calls Try.prog 7 #[] w fun e w' => e = .returned (.bool true) ∧ Below w.heap.size w w' := by
  have kc := fun (w : World) (C : Array Value) (n c : Nat) => Lib.run_convert_bytes_const (P := Try.prog) w 28 5 C n c Try.underlying28 Try.underlying5
  go_enter Try.func7, Try.ntmps7
  go_wp2_with fail
  refine (new_any w).mono ?_
  rintro e w1 ⟨rfl, hE, hb1⟩
  have HE := Lib.hid hE
  have HB1 := Lib.hid hb1
  clear hE hb1
  go_wp2_with fail
  have hb2 : Below w1.heap.size w1 (w1.alloc (.cells #[.int .u8 97, .int .u8 98, .int .u8 99] 5 (3, 4))) := (Below.refl _ _).alloc (Nat.le_refl _) _
  have HX := Lib.hid (bs_lit w1 #[.int .u8 97, .int .u8 98, .int .u8 99] 5 (3, 4) 3 [97, 98, 99] rfl rfl)
  have hg := HE.out.lt
  refine (esum_any _ w.heap.size 0 (HE.out.after hb2) (by omega) _ _ 3 [97, 98, 99] HX.out (fun k hk _ => by omega) (by decide)).mono ?_
  rintro e w3 ⟨rfl, -, hg3⟩
  have hz1 := HB1.out.size
  have HB3 := Lib.hid (show Below w.heap.size w w3 from (HB1.out.trans (hb2.mono hz1)).trans (only_below hg3 (Nat.le_refl _) (Nat.le_trans hz1 hb2.size)))
  clear hg3 hb2
  go_wp2_with fail
  have HT := Lib.hid (text_any w3 (Sha.sum [97, 98, 99]) (Sha.sum_len _))
  refine HT.out.mono ?_
  rintro e w4 ⟨rfl, hb4⟩
  have HB4 := Lib.hid hb4
  clear hb4 HT
  rw [abc_text]
  go_wp2_with fail
  go_ret
  exact ⟨rfl, HB3.out.trans (HB4.out.mono HB3.out.size)⟩
end Go.Proofs.Ytepcbnkhfiphdaa
