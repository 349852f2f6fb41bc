/- The walks of New, Seal, Open (crc). Conditions: each theorem's premises. -/
import Derived.Test.YtaebmhbggbpnoaaCrc3
import Derived.Test.YtaebmhbggbpnoaaTlv5
namespace Go.Proofs.Ytaebmhbggbpnoaa
open Go.RowKit
theorem zero171 : Try.zeroCells171.toList = [.int .u32 0, .int .i32 0, .int .u32 0] ++ List.replicate 256 (.int .u32 0) ++ [.int .i64 0] := by kernel_rfl
set_option maxRecDepth 100000 in
theorem zero171_at (i : Nat) : Try.zeroCells171[i]? = ([.int .u32 0, .int .i32 0, .int .u32 0] ++ List.replicate 256 (.int .u32 0) ++ [.int .i64 0] : List Value)[i]? := by
  rw [← zero171, Array.getElem?_toList]
set_option maxRecDepth 100000 in
theorem tb_new (w : World) : Tb (w.alloc (.cells Try.zeroCells171 171)) w.heap.size 0 0 (fun _ => 0) 0 := by
  have hB := Blk.new w 171 Try.zeroCells171
  refine ⟨?_, ?_, fun i hi => ?_, ?_, fun i => hB.frozen i⟩
  · rw [hB.cell, zero171_at]; rfl
  · rw [hB.cell, zero171_at]; rfl
  · rw [hB.cell, zero171_at, List.append_assoc, List.getElem?_append_right (by simp), List.getElem?_append_left (by simp; omega)]
    rw [List.getElem?_replicate, if_pos (by simp; omega)]
    rfl
  · rw [hB.cell, zero171_at, List.getElem?_append_right (by simp)]
    simp
set_option maxRecDepth 100000 in
theorem new_any (w : World) :
    Calls Try.prog 32 #[] w fun e w' => e = .returned (.pointer (some ⟨w.heap.size, 0, none⟩)) ∧ Tb w' w.heap.size 0 0 (fun _ => 0) 0 ∧ Below w.heap.size w w' := by
  have HT := Lib.hid (tb_new w)
  go_enter Try.func32, Try.ntmps32
  go_wp2_with fail
  go_ret
  exact ⟨rfl, HT.out, (Below.refl _ _).alloc (Nat.le_refl _) _⟩
theorem byte_of (s k : Nat) : ((UInt8.ofNat (s / k)).toNat : Int) = ((s / k : Nat) : Int) % 256 := by
  rw [UInt8.toNat_ofNat']; omega
theorem bs_four (w : World) (t : TypeId) (s : Nat) (hs : s < 4294967296) : Bs (w.alloc (.cells #[.int .u8 ((s : Int) % 256), .int .u8 ((s : Int) / 256 % 256), .int .u8 ((s : Int) / 65536 % 256), .int .u8 ((s : Int) / 16777216)] t)) AnyB (some ⟨w.heap.size, 0, none⟩) 4 4 (Crc.le32 s) := by
  refine ⟨rfl, Nat.le_refl _, rfl, fun _ => ⟨_, rfl, trivial, fun j u hu => ?_⟩⟩
  rw [add_plain, World.cell?_alloc_new]
  have e0 := byte_of s 1
  have e1 := byte_of s 256
  have e2 := byte_of s 65536
  have e3 := byte_of s 16777216
  simp only [Nat.div_one] at e0
  match j, hu with
  | 0, hu => simp [u8s, u8v, Crc.le32] at hu ⊢; rw [← hu]
  | 1, hu => simp [u8s, u8v, Crc.le32] at hu ⊢; rw [← hu]
  | 2, hu => simp [u8s, u8v, Crc.le32] at hu ⊢; rw [← hu]
  | 3, hu => simp [u8s, u8v, Crc.le32] at hu ⊢; rw [← hu]; congr 1; omega
  | j + 4, hu => simp [u8s, u8v, Crc.le32] at hu
set_option maxRecDepth 10000 in
set_option maxHeartbeats 1000000 in
/-- Seal. -/
theorem seal_any (w : World) (g : Nat) (d : Int) (h : Tbl w g d) (S : Nat → Prop) (A : Option Addr) (n c : Nat) (bs : List UInt8) (hx : Bs w S A n c bs) (hS : ∀ k, S k → k < w.heap.size → k ≠ g)
    (hd : 0 ≤ d ∧ d ≤ 1000000000000) (hn : n ≤ 100000000) :
    Calls Try.prog 41 #[.pointer (some ⟨g, 0, none⟩), .slice A n c] w fun e w' => ∃ A' c', e = .returned (.slice A' (n + 4) c') ∧ w'.ownsRow w.heap.size 5 1 (.slice A' (n + 4) c') (n + 4) (u8s (Crc.seal_ bs)) ∧ Tb w' g 1 0 Crc.row (d + (n : Int)) ∧ w.grownBy w' (some g) := by
  have HC := Lib.hid (sum_any w g d h S A n c bs hx hS hd (by omega))
  have HX := Lib.hid hx
  have HS := Lib.hid hS
  obtain ⟨i0, hi0, hz0, hz1, hz2⟩ := info_parts Try.info5
  have hgl : g < w.heap.size := by rcases h with h | ⟨f, h⟩ <;> exact h.lt
  obtain ⟨s, hs⟩ : ∃ s, s = Crc.sum bs := ⟨_, rfl⟩
  have hsl : s < 4294967296 := by rw [hs]; exact Crc.sum_lt bs
  rw [← hs] at HC
  have HSum := Lib.hid hs
  clear h hx hS hd hs
  go_enter Try.func41, Try.ntmps41
  go_wp2_with fail
  refine (HC.out).mono ?_
  rintro e w1 ⟨rfl, hT, hg⟩
  have HF := Lib.hid (And.intro hT hg)
  have hx1 := HX.out.only hg HS.out
  have hsz := hg.size
  clear hT hg HC
  go_wp2_with fail
  refine (clone_any w1 S A n c bs hx1 (by omega)).mono ?_
  rintro e w2 ⟨A', c', rfl, hown, hb⟩
  have HO := Lib.hid (And.intro hown hb)
  have hs2 := hb.size
  clear hown hb hx1
  have hsl' : (s : Int) < 4294967296 := by omega
  have HB4 := Lib.hid (bs_four w2 5 s hsl)
  go_wp2_with (at_builtin; go_must (refine wpList_append_u8 rfl (.tmp 12) (.tmp 24) rfl (base := w1.heap.size) (v := .slice A' n c') (n := n) (xs := bs) rfl (own_below HO.out.1 ((Below.refl _ _).alloc (Nat.le_refl _) _) (Nat.le_refl _)) (m := 4) (c := 4) (ys := Crc.le32 s) rfl HB4.out (by omega) (by simp; omega) ?_); intro v' w3 hown3 hg3 hat3)
  obtain ⟨A3, c3, rfl, -⟩ := own_shape hown3
  have hb13 : Below w1.heap.size w1 w3 := Below.grown (HO.out.2.alloc HO.out.2.size _) hg3 (by simp; omega) (own_base HO.out.1)
  have hfin : w3.ownsRow w.heap.size 5 1 (.slice A3 (n + 4) c3) (n + 4) (u8s (Crc.seal_ bs)) := by
    have : Crc.seal_ bs = bs ++ Crc.le32 s := by rw [HSum.out]; rfl
    rw [this]
    exact own_base' hown3 hsz
  have HQ := Lib.hid (And.intro hfin (And.intro (HF.out.1.after hb13) (only_trans HF.out.2 (only_of_below hb13 _))))
  clear hfin hb13 hown3 hg3 hat3
  go_ret
  exact ⟨A3, c3, rfl, HQ.out⟩
end Go.Proofs.Ytaebmhbggbpnoaa
