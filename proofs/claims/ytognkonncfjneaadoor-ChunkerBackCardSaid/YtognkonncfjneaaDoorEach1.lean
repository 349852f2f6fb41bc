/- The walks of Each and of its closure. Conditions: each theorem's premises. -/
import Derived.Test.YtognkonncfjneaaDoorGear2
import Derived.Test.YtognkonncfjneaaDoorRange1
import Derived.Shelf.RegionOpen
import Derived.OwnWalkIn
import Derived.TacticsInMore
import Derived.LoopNIn
import Derived.LoopIn
namespace Go.Proofs.YtognkonncfjneaaDoor
open Go.RowKit Go.Shelf
attribute [local go_sem] Oper.semAt_some
theorem each_any (w : World) (p : Option Addr) (A : Option Addr) (n c : Nat) :
    Calls Tryd.prog 13 #[.pointer p, .slice A n c] w fun e w' => e = .returned (.func (.func 41) #[] #[.pointer (some ⟨w.heap.size, 0, none⟩), .pointer (some ⟨w.heap.size + 1, 0, none⟩)]) ∧ w' = (w.alloc (.cells #[.pointer p] 25)).alloc (.cells #[.slice A n c] 23) := by
  go_enter Tryd.func13, Tryd.ntmps13
  go_wp2_with fail
  go_ret
  exact ⟨rfl, rfl⟩
/-- What a round is handed. -/
def eachEnc (seed : Nat) (bs : List UInt8) (k : Nat) : Array Value := #[.int .i64 (k : Int), .int .u64 ((Gear.hash seed (bs.take (k + 1)) : Nat) : Int)]
set_option maxRecDepth 100000 in
set_option maxHeartbeats 2000000 in
theorem each1_hands (n : Nat) (hn : 1 ≤ n) (w : World) (n₀ g seed b1 b2 : Nat) (S : Nat → Prop) (A : Option Addr) (m c : Nat) (bs : List UInt8) (h1 : w.cell? ⟨b1, 0, none⟩ = some (.pointer (some ⟨g, 0, none⟩))) (h2 : w.cell? ⟨b2, 0, none⟩ = some (.slice A m c))
    (hg2 : b2 ≠ g) (hT : Grl w g seed) (hx : Bs w S A m c bs) (hm : m ≤ 1000000000) (hS : ∀ k, S k → k < n₀ ∧ k ≠ g) (hgn : g < n₀) (hn₀ : n₀ ≤ w.heap.size) :
    Hands Fence.wide n Tryd.prog 41 #[.pointer (some ⟨b1, 0, none⟩), .pointer (some ⟨b2, 0, none⟩)] (eachEnc seed bs) (Below n₀) m g (fun W' => Gr W' g seed 1 0 (Gear.row seed)) w := by
  intro l J Jx W hW hJ hJx hY h0
  have hb1 : b1 < w.heap.size := World.block_lt_of_cell? w _ h1
  have hb2 : b2 < w.heap.size := World.block_lt_of_cell? w _ h2
  have k1 := (hW.cell (p := ⟨b1, 0, none⟩) hb1).trans h1
  have k2 := (hW.cell (p := ⟨b2, 0, none⟩) hb2).trans h2
  have HT := Lib.hid (hT.below hW (Nat.lt_of_lt_of_le hgn hn₀))
  have HX := Lib.hid (hx.under (fun k hk => Nat.lt_of_lt_of_le (hS k hk).1 hn₀) hW)
  have HC := Lib.hid (callsIn_wide (n := n - 1) |>.2 (table_any W g seed HT.out))
  have HY := Lib.hid hY
  have HJ := Lib.hid hJ
  have H0 := Lib.hid h0
  have HS := Lib.hid hS
  have hWs := hW.size
  clear hW h1 h2 hT hx hY hJ h0 hS hJx
  refine callsIn_of_wp Tryd.func41 rfl trivial ?_ rfl
  simp only [Tryd.ntmps41, List.size_toArray, List.length_cons, List.length_nil, Nat.reduceAdd, Nat.reduceSub, Array.replicate_succ, Array.replicate_zero, List.push_toArray, List.append_toArray, List.nil_append, List.cons_append]
  gi_wp2_with fail
  refine ⟨trivial, ?_⟩
  refine (HC.out).mono ?_
  rintro e W1 ⟨rfl, hT1, hG1⟩
  have HJ1 := Lib.hid (HJ.out 0 W W1 H0.out hG1 hT1)
  have k21 : W1.cell? ⟨b2, 0, none⟩ = some (.slice A m c) := (World.cell?_of_block (hG1.block b2 (by omega) (by intro e; injection e with e; exact hg2 e))).trans k2
  have HX1 := Lib.hid (HX.out.only hG1 (fun k hk _ => (HS.out k hk).2))
  have HT1 := Lib.hid hT1
  have hs1 := hG1.size
  clear hG1 hT1 k1 k2 HC
  gi_wp2_with fail
  gi_loopw [14, 5] (fun v14 v5 wr => ∃ k h : Nat, k ≤ m ∧ v14 = .int .i64 (k : Int) ∧ v5 = .int .u64 (h : Int) ∧ Hid (h = Gear.hash seed (bs.take k)) ∧ Hid (J k wr) ∧ Hid (Below n₀ W1 wr)) (fun v14 _ _ => m - (intOf v14).toNat)
  case atStart => exact ⟨0, 0, by omega, rfl, rfl, Lib.hid rfl, HJ1, Lib.hid (Below.refl _ _)⟩
  case round =>
    obtain ⟨k, h, hk, rfl, rfl, HH, HJk, HB⟩ := hrel
    have HX2 := Lib.hid (HX1.out.under (fun k hk => (HS.out k hk).1) HB.out)
    have HT2 := Lib.hid (HT1.out.below HB.out hgn)
    by_cases hlt : k < m
    · obtain ⟨ad, b, rfl, Hb, hc⟩ := HX2.out.at_ hlt
      have hlt' : (k : Int) < (m : Int) := by omega
      have hb0 : (0 : Int) ≤ (b.toNat : Int) := by omega
      have hb3 := u8_lt b
      have r0 := HT2.out.row b.toNat b.toNat_lt
      have q0 : wr.cell? ⟨g, 4, none⟩ = some (.int .u64 ((Gear.row seed 0 : Nat) : Int)) := HT2.out.row 0 (by omega)
      have HN : Hid (Gear.roll seed h b = Gear.hash seed (bs.take (k + 1))) := Lib.hid (by rw [take_snoc Hb.out, Gear.hash_snoc, HH.out])
      have HR : Hid (IntKind.u64.wrap (IntKind.u64.wrap ((h : Int) * 2) + ((Gear.row seed b.toNat : Nat) : Int)) = ((Gear.hash seed (bs.take (k + 1)) : Nat) : Int)) := Lib.hid (by rw [← HN.out]; unfold Gear.roll; exact u64_roll h _)
      obtain ⟨fn, tmps, assign, body, hy, hR⟩ := HY.out k wr HJk.out hlt
      unfold eachEnc at hy
      rw [← HR.out] at hy
      have HRR := Lib.hid hR
      clear hR
      gi_wp2_with fail
      refine (HRR.out).mono ?_
      rintro e W3 (⟨rfl, hJ3, hk3⟩ | ⟨rfl, hJx3⟩)
      · have HJ3 := Lib.hid hJ3
        have HB3 := Lib.hid (HB.out.trans hk3)
        clear hJ3 hk3
        gi_wp2_with fail
        go_roundw
        case rel => exact ⟨k + 1, Gear.hash seed (bs.take (k + 1)), by omega, by go_num, by rw [HR.out], Lib.hid rfl, HJ3, HB3⟩
        case measure => simp [intOf]; omega
      · have HJ3 := Lib.hid hJx3
        clear hJx3
        gi_wp2_with fail
        refine bodyPost_ret (results_none rfl _ _ _) rfl ?_
        exact ⟨⟨_, rfl⟩, .inr ⟨k + 1, by omega, by omega, HJ3.out⟩⟩
    · obtain rfl : k = m := by omega
      gi_wp2_with fail
      go_end0
      exact ⟨⟨_, rfl⟩, .inl HJk.out⟩
end Go.Proofs.YtognkonncfjneaaDoor
