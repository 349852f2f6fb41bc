/- Hash, Find, Row, Roll of a gear and of the nil one. Conditions: each theorem's premises. -/
import Derived.Test.YtognkonncfjneaaDoorFind1
namespace Go.Proofs.YtognkonncfjneaaDoor
open Go.RowKit Go.Shelf
attribute [local go_sem] Oper.semAt_some
set_option maxRecDepth 100000 in
set_option maxHeartbeats 1000000 in
theorem each1_nil (n : Nat) (w : World) (b1 b2 n₀ bg : Nat) (v : Nat → Nat) (h1 : w.cell? ⟨b1, 0, none⟩ = some (.pointer none)) (Gd : World → Prop) :
    Hands Fence.wide n Tryd.prog 41 #[.pointer (some ⟨b1, 0, none⟩), .pointer (some ⟨b2, 0, none⟩)] (eachV v) (Below n₀) 0 bg Gd w := by
  intro l J Jx W hW _ _ _ h0
  have k1 := (hW.cell (p := ⟨b1, 0, none⟩) (World.block_lt_of_cell? w _ h1)).trans h1
  have H0 := Lib.hid h0
  clear hW h1 h0
  refine callsIn_of_wp Tryd.func41 rfl trivial ?_ rfl
  simp only [Tryd.ntmps41, List.size_toArray, List.length_cons, List.length_nil, Nat.reduceAdd, Nat.reduceSub, Array.replicate_succ, Array.replicate_zero, List.push_toArray, List.append_toArray, List.nil_append, List.cons_append]
  gi_wp2_with fail
  refine bodyPost_ret (results_none rfl _ _ _) rfl ?_
  exact ⟨⟨_, rfl⟩, .inl H0.out⟩
section
variable (w : World) (g seed : Nat) (S : Nat → Prop) (A : Option Addr) (m c : Nat) (bs : List UInt8)
theorem each_seq (hT : Grl w g seed) (hx : Bs w S A m c bs) (hm : m ≤ 1000000000) (hS : ∀ k, S k → k < w.heap.size ∧ k ≠ g) (w1 : World) (b1 b2 : Nat) (hB : Below w.heap.size w w1) (hb2 : w.heap.size ≤ b2) (h1 : w1.cell? ⟨b1, 0, none⟩ = some (.pointer (some ⟨g, 0, none⟩))) (h2 : w1.cell? ⟨b2, 0, none⟩ = some (.slice A m c)) :
    Hands Fence.wide 2 Tryd.prog 41 #[.pointer (some ⟨b1, 0, none⟩), .pointer (some ⟨b2, 0, none⟩)] (eachV fun k => Gear.hash seed (bs.take k)) (Below w.heap.size) m g (fun W' => Gr W' g seed 1 0 (Gear.row seed)) w1 := by
  rw [← eachEnc_eq]
  exact each1_hands 2 (by omega) w1 w.heap.size g seed b1 b2 S A m c bs h1 h2 (by have := hT.lt; omega) (hT.after hB) (hx.under (fun k hk => (hS k hk).1) hB) hm hS hT.lt hB.size
/-- What abides a gear's call. -/
def Gi (w : World) (g seed : Nat) (W : World) : Prop := Grl W g seed ∧ w.grownBy W (some g)
theorem Gi.start {w : World} {g seed : Nat} (h : Grl w g seed) : Gi w g seed w := ⟨h, World.grownBy.refl _ _⟩
theorem Gi.below {w W W' : World} {g seed : Nat} (h : Gi w g seed W) (hg : g < w.heap.size) (hb : Below w.heap.size W W') : Gi w g seed W' :=
  ⟨h.1.below hb hg, ⟨hb.os.trans h.2.os, hb.tape.trans h.2.tape, hb.output.trans h.2.output, Nat.le_trans h.2.size hb.size, fun i hi hne => (hb.block i hi).trans (h.2.block i hi hne)⟩⟩
theorem Gi.turn {w W W' : World} {g seed : Nat} (h : Gi w g seed W) (hg : W.grownBy W' (some g)) (hd : Grl W' g seed) : Gi w g seed W' := ⟨hd, only_trans h.2 hg⟩
theorem hash_any (hT : Grl w g seed) (hx : Bs w S A m c bs) (hm : m ≤ 1000000000) (hS : ∀ k, S k → k < w.heap.size ∧ k ≠ g) :
    Calls Tryd.prog 18 #[.pointer (some ⟨g, 0, none⟩), .slice A m c] w fun e w' => e = .returned (.int .u64 ((Gear.hash seed bs : Nat) : Int)) ∧ Gi w g seed w' := by
  have hl := hT.lt
  have h := hash_gen w (some ⟨g, 0, none⟩) A m c m g (fun k => Gear.hash seed (bs.take k)) (fun W' => Gr W' g seed 1 0 (Gear.row seed)) (Gi w g seed) rfl (by omega) (by omega) (Gi.start hT) (fun W W' h hb => h.below hl hb) (fun W W' h hg hd => h.turn hg (.inl hd)) (fun W h => h.2.size) (each_seq w g seed S A m c bs hT hx hm hS)
  rw [List.take_of_length_le (by rw [hx.len]; omega)] at h
  exact h
theorem find_any (mask : Nat) (hk : mask < Gear.M) (hT : Grl w g seed) (hx : Bs w S A m c bs) (hm : m ≤ 1000000000) (hS : ∀ k, S k → k < w.heap.size ∧ k ≠ g) :
    Calls Tryd.prog 17 #[.pointer (some ⟨g, 0, none⟩), .slice A m c, .int .u64 (mask : Int)] w fun e w' => Found (fun k => Gear.hash seed (bs.take k)) mask m e ∧ Gi w g seed w' := by
  have hl := hT.lt
  exact find_gen w (some ⟨g, 0, none⟩) A m c m g mask (fun k => Gear.hash seed (bs.take k)) (fun W' => Gr W' g seed 1 0 (Gear.row seed)) (Gi w g seed) (fun k => Gear.hash_lt _ _) hk (by omega) (by omega) (Gi.start hT) (fun W W' h hb => h.below hl hb) (fun W W' h hg hd => h.turn hg (.inl hd)) (each_seq w g seed S A m c bs hT hx hm hS)
theorem hash_nilg : Calls Tryd.prog 18 #[.pointer none, .slice A m c] w fun e w' => e = .returned (.int .u64 0) ∧ Below w.heap.size w w' :=
  hash_gen w none A m c 0 (w.heap.size + 1) (fun _ => 0) (fun _ => False) (Below w.heap.size w) rfl (by omega) (by omega) (Below.refl _ _) (fun W W' h hb => h.trans hb) (fun W W' h hg hd => hd.elim) (fun W h => h.size) (fun w1 b1 b2 hB hb2 h1 h2 => each1_nil 2 w1 b1 b2 _ _ _ h1 _)
theorem find_nilg (mask : Nat) (hk : mask < Gear.M) : Calls Tryd.prog 17 #[.pointer none, .slice A m c, .int .u64 (mask : Int)] w fun e w' => e = .returned (.int .i64 (-1)) ∧ Below w.heap.size w w' := by
  refine (find_gen w none A m c 0 (w.heap.size + 2) mask (fun _ => 0) (fun _ => False) (Below w.heap.size w) (fun k => Gear.M_pos) hk (by omega) (by omega) (Below.refl _ _) (fun W W' h hb => h.trans hb) (fun W W' h hg hd => hd.elim) (fun w1 b1 b2 hB hb2 h1 h2 => each1_nil 2 w1 b1 b2 _ _ _ h1 _)).mono ?_
  rintro e w' ⟨⟨rfl, _⟩ | ⟨k, hk, _⟩, hb⟩
  · exact ⟨rfl, hb⟩
  · omega
end
theorem row_nilg (w : World) (c : UInt8) : Calls Tryd.prog 20 #[.pointer none, .int .u8 (c.toNat : Int)] w fun e w' => e = .returned (.int .u64 0) ∧ w = w' := by
  go_enter Tryd.func20, Tryd.ntmps20
  go_wp2_with fail
  go_ret
  exact ⟨rfl, rfl⟩
theorem roll_nilg (w : World) (x : Int) (c : UInt8) : Calls Tryd.prog 19 #[.pointer none, .int .u64 x, .int .u8 (c.toNat : Int)] w fun e w' => e = .returned (.int .u64 0) ∧ w = w' := by
  go_enter Tryd.func19, Tryd.ntmps19
  go_wp2_with fail
  go_ret
  exact ⟨rfl, rfl⟩
end Go.Proofs.YtognkonncfjneaaDoor
