/- The walks of Do, table, Row, Roll, New (gear) and of the reference's Row. Conditions: each theorem's premises. -/
import Derived.Test.YtognkonncfjneaaDoorGear1
namespace Go.Proofs.YtognkonncfjneaaDoor
open Go.RowKit
theorem load_any (w : World) (a : Addr) (x : Int) (hc : w.cell? a = some (.int .u32 x)) :
    Calls Tryd.prog 61 #[.pointer (some a)] w fun e w' => e = .returned (.bool (x != 0)) ∧ w = w' := by
  have hl := run_call_load (P := Tryd.prog) Tryd.func63 (by kernel_rfl) (by kernel_rfl) (by kernel_rfl) .u32 (by kernel_rfl) hc
  go_enter Tryd.func61, Tryd.ntmps61
  go_wp2
  go_ret
  exact ⟨rfl, rfl⟩
set_option maxRecDepth 100000 in
theorem slow_any (w : World) (g seed : Nat) (f : Nat → Nat) (h : Gr w g seed 0 0 f) :
    Calls Tryd.prog 62 #[.pointer (some ⟨g, 1, none⟩), .func (.func 54) #[.pointer (some ⟨g, 0, none⟩)] #[]] w fun e w' => e = .returned (.tuple #[]) ∧ Gr w' g seed 1 0 (Gear.row seed) ∧ w.grownBy w' (some g) := by
  have H := Lib.hid h
  have c1 := h.c1
  have f1 := h.free 2
  have hnot : ∀ (x : Bool) (w : World), (Op.unary .not (.bool x)).run Tryd.prog w = .ok (.bool (!x)) w := fun _ _ => rfl
  have hT1 := h.setLock 1
  have HT1 := Lib.hid hT1
  have q0 := hT1.c0
  clear h hT1
  go_enter_defers Tryd.func62, Tryd.ntmps62
  go_wp2_with fail
  refine (Once.lock_free ⟨g, 2, none⟩ _ c1 f1).mono ?_
  rintro e w' ⟨rfl, rfl⟩
  go_wp2_with fail
  refine (load_any _ _ _ q0).mono ?_
  rintro e w' ⟨rfl, rfl⟩
  go_wp2_with fail
  refine (fill_any _ g seed 0 1 f HT1.out).mono ?_
  rintro e w2 ⟨rfl, hT2, hg2⟩
  have HT2 := Lib.hid hT2
  have HG2 := Lib.hid hg2
  clear hT2 hg2 q0 c1 f1
  go_wp2
  refine leaves_cons (f := 66) (args := #[.pointer (some ⟨g, 1, none⟩), .bool true]) (by simp) (by simp [go_sem]) ?_
  refine (Once.store_deferred ⟨g, 1, none⟩ _ .returning _ HT2.out.c0 (HT2.out.free 1)).mono ?_
  rintro e u' w3 ⟨rfl, rfl, rfl⟩
  have HT3 := Lib.hid (HT2.out.drew.setDone 1)
  refine leaves_cons (f := 65) (args := #[.pointer (some ⟨g, 2, none⟩)]) (by simp [settle]) (by simp [go_sem]) ?_
  refine (Once.unlock_deferred ⟨g, 2, none⟩ _ _ HT3.out.c1 (HT3.out.free 2)).mono ?_
  rintro e u' w4 ⟨rfl, rfl, rfl⟩
  have hfin : Gr ((w2.drew.setCell ⟨g, 1, none⟩ (.int .u32 1)).setCell ⟨g, 2, none⟩ (.int .i32 0)) g seed 1 0 (Gear.row seed) := HT3.out.setLock 0
  have hG : w.grownBy ((w2.drew.setCell ⟨g, 1, none⟩ (.int .u32 1)).setCell ⟨g, 2, none⟩ (.int .i32 0)) (some g) :=
    only_setCell (p := ⟨g, 2, none⟩) (only_setCell (p := ⟨g, 1, none⟩) (only_drew (only_trans (only_setCell (World.grownBy.refl _ _) (p := ⟨g, 2, none⟩) (.inl rfl) _) HG2.out)) (.inl rfl) _) (.inl rfl) _
  have HF := Lib.hid (And.intro hfin hG)
  clear hfin hG
  simp only [Leaves, settle, results, Tryd.results62]
  exact ⟨.tuple #[], by simp, rfl, HF.out⟩
theorem do_first (w : World) (g seed : Nat) (f : Nat → Nat) (h : Gr w g seed 0 0 f) :
    Calls Tryd.prog 55 #[.pointer (some ⟨g, 1, none⟩), .func (.func 54) #[.pointer (some ⟨g, 0, none⟩)] #[]] w fun e w' => e = .returned (.tuple #[]) ∧ Gr w' g seed 1 0 (Gear.row seed) ∧ w.grownBy w' (some g) := by
  have H := Lib.hid h
  clear h
  have hnot : ∀ (x : Bool) (w : World), (Op.unary .not (.bool x)).run Tryd.prog w = .ok (.bool (!x)) w := fun _ _ => rfl
  go_enter Tryd.func55, Tryd.ntmps55
  go_wp2_with fail
  refine (load_any _ _ _ H.out.c0).mono ?_
  rintro e w' ⟨rfl, rfl⟩
  go_wp2_with fail
  refine (slow_any _ g seed f H.out).mono ?_
  rintro e w2 ⟨rfl, hT2, hg2⟩
  have HF := Lib.hid (And.intro hT2 hg2)
  clear hT2 hg2
  go_wp2_with fail
  go_end0
  exact ⟨rfl, HF.out⟩
theorem do_done (w : World) (g seed : Nat) (f : Nat → Nat) (fv : Value) (h : Gr w g seed 1 0 f) :
    Calls Tryd.prog 55 #[.pointer (some ⟨g, 1, none⟩), fv] w fun e w' => e = .returned (.tuple #[]) ∧ w = w' := by
  have H := Lib.hid h
  clear h
  have hnot : ∀ (x : Bool) (w : World), (Op.unary .not (.bool x)).run Tryd.prog w = .ok (.bool (!x)) w := fun _ _ => rfl
  go_enter Tryd.func55, Tryd.ntmps55
  go_wp2_with fail
  refine (load_any _ _ _ H.out.c0).mono ?_
  rintro e w' ⟨rfl, rfl⟩
  go_wp2_with fail
  go_end0
  exact ⟨rfl, rfl⟩
/-- A gear as a law meets it: filled or not. -/
def Grl (w : World) (g seed : Nat) : Prop := Gr w g seed 1 0 (Gear.row seed) ∨ ∃ f, Gr w g seed 0 0 f
theorem Grl.lt {w : World} {g seed : Nat} (h : Grl w g seed) : g < w.heap.size := by rcases h with h | ⟨f, h⟩ <;> exact h.lt
theorem Grl.few {w : World} {g seed : Nat} (h : Grl w g seed) : seed < Gear.M := by rcases h with h | ⟨f, h⟩ <;> exact h.few
theorem Grl.below {w w' : World} {g seed B : Nat} (h : Grl w g seed) (hb : Below B w w') (hg : g < B) : Grl w' g seed := by
  rcases h with h | ⟨f, h⟩
  · exact .inl (h.below hb hg)
  · exact .inr ⟨f, h.below hb hg⟩
theorem Grl.after {w w' : World} {g seed : Nat} (h : Grl w g seed) (hb : Below w.heap.size w w') : Grl w' g seed := h.below hb h.lt
theorem Grl.drewN {w : World} {g seed : Nat} (h : Grl w g seed) (m : Nat) : Grl (w.drewN m) g seed := by
  rcases h with h | ⟨f, h⟩
  · exact .inl (h.keep (fun _ => rfl) (fun _ => rfl))
  · exact .inr ⟨f, h.keep (fun _ => rfl) (fun _ => rfl)⟩
theorem do_any (w : World) (g seed : Nat) (h : Grl w g seed) :
    Calls Tryd.prog 55 #[.pointer (some ⟨g, 1, none⟩), .func (.func 54) #[.pointer (some ⟨g, 0, none⟩)] #[]] w fun e w' => e = .returned (.tuple #[]) ∧ Gr w' g seed 1 0 (Gear.row seed) ∧ w.grownBy w' (some g) := by
  rcases h with h | ⟨f, h⟩
  · refine (do_done w g seed _ _ h).mono ?_
    rintro e w' ⟨rfl, rfl⟩
    exact ⟨rfl, h, World.grownBy.refl _ _⟩
  · exact do_first w g seed f h
/-- table. -/
theorem table_any (w : World) (g seed : Nat) (h : Grl w g seed) :
    Calls Tryd.prog 42 #[.pointer (some ⟨g, 0, none⟩)] w fun e w' => e = .returned (.pointer (some ⟨g, 4, none⟩)) ∧ Gr w' g seed 1 0 (Gear.row seed) ∧ w.grownBy w' (some g) := by
  have HC := Lib.hid (do_any w g seed h)
  obtain ⟨v0, h0⟩ : ∃ v, w.cell? ⟨g, 0, none⟩ = some v := by rcases h with h | ⟨f, h⟩ <;> exact ⟨_, h.cs⟩
  clear h
  have hmf : ∀ (fn : Fn) (first cap : Array Value) (w : World), (Instr.makeFunc fn first cap).run Tryd.prog w = .ok (.func fn first cap) w := fun _ _ _ _ => rfl
  go_enter Tryd.func42, Tryd.ntmps42
  go_wp2_with fail
  refine (HC.out).mono ?_
  rintro e w2 ⟨rfl, hT2, hg2⟩
  have HF := Lib.hid (And.intro hT2 hg2)
  have c0 := hT2.cs
  clear hT2 hg2 h0
  go_wp2_with fail
  go_ret
  exact ⟨rfl, HF.out⟩
/-- Row. -/
theorem row_any (w : World) (g seed : Nat) (h : Grl w g seed) (c : UInt8) :
    Calls Tryd.prog 20 #[.pointer (some ⟨g, 0, none⟩), .int .u8 (c.toNat : Int)] w fun e w' => e = .returned (.int .u64 ((Gear.row seed c.toNat : Nat) : Int)) ∧ Gr w' g seed 1 0 (Gear.row seed) ∧ w.grownBy w' (some g) := by
  have HC := Lib.hid (table_any w g seed h)
  have hc1 : (0 : Int) ≤ (c.toNat : Int) := by omega
  have hc2 := u8_lt c
  clear h
  go_enter Tryd.func20, Tryd.ntmps20
  go_wp2_with fail
  refine (HC.out).mono ?_
  rintro e w2 ⟨rfl, hT2, hg2⟩
  have HF := Lib.hid (And.intro hT2 hg2)
  have r0 := hT2.row c.toNat c.toNat_lt
  have q0 := hT2.row 0 (by omega)
  have q0' : w2.cell? ⟨g, 4, none⟩ = some (.int .u64 ((Gear.row seed 0 : Nat) : Int)) := q0
  clear hT2 hg2 q0
  go_wp2_with fail
  go_ret
  exact ⟨rfl, HF.out⟩
theorem u64_roll (h r : Nat) : IntKind.u64.wrap (IntKind.u64.wrap ((h : Int) * 2) + (r : Int)) = (((2 * h + r) % Gear.M : Nat) : Int) := by
  rw [IntKind.wrap_u64, IntKind.wrap_u64]
  unfold Gear.M
  omega
/-- Roll. -/
theorem roll_any (w : World) (g seed : Nat) (h : Grl w g seed) (x : Nat) (c : UInt8) :
    Calls Tryd.prog 19 #[.pointer (some ⟨g, 0, none⟩), .int .u64 (x : Int), .int .u8 (c.toNat : Int)] w fun e w' => e = .returned (.int .u64 ((Gear.roll seed x c : Nat) : Int)) ∧ Gr w' g seed 1 0 (Gear.row seed) ∧ w.grownBy w' (some g) := by
  have HC := Lib.hid (row_any w g seed h c)
  have HR : Hid (IntKind.u64.wrap (IntKind.u64.wrap ((x : Int) * 2) + ((Gear.row seed c.toNat : Nat) : Int)) = ((Gear.roll seed x c : Nat) : Int)) := Lib.hid (by unfold Gear.roll; exact u64_roll x _)
  clear h
  go_enter Tryd.func19, Tryd.ntmps19
  go_wp2_with fail
  refine (HC.out).mono ?_
  rintro e w2 ⟨rfl, hT2, hg2⟩
  have HF := Lib.hid (And.intro hT2 hg2)
  clear hT2 hg2
  go_wp2_with fail
  go_ret
  refine ⟨?_, HF.out⟩
  show Ending.returned (.int .u64 (IntKind.u64.wrap (IntKind.u64.wrap ((x : Int) * 2) + ((Gear.row seed c.toNat : Nat) : Int)))) = _
  rw [HR.out]
/-- The reference's row. -/
theorem rrow_any (w : World) (seed : Nat) (c : UInt8) :
    Calls Tryd.prog 40 #[.int .u64 (seed : Int), .int .u8 (c.toNat : Int)] w fun e w' => e = .returned (.int .u64 ((Gear.row seed c.toNat : Nat) : Int)) ∧ w = w' := by
  have hc2 := u8_lt c
  have hd : IntKind.u64.wrap ((seed : Int) + IntKind.u64.wrap (((c.toNat : Int) + 1) * 11400714819323198485)) = ((Gear.at_ seed (c.toNat + 1) : Nat) : Int) := by
    rw [IntKind.wrap_u64, IntKind.wrap_u64]
    unfold Gear.at_ Gear.M Gear.stepN
    omega
  obtain ⟨y, hy⟩ : ∃ y, y = Gear.at_ seed (c.toNat + 1) := ⟨_, rfl⟩
  rw [← hy] at hd
  have hyl : y < Gear.M := by rw [hy]; exact Gear.at_lt _ _
  have hdiv : ∀ z k : Nat, z < Gear.M → z / k < Gear.M := fun z k h => Nat.lt_of_le_of_lt (Nat.div_le_self _ _) h
  obtain ⟨a, ha⟩ : ∃ a, a = Gear.mixA y := ⟨_, rfl⟩
  obtain ⟨b, hb⟩ : ∃ b, b = Gear.mixB a := ⟨_, rfl⟩
  have hal : a < Gear.M := by rw [ha]; exact Gear.mixA_lt _
  have hbl : b < Gear.M := by rw [hb]; exact Gear.mixB_lt _
  have e2 := u64_xor' hyl (hdiv y 1073741824 hyl)
  have e2' : bits .xor .u64 (y : Int) ((y : Int) / 1073741824) = ((y ^^^ y / 1073741824 : Nat) : Int) := e2
  have e3 : IntKind.u64.wrap (((y ^^^ y / 1073741824 : Nat) : Int) * 13787848793156543929) = (a : Int) := by rw [ha]; unfold Gear.mixA; rw [← wrap_u64n]; rfl
  have e4' : bits .xor .u64 (a : Int) ((a : Int) / 134217728) = ((a ^^^ a / 134217728 : Nat) : Int) := u64_xor' hal (hdiv a 134217728 hal)
  have e5 : IntKind.u64.wrap (((a ^^^ a / 134217728 : Nat) : Int) * 10723151780598845931) = (b : Int) := by rw [hb]; unfold Gear.mixB; rw [← wrap_u64n]; rfl
  have e6' : bits .xor .u64 (b : Int) ((b : Int) / 2147483648) = ((Gear.row seed c.toNat : Nat) : Int) := by
    rw [show Gear.row seed c.toNat = b ^^^ b / 2147483648 from by rw [hb, ha, hy]; rfl]
    exact u64_xor' hbl (hdiv b 2147483648 hbl)
  have hw : ∀ z k : Nat, 0 < k → z < Gear.M → IntKind.u64.wrap ((z : Int) / (k : Int)) = (z : Int) / (k : Int) := fun z k hk h => by
    have e : ((z / k : Nat) : Int) = (z : Int) / (k : Int) := by simp
    rw [← e, wrap_u64n, Nat.mod_eq_of_lt (hdiv z k h)]
  have d1 : IntKind.u64.wrap ((y : Int) / 1073741824) = (y : Int) / 1073741824 := hw y 1073741824 (by omega) hyl
  have d2 : IntKind.u64.wrap ((a : Int) / 134217728) = (a : Int) / 134217728 := hw a 134217728 (by omega) hal
  have d3 : IntKind.u64.wrap ((b : Int) / 2147483648) = (b : Int) / 2147483648 := hw b 2147483648 (by omega) hbl
  clear e2 hdiv hb ha hy hw
  go_enter Tryd.func40, Tryd.ntmps40
  go_wp2_with fail
  go_ret
  exact ⟨rfl, rfl⟩
theorem zero88 : Tryd.zeroCells88.toList = [.int .u64 0, .int .u32 0, .int .i32 0, .int .u32 0] ++ List.replicate 256 (.int .u64 0) := by kernel_rfl
set_option maxRecDepth 100000 in
theorem zero88_at (i : Nat) : Tryd.zeroCells88[i]? = ([.int .u64 0, .int .u32 0, .int .i32 0, .int .u32 0] ++ List.replicate 256 (.int .u64 0) : List Value)[i]? := by
  rw [← zero88, Array.getElem?_toList]
set_option maxRecDepth 100000 in
theorem gr_new (w : World) (seed : Nat) (hs : seed < Gear.M) : Gr (w.alloc (.cells (Tryd.zeroCells88.setIfInBounds 0 (.int .u64 (seed : Int))) 88)) w.heap.size seed 0 0 (fun _ => 0) := by
  have hB := Blk.new w 88 (Tryd.zeroCells88.setIfInBounds 0 (.int .u64 (seed : Int)))
  have hlt : 0 < Tryd.zeroCells88.size := by
    have h := zero88_at 0
    rcases Nat.eq_zero_or_pos Tryd.zeroCells88.size with e | e
    · rw [Array.getElem?_eq_none (by omega)] at h
      cases h
    · exact e
  have other : ∀ i, i ≠ 0 → (Tryd.zeroCells88.setIfInBounds 0 (.int .u64 (seed : Int)))[i]? = ([.int .u64 0, .int .u32 0, .int .i32 0, .int .u32 0] ++ List.replicate 256 (.int .u64 0) : List Value)[i]? := fun i hi => by
    rw [Array.getElem?_setIfInBounds, if_neg (fun e => hi e.symm), zero88_at]
  refine ⟨?_, ?_, ?_, fun i hi => ?_, fun i => hB.frozen i, hs⟩
  · rw [hB.cell, Array.getElem?_setIfInBounds, if_pos rfl, if_pos hlt]
  · rw [hB.cell, other 1 (by omega)]; rfl
  · rw [hB.cell, other 2 (by omega)]; rfl
  · rw [hB.cell, other _ (by omega), List.getElem?_append_right (by simp), List.getElem?_replicate, if_pos (by simp; omega)]
    rfl
theorem new_any (w : World) (seed : Nat) (hs : seed < Gear.M) :
    Calls Tryd.prog 12 #[.int .u64 (seed : Int)] w fun e w' => e = .returned (.pointer (some ⟨w.heap.size, 0, none⟩)) ∧ Gr w' w.heap.size seed 0 0 (fun _ => 0) ∧ Below w.heap.size w w' := by
  have HT := Lib.hid (gr_new w seed hs)
  go_enter Tryd.func12, Tryd.ntmps12
  go_wp2_with fail
  go_ret
  exact ⟨rfl, HT.out, (Below.refl _ _).alloc (Nat.le_refl _) _⟩
theorem u64_roll' (h r : Nat) : IntKind.u64.wrap (IntKind.u64.wrap (2 * (h : Int)) + (r : Int)) = (((2 * h + r) % Gear.M : Nat) : Int) := by
  rw [IntKind.wrap_u64, IntKind.wrap_u64]
  unfold Gear.M
  omega
set_option maxHeartbeats 1000000 in
/-- The reference's hash. -/
theorem rhash_any (w : World) (seed : Nat) (S : Nat → Prop) (A : Option Addr) (n c : Nat) (bs : List UInt8) (hx : Bs w S A n c bs) (hn : n ≤ 1000000000) :
    Calls Tryd.prog 14 #[.int .u64 (seed : Int), .slice A n c] w fun e w' => e = .returned (.int .u64 ((Gear.hash seed bs : Nat) : Int)) ∧ w = w' := by
  have HX := Lib.hid hx
  clear hx
  go_enter Tryd.func14, Tryd.ntmps14
  go_wp2_with fail
  go_loopw [5, 6] (fun v5 v6 wr => w = wr ∧ ∃ k h : Nat, k ≤ n ∧ v6 = .int .i64 (k : Int) ∧ v5 = .int .u64 (h : Int) ∧ Hid (h = Gear.hash seed (bs.take k))) (fun _ v6 _ => n - (intOf v6).toNat)
  case atStart => exact ⟨rfl, 0, 0, by omega, rfl, rfl, Lib.hid rfl⟩
  case round =>
    obtain ⟨rfl, k, h, hk, rfl, rfl, HH⟩ := hrel
    by_cases hlt : k < n
    · obtain ⟨ad, b, rfl, Hb, hc⟩ := HX.out.at_ hlt
      have hlt' : (k : Int) < (n : Int) := by omega
      have HR : Hid (IntKind.u64.wrap (IntKind.u64.wrap (2 * (h : Int)) + ((Gear.row seed b.toNat : Nat) : Int)) = ((Gear.roll seed h b : Nat) : Int)) := Lib.hid (by unfold Gear.roll; exact u64_roll' h _)
      go_wp2_with fail
      refine (rrow_any _ seed b).mono ?_
      rintro e w' ⟨rfl, rfl⟩
      go_wp2_with fail
      go_roundw
      case rel => exact ⟨trivial, k + 1, Gear.roll seed h b, by omega, by go_num, by rw [HR.out], Lib.hid (by rw [take_snoc Hb.out, Gear.hash_snoc, HH.out])⟩
      case measure => simp [intOf]; omega
    · obtain rfl : k = n := by omega
      have hY := HH.out
      rw [List.take_of_length_le (by rw [HX.out.len]; omega)] at hY
      have HY2 := Lib.hid hY
      clear hY
      go_wp2_with fail
      go_ret
      exact ⟨by rw [← HY2.out]; rfl, rfl⟩
end Go.Proofs.YtognkonncfjneaaDoor
