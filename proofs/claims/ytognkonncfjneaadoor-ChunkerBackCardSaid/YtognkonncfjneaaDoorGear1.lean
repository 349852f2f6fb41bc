/- A gear in memory; the walks of fill, Do, table, Row, Roll, New. Conditions: each theorem's premises. -/
import Derived.Test.YtognkonncfjneaaDoorGearSpec
import Derived.Test.YtognkonncfjneaaDoorOnce1
import Derived.Laws.BitsAllLaws
namespace Go.Proofs.YtognkonncfjneaaDoor
open Go.RowKit
theorem other_off {g i j : Nat} (h : i ≠ j) : (⟨g, i, none⟩ : Addr) ≠ ⟨g, j, none⟩ := fun e => h (by injection e)
theorem frozen_setCell (w : World) (p : Addr) (u : Value) (q : Addr) : (w.setCell p u).frozen? q = w.frozen? q := by simp
/-- A gear: its seed, whether it was filled (o), its lock (m), its rows (f). -/
structure Gr (w : World) (g : Nat) (seed o : Nat) (m : Int) (f : Nat → Nat) : Prop where
  cs : w.cell? ⟨g, 0, none⟩ = some (.int .u64 (seed : Int))
  c0 : w.cell? ⟨g, 1, none⟩ = some (.int .u32 (o : Int))
  c1 : w.cell? ⟨g, 2, none⟩ = some (.int .i32 m)
  row : ∀ i, i < 256 → w.cell? ⟨g, 4 + i, none⟩ = some (.int .u64 (f i : Int))
  free : ∀ i, w.frozen? ⟨g, i, none⟩ = false
  few : seed < Gear.M
section
variable {w w' : World} {g seed o : Nat} {m : Int} {f : Nat → Nat}
theorem Gr.lt (h : Gr w g seed o m f) : g < w.heap.size := World.block_lt_of_cell? w _ h.c0
theorem Gr.keep (h : Gr w g seed o m f) (hc : ∀ i, w'.cell? ⟨g, i, none⟩ = w.cell? ⟨g, i, none⟩) (hf : ∀ i, w'.frozen? ⟨g, i, none⟩ = w.frozen? ⟨g, i, none⟩) : Gr w' g seed o m f :=
  ⟨(hc _).trans h.cs, (hc _).trans h.c0, (hc _).trans h.c1, fun i hi => (hc _).trans (h.row i hi), fun i => (hf i).trans (h.free i), h.few⟩
theorem Gr.below {B : Nat} (h : Gr w g seed o m f) (hb : Below B w w') (hg : g < B) : Gr w' g seed o m f := h.keep (fun i => hb.cell (p := ⟨g, i, none⟩) hg) (fun i => hb.frozen (p := ⟨g, i, none⟩) hg)
theorem Gr.after (h : Gr w g seed o m f) (hb : Below w.heap.size w w') : Gr w' g seed o m f := h.below hb h.lt
theorem Gr.drew (h : Gr w g seed o m f) : Gr w.drew g seed o m f := h.keep (fun _ => rfl) (fun _ => rfl)
theorem Gr.congr {f' : Nat → Nat} (h : Gr w g seed o m f) (hf : ∀ i, i < 256 → f i = f' i) : Gr w g seed o m f' := ⟨h.cs, h.c0, h.c1, fun i hi => by rw [← hf i hi]; exact h.row i hi, h.free, h.few⟩
theorem Gr.setRow (h : Gr w g seed o m f) (k v : Nat) (hk : k < 256) : Gr (w.setCell ⟨g, 4 + k, none⟩ (.int .u64 (v : Int))) g seed o m (fun j => if j = k then v else f j) := by
  refine ⟨(World.cell?_setCell_other _ _ _ _ (other_off (by omega))).trans h.cs, (World.cell?_setCell_other _ _ _ _ (other_off (by omega))).trans h.c0, (World.cell?_setCell_other _ _ _ _ (other_off (by omega))).trans h.c1, fun i hi => ?_, fun i => (frozen_setCell _ _ _ _).trans (h.free i), h.few⟩
  by_cases e : i = k
  · subst e
    rw [if_pos rfl]
    exact World.cell?_setCell_same _ _ _ (h.row i hi)
  · rw [if_neg e]
    exact (World.cell?_setCell_other _ _ _ _ (other_off (by omega))).trans (h.row i hi)
theorem Gr.setDone (h : Gr w g seed o m f) (v : Nat) : Gr (w.setCell ⟨g, 1, none⟩ (.int .u32 (v : Int))) g seed v m f :=
  ⟨(World.cell?_setCell_other _ _ _ _ (other_off (by omega))).trans h.cs, World.cell?_setCell_same _ _ _ h.c0, (World.cell?_setCell_other _ _ _ _ (other_off (by omega))).trans h.c1, fun i hi => (World.cell?_setCell_other _ _ _ _ (other_off (by omega))).trans (h.row i hi), fun i => (frozen_setCell _ _ _ _).trans (h.free i), h.few⟩
theorem Gr.setLock (h : Gr w g seed o m f) (v : Int) : Gr (w.setCell ⟨g, 2, none⟩ (.int .i32 v)) g seed o v f :=
  ⟨(World.cell?_setCell_other _ _ _ _ (other_off (by omega))).trans h.cs, (World.cell?_setCell_other _ _ _ _ (other_off (by omega))).trans h.c0, World.cell?_setCell_same _ _ _ h.c1, fun i hi => (World.cell?_setCell_other _ _ _ _ (other_off (by omega))).trans (h.row i hi), fun i => (frozen_setCell _ _ _ _).trans (h.free i), h.few⟩
end
/-! ### Only one block has turned, and what is new -/
theorem only_drew {a w : World} {row : Option Nat} (h : a.grownBy w row) : a.grownBy w.drew row := ⟨h.os, h.tape, h.output, h.size, h.block⟩
theorem only_drewN {a w : World} {row : Option Nat} (h : a.grownBy w row) (n : Nat) : a.grownBy (w.drewN n) row := ⟨h.os, h.tape, h.output, h.size, h.block⟩
theorem only_setCell {a w : World} {g : Nat} (h : a.grownBy w (some g)) {p : Addr} (hp : p.block = g ∨ a.heap.size ≤ p.block) (u : Value) : a.grownBy (w.setCell p u) (some g) :=
  ⟨h.os, h.tape, h.output, by simpa [World.setCell] using h.size, fun i hi hne => (Below.heap_setCell w p u i (by
    rintro rfl
    rcases hp with hp | hp
    · exact hne (by rw [hp])
    · omega)).trans (h.block i hi hne)⟩
theorem only_of_below {a w : World} (h : Below a.heap.size a w) (row : Option Nat) : a.grownBy w row := ⟨h.os, h.tape, h.output, h.size, fun i hi _ => h.block i hi⟩
theorem only_trans {a b c : World} {row : Option Nat} (h : a.grownBy b row) (k : b.grownBy c row) : a.grownBy c row :=
  ⟨k.os.trans h.os, k.tape.trans h.tape, k.output.trans h.output, Nat.le_trans h.size k.size, fun i hi hne => (k.block i (Nat.lt_of_lt_of_le hi h.size) hne).trans (h.block i hi hne)⟩
theorem only_below {a b : World} {g B : Nat} (h : a.grownBy b (some g)) (hB : B ≤ g) (hz : B ≤ a.heap.size) : Below B a b :=
  ⟨h.os, h.tape, h.output, h.size, fun i hi => h.block i (by omega) (by intro e; injection e with e; omega)⟩
theorem Bs.only {w w' : World} {S : Nat → Prop} {A : Option Addr} {n c g : Nat} {bs : List UInt8} (h : Bs w S A n c bs) (hg : w.grownBy w' (some g)) (hS : ∀ k, S k → k < w.heap.size → k ≠ g) : Bs w' S A n c bs :=
  h.keep (fun p hp hlt => World.cell?_of_block (hg.block p.block hlt (by intro e; injection e with e; exact hS _ hp hlt e))) (fun _ h _ => h)
theorem u64_xor' {a b : Nat} (ha : a < Gear.M) (hb : b < Gear.M) : bits .xor .u64 (a : Int) (b : Int) = ((a ^^^ b : Nat) : Int) := u64_xor_nat a b ha hb
theorem wrap_u64n (n : Nat) : IntKind.u64.wrap (n : Int) = ((n % Gear.M : Nat) : Int) := by
  have e : IntKind.u64.wrap (n : Int) = (n : Int) % 18446744073709551616 := by simp [IntKind.wrap, IntKind.bits, IntKind.signed]
  rw [e]
  unfold Gear.M
  omega
/-- The steps of a row, as the walk spells them. -/
theorem row_steps (x : Nat) : ∃ y a b c : Nat, Hid (y = (x + Gear.stepN) % Gear.M) ∧ Hid (c = Gear.mix y) ∧ IntKind.u64.wrap ((x : Int) + 11400714819323198485) = (y : Int) ∧ bits .xor .u64 (y : Int) ((y : Int) / 1073741824) = ((y ^^^ y / 1073741824 : Nat) : Int) ∧
    IntKind.u64.wrap (((y ^^^ y / 1073741824 : Nat) : Int) * 13787848793156543929) = (a : Int) ∧ bits .xor .u64 (a : Int) ((a : Int) / 134217728) = ((a ^^^ a / 134217728 : Nat) : Int) ∧
    IntKind.u64.wrap (((a ^^^ a / 134217728 : Nat) : Int) * 10723151780598845931) = (b : Int) ∧ bits .xor .u64 (b : Int) ((b : Int) / 2147483648) = (c : Int) ∧ y < Gear.M ∧ a < Gear.M ∧ b < Gear.M ∧ c < Gear.M := by
  have hdiv : ∀ z k : Nat, z < Gear.M → z / k < Gear.M := fun z k h => Nat.lt_of_le_of_lt (Nat.div_le_self _ _) h
  have hy : (x + Gear.stepN) % Gear.M < Gear.M := Nat.mod_lt _ Gear.M_pos
  refine ⟨(x + Gear.stepN) % Gear.M, Gear.mixA ((x + Gear.stepN) % Gear.M), Gear.mixB (Gear.mixA ((x + Gear.stepN) % Gear.M)), Gear.mix ((x + Gear.stepN) % Gear.M), Lib.hid rfl, Lib.hid rfl, ?_, ?_, ?_, ?_, ?_, ?_, hy, Gear.mixA_lt _, Gear.mixB_lt _, Gear.mixC_lt (Gear.mixB_lt _)⟩
  · rw [← wrap_u64n]; rfl
  · exact u64_xor' hy (hdiv _ _ hy)
  · unfold Gear.mixA; rw [← wrap_u64n]; rfl
  · exact u64_xor' (Gear.mixA_lt _) (hdiv _ _ (Gear.mixA_lt _))
  · unfold Gear.mixB; rw [← wrap_u64n]; rfl
  · exact u64_xor' (Gear.mixB_lt _) (hdiv _ _ (Gear.mixB_lt _))
set_option maxRecDepth 100000 in
set_option maxHeartbeats 1000000 in
theorem fill_any (w : World) (g seed o : Nat) (m : Int) (f : Nat → Nat) (h : Gr w g seed o m f) :
    Calls Tryd.prog 54 #[.pointer (some ⟨g, 0, none⟩)] w fun e w' => e = .returned (.tuple #[]) ∧ Gr w' g seed o m (Gear.row seed) ∧ w.grownBy w' (some g) := by
  have H := Lib.hid h
  have cs := h.cs
  have HF := Lib.hid h.few
  clear h
  go_enter Tryd.func54, Tryd.ntmps54
  go_wp2_with fail
  clear cs
  go_loopw [2, 9] (fun v2 v9 wr => ∃ k x : Nat, k ≤ 256 ∧ v9 = .int .i64 (k : Int) ∧ v2 = .int .u64 (x : Int) ∧ Hid (x = Gear.at_ seed k) ∧ Hid (Gr wr g seed o m (fun j => if j < k then Gear.row seed j else f j)) ∧ Hid (w.grownBy wr (some g))) (fun _ v9 _ => 256 - (intOf v9).toNat)
  case atStart => exact ⟨0, seed, by omega, rfl, rfl, Lib.hid (Gear.at_zero HF.out).symm, Lib.hid (H.out.congr fun i _ => by simp), Lib.hid (World.grownBy.refl _ _)⟩
  case round =>
    obtain ⟨k, x, hk, rfl, rfl, HX, HT, HG⟩ := hrel
    by_cases hlt : k < 256
    · have hlt' : (k : Int) < 256 := by omega
      have c0 := HT.out.row k hlt
      have f0 := HT.out.free (4 + k)
      obtain ⟨y, a, b, c, Hy, Hc, e1, e2, e3, e4, e5, e6, -⟩ := row_steps x
      have Hyc : Hid (y = Gear.at_ seed (k + 1)) := Lib.hid (by rw [Gear.at_succ, ← HX.out]; exact Hy.out)
      have Hcr : Hid (c = Gear.row seed k) := Lib.hid (by rw [Hc.out, Hyc.out]; rfl)
      go_wp2_with fail
      go_roundw
      case rel =>
        refine ⟨k + 1, y, by omega, by go_num, rfl, Hyc, Lib.hid ((HT.out.setRow k c hlt).congr fun i _ => ?_), Lib.hid (only_setCell HG.out (.inl rfl) _)⟩
        by_cases e : i = k
        · subst e; rw [if_pos rfl, if_pos (by omega)]; exact Hcr.out
        · rw [if_neg e]
          by_cases e2 : i < k
          · rw [if_pos e2, if_pos (by omega)]
          · rw [if_neg e2, if_neg (by omega)]
      case measure => simp [intOf]; omega
    · obtain rfl : k = 256 := by omega
      go_wp2_with fail
      go_end0
      exact ⟨rfl, HT.out.congr fun i hi => by rw [if_pos hi], HG.out⟩
end Go.Proofs.YtognkonncfjneaaDoor
