/- A table of layer 2 in memory; the walk of fill. Conditions: each theorem's premises. -/
import Derived.Test.YtaebmhbggbpnoaaCrc1
import Derived.Test.YtaebmhbggbpnoaaOnce1
namespace Go.Proofs.Ytaebmhbggbpnoaa
open Go.RowKit
/-- A table: whether it was filled (o), its lock (m), its rows (f), its count (d). -/
structure Tb (w : World) (g : Nat) (o : Nat) (m : Int) (f : Nat → Nat) (d : Int) : Prop where
  c0 : w.cell? ⟨g, 0, none⟩ = some (.int .u32 (o : Int))
  c1 : w.cell? ⟨g, 1, none⟩ = some (.int .i32 m)
  row : ∀ i, i < 256 → w.cell? ⟨g, 3 + i, none⟩ = some (.int .u32 (f i : Int))
  cnt : w.cell? ⟨g, 259, none⟩ = some (.int .i64 d)
  free : ∀ i, w.frozen? ⟨g, i, none⟩ = false
section
variable {w w' : World} {g o : Nat} {m d : Int} {f : Nat → Nat}
theorem Tb.lt (h : Tb w g o m f d) : g < w.heap.size := World.block_lt_of_cell? w _ h.c0
theorem Tb.keep (h : Tb w g o m f d) (hc : ∀ i, w'.cell? ⟨g, i, none⟩ = w.cell? ⟨g, i, none⟩) (hf : ∀ i, w'.frozen? ⟨g, i, none⟩ = w.frozen? ⟨g, i, none⟩) : Tb w' g o m f d :=
  ⟨(hc _).trans h.c0, (hc _).trans h.c1, fun i hi => (hc _).trans (h.row i hi), (hc _).trans h.cnt, fun i => (hf i).trans (h.free i)⟩
theorem Tb.below {B : Nat} (h : Tb w g o m f d) (hb : Below B w w') (hg : g < B) : Tb w' g o m f d := h.keep (fun i => hb.cell (p := ⟨g, i, none⟩) hg) (fun i => hb.frozen (p := ⟨g, i, none⟩) hg)
theorem Tb.after (h : Tb w g o m f d) (hb : Below w.heap.size w w') : Tb w' g o m f d := h.below hb h.lt
theorem Tb.drew (h : Tb w g o m f d) : Tb w.drew g o m f d := h.keep (fun _ => rfl) (fun _ => rfl)
theorem frozen_setCell (w : World) (p : Addr) (u : Value) (q : Addr) : (w.setCell p u).frozen? q = w.frozen? q := by simp
theorem Tb.far (h : Tb w g o m f d) {p : Addr} (hp : p.block ≠ g) (u : Value) : Tb (w.setCell p u) g o m f d :=
  h.keep (fun i => World.cell?_setCell_other _ _ _ _ (fun e => hp (by rw [e]))) (fun i => frozen_setCell _ _ _ _)
theorem Tb.congr {f' : Nat → Nat} (h : Tb w g o m f d) (hf : ∀ i, i < 256 → f i = f' i) : Tb w g o m f' d := ⟨h.c0, h.c1, fun i hi => by rw [← hf i hi]; exact h.row i hi, h.cnt, h.free⟩
theorem other_off {g i j : Nat} (h : i ≠ j) : (⟨g, i, none⟩ : Addr) ≠ ⟨g, j, none⟩ := fun e => h (by injection e)
theorem Tb.setRow (h : Tb w g o m f d) (k v : Nat) (hk : k < 256) : Tb (w.setCell ⟨g, 3 + k, none⟩ (.int .u32 (v : Int))) g o m (fun j => if j = k then v else f j) d := by
  refine ⟨(World.cell?_setCell_other _ _ _ _ (other_off (by omega))).trans h.c0, (World.cell?_setCell_other _ _ _ _ (other_off (by omega))).trans h.c1, fun i hi => ?_, (World.cell?_setCell_other _ _ _ _ (other_off (by omega))).trans h.cnt, fun i => (frozen_setCell _ _ _ _).trans (h.free i)⟩
  by_cases e : i = k
  · subst e
    rw [if_pos rfl]
    exact World.cell?_setCell_same _ _ _ (h.row i hi)
  · rw [if_neg e]
    exact (World.cell?_setCell_other _ _ _ _ (other_off (by omega))).trans (h.row i hi)
theorem Tb.setDone (h : Tb w g o m f d) (v : Nat) : Tb (w.setCell ⟨g, 0, none⟩ (.int .u32 (v : Int))) g v m f d :=
  ⟨World.cell?_setCell_same _ _ _ h.c0, (World.cell?_setCell_other _ _ _ _ (other_off (by omega))).trans h.c1, fun i hi => (World.cell?_setCell_other _ _ _ _ (other_off (by omega))).trans (h.row i hi), (World.cell?_setCell_other _ _ _ _ (other_off (by omega))).trans h.cnt, fun i => (frozen_setCell _ _ _ _).trans (h.free i)⟩
theorem Tb.setLock (h : Tb w g o m f d) (v : Int) : Tb (w.setCell ⟨g, 1, none⟩ (.int .i32 v)) g o v f d :=
  ⟨(World.cell?_setCell_other _ _ _ _ (other_off (by omega))).trans h.c0, World.cell?_setCell_same _ _ _ h.c1, fun i hi => (World.cell?_setCell_other _ _ _ _ (other_off (by omega))).trans (h.row i hi), (World.cell?_setCell_other _ _ _ _ (other_off (by omega))).trans h.cnt, fun i => (frozen_setCell _ _ _ _).trans (h.free i)⟩
theorem Tb.setCnt (h : Tb w g o m f d) (v : Int) : Tb (w.setCell ⟨g, 259, none⟩ (.int .i64 v)) g o m f v :=
  ⟨(World.cell?_setCell_other _ _ _ _ (other_off (by omega))).trans h.c0, (World.cell?_setCell_other _ _ _ _ (other_off (by omega))).trans h.c1, fun i hi => (World.cell?_setCell_other _ _ _ _ (other_off (by omega))).trans (h.row i hi), World.cell?_setCell_same _ _ _ h.cnt, fun i => (frozen_setCell _ _ _ _).trans (h.free i)⟩
end
/-! ### Only the table has turned, and what is new -/
theorem only_drew {a w : World} {row : Option Nat} (h : a.grownBy w row) : a.grownBy w.drew row := ⟨h.os, h.tape, h.output, h.size, h.block⟩
theorem only_drewN {a w : World} {row : Option Nat} (h : a.grownBy w row) (n : Nat) : a.grownBy (w.drewN n) row := ⟨h.os, h.tape, h.output, h.size, h.block⟩
theorem only_alloc {a w : World} {row : Option Nat} (h : a.grownBy w row) (o : Obj) : a.grownBy (w.alloc o) row :=
  ⟨h.os, h.tape, h.output, Nat.le_trans h.size (by simp), fun i hi hne => (Below.heap_alloc w o i (Nat.lt_of_lt_of_le hi h.size)).trans (h.block i hi hne)⟩
theorem only_setCell {a w : World} {g : Nat} (h : a.grownBy w (some g)) {p : Addr} (hp : p.block = g ∨ a.heap.size ≤ p.block) (u : Value) : a.grownBy (w.setCell p u) (some g) :=
  ⟨h.os, h.tape, h.output, by simpa [World.setCell] using h.size, fun i hi hne => (Below.heap_setCell w p u i (by
    rintro rfl
    rcases hp with hp | hp
    · exact hne (by rw [hp])
    · omega)).trans (h.block i hi hne)⟩
theorem only_of_below {a w : World} (h : Below a.heap.size a w) (row : Option Nat) : a.grownBy w row := ⟨h.os, h.tape, h.output, h.size, fun i hi _ => h.block i hi⟩
theorem only_trans {a b c : World} {row : Option Nat} (h : a.grownBy b row) (k : b.grownBy c row) : a.grownBy c row :=
  ⟨k.os.trans h.os, k.tape.trans h.tape, k.output.trans h.output, Nat.le_trans h.size k.size, fun i hi hne => (k.block i (Nat.lt_of_lt_of_le hi h.size) hne).trans (h.block i hi hne)⟩
theorem only_below {a b : World} {g B : Nat} (h : a.grownBy b (some g)) (hB : B ≤ g) (hz : B ≤ a.heap.size) : Below B a b :=
  ⟨h.os, h.tape, h.output, h.size, fun i hi => h.block i (by omega) (by intro e; injection e with e; omega)⟩
theorem Bs.only {w w' : World} {S : Nat → Prop} {A : Option Addr} {n c g : Nat} {bs : List UInt8} (h : Bs w S A n c bs) (hg : w.grownBy w' (some g)) (hS : ∀ k, S k → k < w.heap.size → k ≠ g) : Bs w' S A n c bs :=
  h.keep (fun p hp hlt => World.cell?_of_block (hg.block p.block hlt (by intro e; injection e with e; exact hS _ hp hlt e))) (fun _ h _ => h)
set_option maxRecDepth 100000 in
theorem fill_any (w : World) (g o : Nat) (m d : Int) (f : Nat → Nat) (h : Tb w g o m f d) :
    Calls Try.prog 127 #[.pointer (some ⟨g, 0, none⟩)] w fun e w' => e = .returned (.tuple #[]) ∧ Tb w' g o m Crc.row d ∧ w.grownBy w' (some g) := by
  have H := Lib.hid h
  clear h
  go_enter Try.func127, Try.ntmps127
  go_wp2_with fail
  go_loopw [4] (fun v4 wr => ∃ k : Nat, k ≤ 256 ∧ v4 = .int .i64 (k : Int) ∧ Hid (Tb wr g o m (fun j => if j < k then Crc.row j else f j) d) ∧ Hid (w.grownBy wr (some g))) (fun v4 _ => 256 - (intOf v4).toNat)
  case atStart => exact ⟨0, by omega, rfl, Lib.hid (H.out.congr fun i _ => by simp), Lib.hid (World.grownBy.refl _ _)⟩
  case round =>
    obtain ⟨k, hk, rfl, HT, HG⟩ := hrel
    by_cases hlt : k < 256
    · have hlt' : (k : Int) < 256 := by omega
      go_wp2_with fail
      obtain ⟨wo, hwo⟩ : ∃ wo : World, wo = wr := ⟨_, rfl⟩
      go_loop [3, 9] (fun v3 v9 => ∃ j : Nat, j ≤ 8 ∧ v9 = .int .i64 (j : Int) ∧ v3 = .int .u32 ((Crc.down j k : Nat) : Int)) (fun _ v9 => 8 - (intOf v9).toNat)
      case atStart => exact ⟨0, by omega, rfl, rfl⟩
      case round =>
        obtain ⟨j, hj, rfl, rfl⟩ := hrel
        have hd : Crc.down j k < 4294967296 := Crc.down_lt (by omega)
        have Hh := Lib.hid (Crc.down_half j k)
        by_cases hl2 : j < 8
        · have hl2' : (j : Int) < 8 := by omega
          go_wp2_with fail
          refine (half_any _ hd _).mono ?_
          rintro e w' ⟨rfl, rfl⟩
          go_wp2_with fail
          go_round
          case rel => exact ⟨j + 1, by omega, by go_num, by rw [← Hh.out]; rfl⟩
          case measure => simp [intOf]; omega
        · obtain rfl : j = 8 := by omega
          have c0 := HT.out.row k hlt
          have f0 := HT.out.free (3 + k)
          go_wp2_with fail
          go_roundw
          case rel =>
            refine ⟨k + 1, by omega, by go_num, Lib.hid ((HT.out.setRow k (Crc.down 8 k) hlt).congr fun i _ => ?_), Lib.hid (only_setCell HG.out (.inl rfl) _)⟩
            by_cases e : i = k
            · subst e; rw [if_pos rfl, if_pos (by omega)]; rfl
            · rw [if_neg e]
              by_cases e2 : i < k
              · rw [if_pos e2, if_pos (by omega)]
              · rw [if_neg e2, if_neg (by omega)]
          case measure => simp [intOf]; omega
    · obtain rfl : k = 256 := by omega
      go_wp2_with fail
      go_end0
      exact ⟨rfl, HT.out.congr fun i hi => by rw [if_pos hi], HG.out⟩
/-- '(*sync/atomic.Bool).Load'. -/
theorem load_any (w : World) (a : Addr) (x : Int) (hc : w.cell? a = some (.int .u32 x)) :
    Calls Try.prog 136 #[.pointer (some a)] w fun e w' => e = .returned (.bool (x != 0)) ∧ w = w' := by
  have hl := run_call_load (P := Try.prog) Try.func144 (by kernel_rfl) (by kernel_rfl) (by kernel_rfl) .u32 (by kernel_rfl) hc
  go_enter Try.func136, Try.ntmps136
  go_wp2
  go_ret
  exact ⟨rfl, rfl⟩
set_option maxRecDepth 100000 in
/-- doSlow of a table's once: it is filled. -/
theorem slow_any (w : World) (g : Nat) (d : Int) (f : Nat → Nat) (h : Tb w g 0 0 f d) :
    Calls Try.prog 137 #[.pointer (some ⟨g, 0, none⟩), .func (.func 127) #[.pointer (some ⟨g, 0, none⟩)] #[]] w fun e w' => e = .returned (.tuple #[]) ∧ Tb w' g 1 0 Crc.row d ∧ w.grownBy w' (some g) := by
  have H := Lib.hid h
  have c1 := h.c1
  have f1 := h.free 1
  have hnot : ∀ (x : Bool) (w : World), (Op.unary .not (.bool x)).run Try.prog w = .ok (.bool (!x)) w := fun _ _ => rfl
  have hT1 := h.setLock 1
  have HT1 := Lib.hid hT1
  have q0 := hT1.c0
  clear h hT1
  go_enter_defers Try.func137, Try.ntmps137
  go_wp2_with fail
  refine (Once.lock_free ⟨g, 1, none⟩ _ c1 f1).mono ?_
  rintro e w' ⟨rfl, rfl⟩
  go_wp2_with fail
  refine (load_any _ _ _ q0).mono ?_
  rintro e w' ⟨rfl, rfl⟩
  go_wp2_with fail
  refine (fill_any _ g 0 1 d f HT1.out).mono ?_
  rintro e w2 ⟨rfl, hT2, hg2⟩
  have HT2 := Lib.hid hT2
  have HG2 := Lib.hid hg2
  clear hT2 hg2 q0 c1 f1
  go_wp2
  refine leaves_cons (f := 147) (args := #[.pointer (some ⟨g, 0, none⟩), .bool true]) (by simp) (by simp [go_sem]) ?_
  refine (Once.store_deferred ⟨g, 0, none⟩ _ .returning _ HT2.out.c0 (HT2.out.free 0)).mono ?_
  rintro e u' w3 ⟨rfl, rfl, rfl⟩
  have HT3 := Lib.hid (HT2.out.drew.setDone 1)
  refine leaves_cons (f := 146) (args := #[.pointer (some ⟨g, 1, none⟩)]) (by simp [settle]) (by simp [go_sem]) ?_
  refine (Once.unlock_deferred ⟨g, 1, none⟩ _ _ HT3.out.c1 (HT3.out.free 1)).mono ?_
  rintro e u' w4 ⟨rfl, rfl, rfl⟩
  have hfin : Tb ((w2.drew.setCell ⟨g, 0, none⟩ (.int .u32 1)).setCell ⟨g, 1, none⟩ (.int .i32 0)) g 1 0 Crc.row d := HT3.out.setLock 0
  have hG : w.grownBy ((w2.drew.setCell ⟨g, 0, none⟩ (.int .u32 1)).setCell ⟨g, 1, none⟩ (.int .i32 0)) (some g) :=
    only_setCell (p := ⟨g, 1, none⟩) (only_setCell (p := ⟨g, 0, none⟩) (only_drew (only_trans (only_setCell (World.grownBy.refl _ _) (p := ⟨g, 1, none⟩) (.inl rfl) _) HG2.out)) (.inl rfl) _) (.inl rfl) _
  have HF := Lib.hid (And.intro hfin hG)
  clear hfin hG
  simp only [Leaves, settle, results, Try.results137]
  exact ⟨.tuple #[], by simp, rfl, HF.out⟩
/-- Do of a table's once: filled ahead or not, it is filled behind. -/
theorem do_first (w : World) (g : Nat) (d : Int) (f : Nat → Nat) (h : Tb w g 0 0 f d) :
    Calls Try.prog 128 #[.pointer (some ⟨g, 0, none⟩), .func (.func 127) #[.pointer (some ⟨g, 0, none⟩)] #[]] w fun e w' => e = .returned (.tuple #[]) ∧ Tb w' g 1 0 Crc.row d ∧ w.grownBy w' (some g) := by
  have H := Lib.hid h
  clear h
  have hnot : ∀ (x : Bool) (w : World), (Op.unary .not (.bool x)).run Try.prog w = .ok (.bool (!x)) w := fun _ _ => rfl
  go_enter Try.func128, Try.ntmps128
  go_wp2_with fail
  refine (load_any _ _ _ H.out.c0).mono ?_
  rintro e w' ⟨rfl, rfl⟩
  go_wp2_with fail
  refine (slow_any _ g d f H.out).mono ?_
  rintro e w2 ⟨rfl, hT2, hg2⟩
  have HF := Lib.hid (And.intro hT2 hg2)
  clear hT2 hg2
  go_wp2_with fail
  go_end0
  exact ⟨rfl, HF.out⟩
theorem do_done (w : World) (g : Nat) (d : Int) (f : Nat → Nat) (fv : Value) (h : Tb w g 1 0 f d) :
    Calls Try.prog 128 #[.pointer (some ⟨g, 0, none⟩), fv] w fun e w' => e = .returned (.tuple #[]) ∧ w = w' := by
  have H := Lib.hid h
  clear h
  have hnot : ∀ (x : Bool) (w : World), (Op.unary .not (.bool x)).run Try.prog w = .ok (.bool (!x)) w := fun _ _ => rfl
  go_enter Try.func128, Try.ntmps128
  go_wp2_with fail
  refine (load_any _ _ _ H.out.c0).mono ?_
  rintro e w' ⟨rfl, rfl⟩
  go_wp2_with fail
  go_end0
  exact ⟨rfl, rfl⟩
/-- A table as the law meets it: filled or not. -/
def Tbl (w : World) (g : Nat) (d : Int) : Prop := Tb w g 1 0 Crc.row d ∨ ∃ f, Tb w g 0 0 f d
theorem do_any (w : World) (g : Nat) (d : Int) (h : Tbl w g d) :
    Calls Try.prog 128 #[.pointer (some ⟨g, 0, none⟩), .func (.func 127) #[.pointer (some ⟨g, 0, none⟩)] #[]] w fun e w' => e = .returned (.tuple #[]) ∧ Tb w' g 1 0 Crc.row d ∧ w.grownBy w' (some g) := by
  rcases h with h | ⟨f, h⟩
  · refine (do_done w g d _ _ h).mono ?_
    rintro e w' ⟨rfl, rfl⟩
    exact ⟨rfl, h, World.grownBy.refl _ _⟩
  · exact do_first w g d f h
end Go.Proofs.Ytaebmhbggbpnoaa
