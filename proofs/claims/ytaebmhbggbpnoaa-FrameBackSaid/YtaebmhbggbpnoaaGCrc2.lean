/- A table of layer 2 in memory; the walk of fill. Conditions: each theorem's premises. -/
import Derived.Test.YtaebmhbggbpnoaaCrc1
import Derived.Test.YtaebmhbggbpnoaaOnce1
namespace Go.Proofs.Ytaebmhbggbpnoaa
open Go.RowKit
/-- A table: whether it was filled (o), its lock (m), its rows (f), its count (d). -/
structure Tb (w : World) (g : Nat) (o : Nat) (m : Int) (f : Nat → Nat) (d : Int) : Prop where
  c0 : w.cell? ⟨g, 0, none⟩ = some (.int .u32 (o : Int))
  c1 : w.cell? ⟨g, 1, none⟩ = some (.int .i32 m)
  row : ∀ i, i < 256 → w.cell? ⟨g, 3 + i, none⟩ = some (.int .u32 (f i : Int))
  cnt : w.cell? ⟨g, 259, none⟩ = some (.int .i64 d)
  free : ∀ i, w.frozen? ⟨g, i, none⟩ = false
section
variable {w w' : World} {g o : Nat} {m d : Int} {f : Nat → Nat}
theorem Tb.lt (h : Tb w g o m f d) : g < w.heap.size := World.block_lt_of_cell? w _ h.c0
theorem Tb.keep (h : Tb w g o m f d) (hc : ∀ i, w'.cell? ⟨g, i, none⟩ = w.cell? ⟨g, i, none⟩) (hf : ∀ i, w'.frozen? ⟨g, i, none⟩ = w.frozen? ⟨g, i, none⟩) : Tb w' g o m f d :=
  ⟨(hc _).trans h.c0, (hc _).trans h.c1, fun i hi => (hc _).trans (h.row i hi), (hc _).trans h.cnt, fun i => (hf i).trans (h.free i)⟩
theorem Tb.below {B : Nat} (h : Tb w g o m f d) (hb : Below B w w') (hg : g < B) : Tb w' g o m f d := h.keep (fun i => hb.cell (p := ⟨g, i, none⟩) hg) (fun i => hb.frozen (p := ⟨g, i, none⟩) hg)
theorem Tb.after (h : Tb w g o m f d) (hb : Below w.heap.size w w') : Tb w' g o m f d := h.below hb h.lt
theorem Tb.drew (h : Tb w g o m f d) : Tb w.drew g o m f d := h.keep (fun _ => rfl) (fun _ => rfl)
theorem frozen_setCell (w : World) (p : Addr) (u : Value) (q : Addr) : (w.setCell p u).frozen? q = w.frozen? q := by simp
theorem Tb.far (h : Tb w g o m f d) {p : Addr} (hp : p.block ≠ g) (u : Value) : Tb (w.setCell p u) g o m f d :=
  h.keep (fun i => World.cell?_setCell_other _ _ _ _ (fun e => hp (by rw [e]))) (fun i => frozen_setCell _ _ _ _)
theorem Tb.congr {f' : Nat → Nat} (h : Tb w g o m f d) (hf : ∀ i, i < 256 → f i = f' i) : Tb w g o m f' d := ⟨h.c0, h.c1, fun i hi => by rw [← hf i hi]; exact h.row i hi, h.cnt, h.free⟩
theorem other_off {g i j : Nat} (h : i ≠ j) : (⟨g, i, none⟩ : Addr) ≠ ⟨g, j, none⟩ := fun e => h (by injection e)
theorem Tb.setRow (h : Tb w g o m f d) (k v : Nat) (hk : k < 256) : Tb (w.setCell ⟨g, 3 + k, none⟩ (.int .u32 (v : Int))) g o m (fun j => if j = k then v else f j) d := by
  refine ⟨(World.cell?_setCell_other _ _ _ _ (other_off (by omega))).trans h.c0, (World.cell?_setCell_other _ _ _ _ (other_off (by omega))).trans h.c1, fun i hi => ?_, (World.cell?_setCell_other _ _ _ _ (other_off (by omega))).trans h.cnt, fun i => (frozen_setCell _ _ _ _).trans (h.free i)⟩
  by_cases e : i = k
  · subst e
    rw [if_pos rfl]
    exact World.cell?_setCell_same _ _ _ (h.row i hi)
  · rw [if_neg e]
    exact (World.cell?_setCell_other _ _ _ _ (other_off (by omega))).trans (h.row i hi)
theorem Tb.setDone (h : Tb w g o m f d) (v : Nat) : Tb (w.setCell ⟨g, 0, none⟩ (.int .u32 (v : Int))) g v m f d :=
  ⟨World.cell?_setCell_same _ _ _ h.c0, (World.cell?_setCell_other _ _ _ _ (other_off (by omega))).trans h.c1, fun i hi => (World.cell?_setCell_other _ _ _ _ (other_off (by omega))).trans (h.row i hi), (World.cell?_setCell_other _ _ _ _ (other_off (by omega))).trans h.cnt, fun i => (frozen_setCell _ _ _ _).trans (h.free i)⟩
theorem Tb.setLock (h : Tb w g o m f d) (v : Int) : Tb (w.setCell ⟨g, 1, none⟩ (.int .i32 v)) g o v f d :=
  ⟨(World.cell?_setCell_other _ _ _ _ (other_off (by omega))).trans h.c0, World.cell?_setCell_same _ _ _ h.c1, fun i hi => (World.cell?_setCell_other _ _ _ _ (other_off (by omega))).trans (h.row i hi), (World.cell?_setCell_other _ _ _ _ (other_off (by omega))).trans h.cnt, fun i => (frozen_setCell _ _ _ _).trans (h.free i)⟩
theorem Tb.setCnt (h : Tb w g o m f d) (v : Int) : Tb (w.setCell ⟨g, 259, none⟩ (.int .i64 v)) g o m f v :=
  ⟨(World.cell?_setCell_other _ _ _ _ (other_off (by omega))).trans h.c0, (World.cell?_setCell_other _ _ _ _ (other_off (by omega))).trans h.c1, fun i hi => (World.cell?_setCell_other _ _ _ _ (other_off (by omega))).trans (h.row i hi), World.cell?_setCell_same _ _ _ h.cnt, fun i => (frozen_setCell _ _ _ _).trans (h.free i)⟩
end
/-! ### Only the table has turned, and what is new -/
theorem only_drew {a w : World} {row : Option Nat} (h : a.grownBy w row) : a.grownBy w.drew row := ⟨h.os, h.tape, h.output, h.size, h.block⟩
theorem only_drewN {a w : World} {row : Option Nat} (h : a.grownBy w row) (n : Nat) : a.grownBy (w.drewN n) row := ⟨h.os, h.tape, h.output, h.size, h.block⟩
theorem only_alloc {a w : World} {row : Option Nat} (h : a.grownBy w row) (o : Obj) : a.grownBy (w.alloc o) row :=
  ⟨h.os, h.tape, h.output, Nat.le_trans h.size (by simp), fun i hi hne => (Below.heap_alloc w o i (Nat.lt_of_lt_of_le hi h.size)).trans (h.block i hi hne)⟩
theorem only_setCell {a w : World} {g : Nat} (h : a.grownBy w (some g)) {p : Addr} (hp : p.block = g ∨ a.heap.size ≤ p.block) (u : Value) : a.grownBy (w.setCell p u) (some g) :=
  ⟨h.os, h.tape, h.output, by simpa [World.setCell] using h.size, fun i hi hne => (Below.heap_setCell w p u i (by
    rintro rfl
    rcases hp with hp | hp
    · exact hne (by rw [hp])
    · omega)).trans (h.block i hi hne)⟩
theorem only_of_below {a w : World} (h : Below a.heap.size a w) (row : Option Nat) : a.grownBy w row := ⟨h.os, h.tape, h.output, h.size, fun i hi _ => h.block i hi⟩
theorem only_trans {a b c : World} {row : Option Nat} (h : a.grownBy b row) (k : b.grownBy c row) : a.grownBy c row :=
  ⟨k.os.trans h.os, k.tape.trans h.tape, k.output.trans h.output, Nat.le_trans h.size k.size, fun i hi hne => (k.block i (Nat.lt_of_lt_of_le hi h.size) hne).trans (h.block i hi hne)⟩
theorem only_below {a b : World} {g B : Nat} (h : a.grownBy b (some g)) (hB : B ≤ g) (hz : B ≤ a.heap.size) : Below B a b :=
  ⟨h.os, h.tape, h.output, h.size, fun i hi => h.block i (by omega) (by intro e; injection e with e; omega)⟩
theorem Bs.only {w w' : World} {S : Nat → Prop} {A : Option Addr} {n c g : Nat} {bs : List UInt8} (h : Bs w S A n c bs) (hg : w.grownBy w' (some g)) (hS : ∀ k, S k → k < w.heap.size → k ≠ g) : Bs w' S A n c bs :=
  h.keep (fun p hp hlt => World.cell?_of_block (hg.block p.block hlt (by intro e; injection e with e; exact hS _ hp hlt e))) (fun _ h _ => h)
set_option maxRecDepth 100000 in
theorem fill_any (w : World) (g o : Nat) (m d : Int) (f : Nat → Nat) (h : Tb w g o m f d) :
    Calls Try.prog 127 #[.pointer (some ⟨g, 0, none⟩)] w fun e w' => e = .returned (.tuple #[]) ∧ Tb w' g o m Crc.row d ∧ w.grownBy w' (some g) := by
  have H := Lib.hid h
  clear h
  go_enter Try.func127, Try.ntmps127
  go_wp2_with fail
  go_loopw [4] (fun v4 wr => ∃ k : Nat, k ≤ 256 ∧ v4 = .int .i64 (k : Int) ∧ Hid (Tb wr g o m (fun j => if j < k then Crc.row j else f j) d) ∧ Hid (w.grownBy wr (some g))) (fun v4 _ => 256 - (intOf v4).toNat)
  case atStart => exact ⟨0, by omega, rfl, Lib.hid (H.out.congr fun i _ => by simp), Lib.hid (World.grownBy.refl _ _)⟩
  case round =>
    obtain ⟨k, hk, rfl, HT, HG⟩ := hrel
    by_cases hlt : k < 256
    · have hlt' : (k : Int) < 256 := by omega
      go_wp2_with fail
      obtain ⟨wo, hwo⟩ : ∃ wo : World, wo = wr := ⟨_, rfl⟩
      go_loop [3, 9] (fun v3 v9 => ∃ j : Nat, j ≤ 8 ∧ v9 = .int .i64 (j : Int) ∧ v3 = .int .u32 ((Crc.down j k : Nat) : Int)) (fun _ v9 => 8 - (intOf v9).toNat)
      case atStart => exact ⟨0, by omega, rfl, rfl⟩
      case round =>
        obtain ⟨j, hj, rfl, rfl⟩ := hrel
        have hd : Crc.down j k < 4294967296 := Crc.down_lt (by omega)
        have Hh := Lib.hid (Crc.down_half j k)
        by_cases hl2 : j < 8
        · have hl2' : (j : Int) < 8 := by omega
          go_wp2_with fail
          refine (half_any _ hd _).mono ?_
          rintro e w' ⟨rfl, rfl⟩
          go_wp2_with fail
          go_round
          case rel => exact ⟨j + 1, by omega, by go_num, by rw [← Hh.out]; rfl⟩
          case measure => simp [intOf]; omega
        · obtain rfl : j = 8 := by omega
          have c0 := HT.out.row k hlt
          have f0 := HT.out.free (3 + k)
          go_wp2_with fail
          go_roundw
          case rel =>
            refine ⟨k + 1, by omega, by go_num, Lib.hid ((HT.out.setRow k (Crc.down 8 k) hlt).congr fun i _ => ?_), Lib.hid (only_setCell HG.out (.inl rfl) _)⟩
            by_cases e : i = k
            · subst e; rw [if_pos rfl, if_pos (by omega)]; rfl
            · rw [if_neg e]
              by_cases e2 : i < k
              · rw [if_pos e2, if_pos (by omega)]
              · rw [if_neg e2, if_neg (by omega)]
          case measure => simp [intOf]; omega
    · obtain rfl : k = 256 := by omega
      go_wp2_with fail
      go_end0
      exact ⟨rfl, HT.out.congr fun i hi => by rw [if_pos hi], HG.out⟩
/-- '(*sync/atomic.Bool).Load'. -/
theorem load_any (w : World) (a : Addr) (x : Int) (hc : w.cell? a = some (.int .u32 x)) :
    Calls Try.prog 136 #[.pointer (some a)] w fun e w' => e = .returned (.bool (x != 0)) ∧ w = w' := by
  have hl := run_call_load (P := Try.prog) Try.func144 (by kernel_rfl) (by kernel_rfl) (by kernel_rfl) .u32 (by kernel_rfl) hc
  go_enter Try.func136, Try.ntmps136
  go_wp2
  go_ret
  exact ⟨rfl, rfl⟩
set_option maxRecDepth 100000 in
/-- doSlow of a table's once: it is filled. -/
theorem slow_any (w : World) (g : Nat) (d : Int) (f : Nat → Nat) (h : Tb w g 0 0 f d) :
    Calls Try.prog 137 #[.pointer (some ⟨g, 0, none⟩), .func (.func 127) #[.pointer (some ⟨g, 0, none⟩)] #[]] w fun e w' => e = .returned (.tuple #[]) ∧ Tb w' g 1 0 Crc.row d ∧ w.grownBy w' (some g) := by
  have H := Lib.hid h
  have c1 := h.c1
  have f1 := h.free 1
  have hnot : ∀ (x : Bool) (w : World), (Op.unary .not (.bool x)).run Try.prog w = .ok (.bool (!x)) w := fun _ _ => rfl
  have hT1 := h.setLock 1
  have HT1 := Lib.hid hT1
  have q0 := hT1.c0
  clear h hT1
  go_enter_defers Try.func137, Try.ntmps137
  go_wp2_with fail
  refine (Once.lock_free ⟨g, 1, none⟩ _ c1 f1).mono ?_
  rintro e w' ⟨rfl, rfl⟩
  go_wp2_with fail
  refine (load_any _ _ _ q0).mono ?_
  rintro e w' ⟨rfl, rfl⟩
  go_wp2_with fail
  refine (fill_any _ g 0 1 d f HT1.out).mono ?_
  rintro e w2 ⟨rfl, hT2, hg2⟩
  have HT2 := Lib.hid hT2
  have HG2 := Lib.hid hg2
  clear hT2 hg2 q0 c1 f1
  go_wp2
  refine leaves_cons (f := 147) (args := #[.pointer (some ⟨g, 0, none⟩), .bool true]) (by simp) (by simp [go_sem]) ?_
  refine (Once.store_deferred ⟨g, 0, none⟩ _ .returning _ HT2.out.c0 (HT2.out.free 0)).mono ?_
  rintro e u' w3 ⟨rfl, rfl, rfl⟩
  have HT3 := Lib.hid (HT2.out.drew.setDone 1)
  refine leaves_cons (f := 146) (args := #[.pointer (some ⟨g, 1, none⟩)]) (by simp [settle]) (by simp [go_sem]) ?_
  refine (Once.unlock_deferred ⟨g, 1, none⟩ _ _ HT3.out.c1 (HT3.out.free 1)).mono ?_
  rintro e u' w4 ⟨rfl, rfl, rfl⟩
  have hfin : Tb ((w2.drew.setCell ⟨g, 0, none⟩ (.int .u32 1)).setCell ⟨g, 1, none⟩ (.int .i32 0)) g 1 0 Crc.row d := HT3.out.setLock 0
  have hG : w.grownBy ((w2.drew.setCell ⟨g, 0, none⟩ (.int .u32 1)).setCell ⟨g, 1, none⟩ (.int .i32 0)) (some g) :=
    only_setCell (p := ⟨g, 1, none⟩) (only_setCell (p := ⟨g, 0, none⟩) (only_drew (only_trans (only_setCell (World.grownBy.refl _ _) (p := ⟨g, 1, none⟩) (.inl rfl) _) HG2.out)) (.inl rfl) _) (.inl rfl) _
  have HF := Lib.hid (And.intro hfin hG)
  clear hfin hG
  simp only [Leaves, settle, results, Try.results137]
  exact ⟨.tuple #[], by simp, rfl, HF.out⟩
/-- Do of a table's once: filled ahead or not, it is filled behind. -/
theorem do_first (w : World) (g : Nat) (d : Int) (f : Nat → Nat) (h : Tb w g 0 0 f d) :
    Calls Try.prog 128 #[.pointer (some ⟨g, 0, none⟩), .func (.func 127) #[.pointer (some ⟨g, 0, none⟩)] #[]] w fun e w' => e = .returned (.tuple #[]) ∧ Tb w' g 1 0 Crc.row d ∧ w.grownBy w' (some g) := by
  have H := Lib.hid h
  clear h
  have hnot : ∀ (x : Bool) (w : World), (Op.unary .not (.bool x)).run Try.prog w = .ok (.bool (!x)) w := fun _ _ => rfl
  go_enter Try.func128, Try.ntmps128
  go_wp2_with fail
  refine (load_any _ _ _ H.out.c0).mono ?_
  rintro e w' ⟨rfl, rfl⟩
  go_wp2_with fail
  refine (slow_any _ g d f H.out).mono ?_
  rintro e w2 ⟨rfl, hT2, hg2⟩
  have HF := Lib.hid (And.intro hT2 hg2)
  clear hT2 hg2
  go_wp2_with fail
  go_end0
  exact ⟨rfl, HF.out⟩
theorem do_done (w : World) (g : Nat) (d : Int) (f : Nat → Nat) (fv : Value) (h : Tb w g 1 0 f d) :
    Calls Try.prog 128 #[.pointer (some ⟨g, 0, none⟩), fv] w fun e w' => e = .returned (.tuple #[]) ∧ w = w' := by
  have H := Lib.hid h
  clear h
  have hnot : ∀ (x : Bool) (w : World), (Op.unary .not (.bool x)).run Try.prog w = .ok (.bool (!x)) w := fun _ _ => rfl
  go_enter Try.func128, Try.ntmps128
  go_wp2_with fail
  refine (load_any _ _ _ H.out.c0).mono ?_
  rintro e w' ⟨rfl, rfl⟩
  go_wp2_with fail
  go_end0
  exact ⟨rfl, rfl⟩
/-- A table as the law meets it: filled or not. -/
def Tbl (w : World) (g : Nat) (d : Int) : Prop := Tb w g 1 0 Crc.row d ∨ ∃ f, Tb w g 0 0 f d
theorem do_any (w : World) (g : Nat) (d : Int) (h : Tbl w g d) :
    Calls Try.prog 128 #[.pointer (some ⟨g, 0, none⟩), .func (.func 127) #[.pointer (some ⟨g, 0, none⟩)] #[]] w fun e w' => e = .returned (.tuple #[]) ∧ Tb w' g 1 0 Crc.row d ∧ w.grownBy w' (some g) := by
  rcases h with h | ⟨f, h⟩
  · refine (do_done w g d _ _ h).mono ?_
    rintro e w' ⟨rfl, rfl⟩
    exact ⟨rfl, h, World.grownBy.refl _ _⟩
  · exact do_first w g d f h
end Go.Proofs.Ytaebmhbggbpnoaa
namespace Go.Proofs.Ytaebmhbggbpnoaa
open Go.RowKit
theorem add_any (w : World) (a : Addr) (x y : Int) (hc : w.cell? a = some (.int .i64 x)) (hf : w.frozen? a = false) (hx : -9223372036854775808 ≤ x + y) (hy : x + y ≤ 9223372036854775807) :
    Calls Try.prog 129 #[.pointer (some a), .int .i64 y] w fun e w' => e = .returned (.int .i64 (x + y)) ∧ w' = w.setCell a (.int .i64 (x + y)) := by
  have hadd := run_call_add (P := Try.prog) Try.func138 (by kernel_rfl) (by kernel_rfl) (by kernel_rfl) .i64 (by kernel_rfl) (y := y) (s := x + y) hc hf (by
    have e : IntKind.i64.wrap (x + y) = x + y := by rw [IntKind.wrap_i64]; omega
    show Sem.run Try.prog (pure (Value.int .i64 (IntKind.i64.wrap (x + y)))) w = _
    rw [e]; rfl)
  go_enter Try.func129, Try.ntmps129
  go_wp2
  go_ret
  exact ⟨rfl, rfl⟩
theorem loadCnt_any (w : World) (a : Addr) (x : Int) (hc : w.cell? a = some (.int .i64 x)) :
    Calls Try.prog 100 #[.pointer (some a)] w fun e w' => e = .returned (.int .i64 x) ∧ w = w' := by
  have hl := run_call_load (P := Try.prog) Try.func130 (by kernel_rfl) (by kernel_rfl) (by kernel_rfl) .i64 (by kernel_rfl) hc
  go_enter Try.func100, Try.ntmps100
  go_wp2
  go_ret
  exact ⟨rfl, rfl⟩
theorem xor8 {r : Nat} (c : UInt8) : bits .xor .u8 ((r : Int) % 256) (c.toNat : Int) = ((r % 256 ^^^ c.toNat : Nat) : Int) := by
  have := u8_xor_nat (r % 256) c.toNat (by omega) c.toNat_lt
  simpa using this
set_option maxRecDepth 10000 in
set_option maxHeartbeats 1000000 in
theorem run_any (w : World) (g : Nat) (d : Int) (h : Tbl w g d) (r : Nat) (hr : r < 4294967296) (S : Nat → Prop) (A : Option Addr) (n c : Nat) (bs : List UInt8) (hx : Bs w S A n c bs) (hS : ∀ k, S k → k < w.heap.size → k ≠ g)
    (hd : 0 ≤ d ∧ d ≤ 1000000000000) (hn : n ≤ 1000000000) :
    Calls Try.prog 94 #[.pointer (some ⟨g, 0, none⟩), .int .u32 (r : Int), .slice A n c] w fun e w' => e = .returned (.int .u32 ((Crc.run r bs : Nat) : Int)) ∧ Tb w' g 1 0 Crc.row (d + (n : Int)) ∧ w.grownBy w' (some g) := by
  have H := Lib.hid h
  have HX := Lib.hid hx
  have HS := Lib.hid hS
  have HR := Lib.hid hr
  obtain ⟨hd1, hd2⟩ := hd
  clear h hx hS hr
  have hmf : ∀ (fn : Fn) (first cap : Array Value) (w : World), (Instr.makeFunc fn first cap).run Try.prog w = .ok (.func fn first cap) w := fun _ _ _ _ => rfl
  go_enter Try.func94, Try.ntmps94
  go_wp2_with fail
  refine (do_any _ g d H.out).mono ?_
  rintro e w1 ⟨rfl, hT, hg⟩
  have HT := Lib.hid hT
  have HG := Lib.hid hg
  clear hT hg H
  have HX1 := Lib.hid (HX.out.only HG.out HS.out)
  go_wp2_with fail
  go_loop [1, 19] (fun v1 v19 => ∃ k y : Nat, k ≤ n ∧ v19 = .int .i64 (k : Int) ∧ v1 = .int .u32 (y : Int) ∧ y < 4294967296 ∧ Hid (y = Crc.run r (bs.take k))) (fun _ v19 => n - (intOf v19).toNat)
  case atStart => exact ⟨0, r, by omega, rfl, rfl, HR.out, Lib.hid rfl⟩
  case round =>
    obtain ⟨k, y, hk, rfl, rfl, hy, HY⟩ := hrel
    by_cases hlt : k < n
    · obtain ⟨ad, b, rfl, Hb, hc⟩ := HX1.out.at_ hlt
      have hi : y % 256 ^^^ b.toNat < 256 := Nat.xor_lt_two_pow (n := 8) (by omega) b.toNat_lt
      have e1 := xor8 (r := y) b
      have c0 := HT.out.row _ hi
      have hrow : Crc.row (y % 256 ^^^ b.toNat) < 4294967296 := Crc.down_lt (by omega)
      have hi1 : (0 : Int) ≤ ((y % 256 ^^^ b.toNat : Nat) : Int) := by omega
      have hi2 : ((y % 256 ^^^ b.toNat : Nat) : Int) < 256 := by omega
      have e2 : bits .xor .u32 ((Crc.row (y % 256 ^^^ b.toNat) : Nat) : Int) ((y : Int) / 256) = ((Crc.row (y % 256 ^^^ b.toNat) ^^^ y / 256 : Nat) : Int) := crc_xor (b := y / 256) hrow (by omega)
      have hlt' : (k : Int) < (n : Int) := by omega
      have hb := u8_lt b
      go_wp2_with fail
      go_round
      case rel =>
        refine ⟨k + 1, Crc.row (y % 256 ^^^ b.toNat) ^^^ y / 256, by omega, by go_num, rfl, Nat.xor_lt_two_pow (n := 32) hrow (by omega), Lib.hid ?_⟩
        rw [Crc.step_row, HY.out, take_snoc Hb.out, Crc.run_snoc]
      case measure => simp [intOf]; omega
    · obtain rfl : k = n := by omega
      have hY := HY.out
      rw [List.take_of_length_le (by rw [HX.out.len]; omega)] at hY
      have HY2 := Lib.hid hY
      clear hY
      go_wp2_with fail
      refine (add_any _ _ d k HT.out.cnt (HT.out.free _) (by omega) (by omega)).mono ?_
      rintro e w2 ⟨rfl, rfl⟩
      have HT2 := Lib.hid (HT.out.setCnt (d + k))
      go_wp2_with fail
      go_ret
      exact ⟨by rw [← HY2.out]; rfl, HT2.out, only_setCell HG.out (.inl rfl) _⟩
theorem neg_u32 (r : Nat) (hr : r < 4294967296) : bits .xor .u32 IntKind.u32.max (r : Int) = ((Crc.neg r : Nat) : Int) := by
  have h := u32_xor_nat 4294967295 r (by omega) hr
  have e : IntKind.u32.max = ((4294967295 : Nat) : Int) := by decide
  rw [e, h]
  unfold Crc.neg
  rw [Nat.xor_comm]
/-- More. -/
theorem more_any (w : World) (g : Nat) (d : Int) (h : Tbl w g d) (r : Nat) (hr : r < 4294967296) (S : Nat → Prop) (A : Option Addr) (n c : Nat) (bs : List UInt8) (hx : Bs w S A n c bs) (hS : ∀ k, S k → k < w.heap.size → k ≠ g)
    (hd : 0 ≤ d ∧ d ≤ 1000000000000) (hn : n ≤ 1000000000) :
    Calls Try.prog 38 #[.pointer (some ⟨g, 0, none⟩), .int .u32 (r : Int), .slice A n c] w fun e w' => e = .returned (.int .u32 ((Crc.more r bs : Nat) : Int)) ∧ Tb w' g 1 0 Crc.row (d + (n : Int)) ∧ w.grownBy w' (some g) := by
  have HC := Lib.hid (run_any w g d h (Crc.neg r) (Crc.neg_lt hr) S A n c bs hx hS hd hn)
  have HL : Crc.run (Crc.neg r) bs < 4294967296 := Crc.run_lt (Crc.neg_lt hr)
  clear h hx hS hd
  have n0 : IntKind.u32.signed = false := rfl
  have n1 := neg_u32 r hr
  have n2 := neg_u32 _ HL
  have e3 : Crc.neg (Crc.run (Crc.neg r) bs) = Crc.more r bs := rfl
  rw [e3] at n2
  clear e3
  go_enter Try.func38, Try.ntmps38
  go_wp2_with fail
  refine (HC.out).mono ?_
  rintro e w' ⟨rfl, hT, hg⟩
  have HF := Lib.hid (And.intro hT hg)
  clear hT hg
  go_wp2_with fail
  go_ret
  exact ⟨rfl, HF.out⟩
/-- Sum. -/
theorem sum_any (w : World) (g : Nat) (d : Int) (h : Tbl w g d) (S : Nat → Prop) (A : Option Addr) (n c : Nat) (bs : List UInt8) (hx : Bs w S A n c bs) (hS : ∀ k, S k → k < w.heap.size → k ≠ g)
    (hd : 0 ≤ d ∧ d ≤ 1000000000000) (hn : n ≤ 1000000000) :
    Calls Try.prog 34 #[.pointer (some ⟨g, 0, none⟩), .slice A n c] w fun e w' => e = .returned (.int .u32 ((Crc.sum bs : Nat) : Int)) ∧ Tb w' g 1 0 Crc.row (d + (n : Int)) ∧ w.grownBy w' (some g) := by
  have HC := Lib.hid (more_any w g d h 0 (by omega) S A n c bs hx hS hd hn)
  clear h hx hS hd
  go_enter Try.func34, Try.ntmps34
  go_wp2_with fail
  refine (HC.out).mono ?_
  rintro e w' ⟨rfl, hT, hg⟩
  have HF := Lib.hid (And.intro hT hg)
  clear hT hg
  go_wp2_with fail
  go_ret
  exact ⟨rfl, HF.out⟩
/-- Zeros. -/
theorem zeros_any (w : World) (g : Nat) (r : Nat) (hr : r < 4294967296) (n : Int) (hn : -9223372036854775808 ≤ n ∧ n ≤ 9223372036854775807) :
    Calls Try.prog 36 #[.pointer (some ⟨g, 0, none⟩), .int .u32 (r : Int), .int .i64 n] w fun e w' => e = .returned (.int .u32 ((Crc.neg (Crc.down (8 * n.toNat) (Crc.neg r)) : Nat) : Int)) ∧ w = w' := by
  have hnr := Crc.neg_lt hr
  have hp : Crc.down (8 * n.toNat) Crc.one < 4294967296 := Crc.down_lt Crc.one_lt
  have n0 : IntKind.u32.signed = false := rfl
  have n1 := neg_u32 r hr
  have n2 := neg_u32 _ (Crc.down_lt hnr : Crc.down (8 * n.toNat) (Crc.neg r) < 4294967296)
  have HM := Lib.hid (Crc.mul_power (8 * n.toNat) (Crc.neg r) hnr)
  go_enter Try.func36, Try.ntmps36
  go_wp2_with fail
  refine (power_any n hn _).mono ?_
  rintro e w' ⟨rfl, rfl⟩
  go_wp2_with fail
  refine (times_any _ _ hnr hp _).mono ?_
  rintro e w' ⟨rfl, rfl⟩
  rw [HM.out]
  go_wp2_with fail
  go_ret
  exact ⟨rfl, rfl⟩
/-- Join. -/
theorem join_any (w : World) (g : Nat) (a b : Nat) (ha : a < 4294967296) (hb : b < 4294967296) (n : Int) (h0 : 0 ≤ n) (hn : n ≤ 9223372036854775807) :
    Calls Try.prog 33 #[.pointer (some ⟨g, 0, none⟩), .int .u32 (a : Int), .int .u32 (b : Int), .int .i64 n] w fun e w' => e = .returned (.int .u32 ((Crc.down (8 * n.toNat) a ^^^ b : Nat) : Int)) ∧ w = w' := by
  have hp : Crc.down (8 * n.toNat) Crc.one < 4294967296 := Crc.down_lt Crc.one_lt
  have HM := Lib.hid (Crc.mul_power (8 * n.toNat) a ha)
  have e1 := crc_xor (a := Crc.down (8 * n.toNat) a) (b := b) (Crc.down_lt ha) hb
  go_enter Try.func33, Try.ntmps33
  go_wp2_with fail
  refine (power_any n ⟨by omega, hn⟩ _).mono ?_
  rintro e w' ⟨rfl, rfl⟩
  go_wp2_with fail
  refine (times_any _ _ ha hp _).mono ?_
  rintro e w' ⟨rfl, rfl⟩
  rw [HM.out]
  go_wp2_with fail
  go_ret
  exact ⟨rfl, rfl⟩
theorem join_neg (w : World) (g : Nat) (a b n : Int) (h0 : n < 0) :
    Calls Try.prog 33 #[.pointer (some ⟨g, 0, none⟩), .int .u32 a, .int .u32 b, .int .i64 n] w fun e w' => e = .returned (.int .u32 a) ∧ w = w' := by
  go_enter Try.func33, Try.ntmps33
  go_wp2_with fail
  go_ret
  exact ⟨rfl, rfl⟩
/-- Done. -/
theorem done_any (w : World) (g o : Nat) (m d : Int) (f : Nat → Nat) (h : Tb w g o m f d) :
    Calls Try.prog 49 #[.pointer (some ⟨g, 0, none⟩)] w fun e w' => e = .returned (.int .i64 d) ∧ w = w' := by
  have H := Lib.hid h
  clear h
  go_enter Try.func49, Try.ntmps49
  go_wp2_with fail
  refine (loadCnt_any _ _ d H.out.cnt).mono ?_
  rintro e w' ⟨rfl, rfl⟩
  go_wp2_with fail
  go_ret
  exact ⟨rfl, rfl⟩
end Go.Proofs.Ytaebmhbggbpnoaa
