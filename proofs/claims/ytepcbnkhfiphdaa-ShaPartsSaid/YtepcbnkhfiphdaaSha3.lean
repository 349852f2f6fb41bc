/- An engine in memory; the walk of fill (sha). Conditions: each theorem's premises. -/
import Derived.Test.YtepcbnkhfiphdaaSha2
import Derived.Test.YtepcbnkhfiphdaaOnce1
import Derived.StillTailTactics
namespace Go.Proofs.Ytepcbnkhfiphdaa
open Go.RowKit
theorem other_off {g i j : Nat} (h : i ≠ j) : (⟨g, i, none⟩ : Addr) ≠ ⟨g, j, none⟩ := fun e => h (by injection e)
theorem frozen_setCell (w : World) (p : Addr) (u : Value) (q : Addr) : (w.setCell p u).frozen? q = w.frozen? q := by simp
/-- An engine: whether it was filled (o), its lock (m), its words (f; from 8 on the cube's), how many blocks it went through. -/
structure En (w : World) (g o : Nat) (m : Int) (f : Nat → Nat) (nb : Int) : Prop where
  c0 : w.cell? ⟨g, 0, none⟩ = some (.int .u32 (o : Int))
  c1 : w.cell? ⟨g, 1, none⟩ = some (.int .i32 m)
  row : ∀ i, i < 72 → w.cell? ⟨g, 3 + i, none⟩ = some (.int .u32 (f i : Int))
  cb : w.cell? ⟨g, 75, none⟩ = some (.int .i64 nb)
  free : ∀ i, w.frozen? ⟨g, i, none⟩ = false
section
variable {w w' : World} {g o : Nat} {m nb : Int} {f : Nat → Nat}
theorem En.lt (h : En w g o m f nb) : g < w.heap.size := World.block_lt_of_cell? w _ h.c0
theorem En.keep (h : En w g o m f nb) (hc : ∀ i, w'.cell? ⟨g, i, none⟩ = w.cell? ⟨g, i, none⟩) (hf : ∀ i, w'.frozen? ⟨g, i, none⟩ = w.frozen? ⟨g, i, none⟩) : En w' g o m f nb :=
  ⟨(hc _).trans h.c0, (hc _).trans h.c1, fun i hi => (hc _).trans (h.row i hi), (hc _).trans h.cb, fun i => (hf i).trans (h.free i)⟩
theorem En.below {B : Nat} (h : En w g o m f nb) (hb : Below B w w') (hg : g < B) : En w' g o m f nb := h.keep (fun i => hb.cell (p := ⟨g, i, none⟩) hg) (fun i => hb.frozen (p := ⟨g, i, none⟩) hg)
theorem En.after (h : En w g o m f nb) (hb : Below w.heap.size w w') : En w' g o m f nb := h.below hb h.lt
theorem En.drew (h : En w g o m f nb) : En w.drew g o m f nb := h.keep (fun _ => rfl) (fun _ => rfl)
theorem En.drewN (h : En w g o m f nb) (n : Nat) : En (w.drewN n) g o m f nb := h.keep (fun _ => rfl) (fun _ => rfl)
theorem En.congr {f' : Nat → Nat} (h : En w g o m f nb) (hf : ∀ i, i < 72 → f i = f' i) : En w g o m f' nb := ⟨h.c0, h.c1, fun i hi => by rw [← hf i hi]; exact h.row i hi, h.cb, h.free⟩
theorem En.alloc (h : En w g o m f nb) (ob : Obj) : En (w.alloc ob) g o m f nb := h.after ((Below.refl _ _).alloc (Nat.le_refl _) _)
theorem En.far (h : En w g o m f nb) {p : Addr} (hp : p.block ≠ g) (u : Value) : En (w.setCell p u) g o m f nb :=
  h.keep (fun i => World.cell?_setCell_other _ _ _ _ (fun e => hp (by rw [e]))) (fun i => frozen_setCell _ _ _ _)
theorem En.setRow (h : En w g o m f nb) (k v : Nat) (hk : k < 72) : En (w.setCell ⟨g, 3 + k, none⟩ (.int .u32 (v : Int))) g o m (fun j => if j = k then v else f j) nb := by
  refine ⟨(World.cell?_setCell_other _ _ _ _ (other_off (by omega))).trans h.c0, (World.cell?_setCell_other _ _ _ _ (other_off (by omega))).trans h.c1, fun i hi => ?_, (World.cell?_setCell_other _ _ _ _ (other_off (by omega))).trans h.cb, fun i => (frozen_setCell _ _ _ _).trans (h.free i)⟩
  by_cases e : i = k
  · subst e
    rw [if_pos rfl]
    exact World.cell?_setCell_same _ _ _ (h.row i hi)
  · rw [if_neg e]
    exact (World.cell?_setCell_other _ _ _ _ (other_off (by omega))).trans (h.row i hi)
theorem En.setDone (h : En w g o m f nb) (v : Nat) : En (w.setCell ⟨g, 0, none⟩ (.int .u32 (v : Int))) g v m f nb :=
  ⟨World.cell?_setCell_same _ _ _ h.c0, (World.cell?_setCell_other _ _ _ _ (other_off (by omega))).trans h.c1, fun i hi => (World.cell?_setCell_other _ _ _ _ (other_off (by omega))).trans (h.row i hi), (World.cell?_setCell_other _ _ _ _ (other_off (by omega))).trans h.cb, fun i => (frozen_setCell _ _ _ _).trans (h.free i)⟩
theorem En.setLock (h : En w g o m f nb) (v : Int) : En (w.setCell ⟨g, 1, none⟩ (.int .i32 v)) g o v f nb :=
  ⟨(World.cell?_setCell_other _ _ _ _ (other_off (by omega))).trans h.c0, World.cell?_setCell_same _ _ _ h.c1, fun i hi => (World.cell?_setCell_other _ _ _ _ (other_off (by omega))).trans (h.row i hi), (World.cell?_setCell_other _ _ _ _ (other_off (by omega))).trans h.cb, fun i => (frozen_setCell _ _ _ _).trans (h.free i)⟩
theorem En.setCnt (h : En w g o m f nb) (v : Int) : En (w.setCell ⟨g, 75, none⟩ (.int .i64 v)) g o m f v :=
  ⟨(World.cell?_setCell_other _ _ _ _ (other_off (by omega))).trans h.c0, (World.cell?_setCell_other _ _ _ _ (other_off (by omega))).trans h.c1, fun i hi => (World.cell?_setCell_other _ _ _ _ (other_off (by omega))).trans (h.row i hi), World.cell?_setCell_same _ _ _ h.cb, fun i => (frozen_setCell _ _ _ _).trans (h.free i)⟩
end
/-! ### Only one block has turned, and what is new -/
theorem only_drew {a w : World} {row : Option Nat} (h : a.grownBy w row) : a.grownBy w.drew row := ⟨h.os, h.tape, h.output, h.size, h.block⟩
theorem only_drewN {a w : World} {row : Option Nat} (h : a.grownBy w row) (n : Nat) : a.grownBy (w.drewN n) row := ⟨h.os, h.tape, h.output, h.size, h.block⟩
theorem only_setCell {a w : World} {g : Nat} (h : a.grownBy w (some g)) {p : Addr} (hp : p.block = g ∨ a.heap.size ≤ p.block) (u : Value) : a.grownBy (w.setCell p u) (some g) :=
  ⟨h.os, h.tape, h.output, by simpa [World.setCell] using h.size, fun i hi hne => (Below.heap_setCell w p u i (by
    rintro rfl
    rcases hp with hp | hp
    · exact hne (by rw [hp])
    · omega)).trans (h.block i hi hne)⟩
theorem only_of_below {a w : World} (h : Below a.heap.size a w) (row : Option Nat) : a.grownBy w row := ⟨h.os, h.tape, h.output, h.size, fun i hi _ => h.block i hi⟩
theorem only_trans {a b c : World} {row : Option Nat} (h : a.grownBy b row) (k : b.grownBy c row) : a.grownBy c row :=
  ⟨k.os.trans h.os, k.tape.trans h.tape, k.output.trans h.output, Nat.le_trans h.size k.size, fun i hi hne => (k.block i (Nat.lt_of_lt_of_le hi h.size) hne).trans (h.block i hi hne)⟩
theorem only_below {a b : World} {g B : Nat} (h : a.grownBy b (some g)) (hB : B ≤ g) (hz : B ≤ a.heap.size) : Below B a b :=
  ⟨h.os, h.tape, h.output, h.size, fun i hi => h.block i (by omega) (by intro e; injection e with e; omega)⟩
theorem Bs.only {w w' : World} {S : Nat → Prop} {A : Option Addr} {n c g : Nat} {bs : List UInt8} (h : Bs w S A n c bs) (hg : w.grownBy w' (some g)) (hS : ∀ k, S k → k < w.heap.size → k ≠ g) : Bs w' S A n c bs :=
  h.keep (fun p hp hlt => World.cell?_of_block (hg.block p.block hlt (by intro e; injection e with e; exact hS _ hp hlt e))) (fun _ h _ => h)
theorem only_alloc {a w : World} {row : Option Nat} (h : a.grownBy w row) (o : Obj) : a.grownBy (w.alloc o) row :=
  ⟨h.os, h.tape, h.output, Nat.le_trans h.size ((Below.refl w.heap.size w).alloc (Nat.le_refl _) o).size, fun i hi hne => (Below.heap_alloc w o i (by have := h.size; omega)).trans (h.block i hi hne)⟩
/-! ### fill -/
theorem clo49 (w : World) (p : Addr) (n : Nat) (hn : n < 312) (hc : w.cell? p = some (.int .u64 (n : Int))) (x : Nat) (hx : x < 2 ^ 37) :
    Calls Try.prog 49 #[.int .u64 (x : Int), .pointer (some p)] w fun e w' => e = .returned (.bool (Sha.sqF n x)) ∧ w = w' := by
  have HC := Lib.hid (squared_any x n hx hn)
  go_enter Try.func49, Try.ntmps49
  go_wp2_with fail
  refine (HC.out _).mono ?_
  rintro e w' ⟨rfl, rfl⟩
  go_wp2_with fail
  go_ret
  exact ⟨rfl, rfl⟩
theorem clo51 (w : World) (p : Addr) (n : Nat) (hn : n < 312) (hc : w.cell? p = some (.int .u64 (n : Int))) (x : Nat) (hx : x < 2 ^ 37) :
    Calls Try.prog 51 #[.int .u64 (x : Int), .pointer (some p)] w fun e w' => e = .returned (.bool (Sha.cuF n x)) ∧ w = w' := by
  have HC := Lib.hid (cubed_any x n hx hn)
  go_enter Try.func51, Try.ntmps51
  go_wp2_with fail
  refine (HC.out _).mono ?_
  rintro e w' ⟨rfl, rfl⟩
  go_wp2_with fail
  go_ret
  exact ⟨rfl, rfl⟩
theorem stillC {F : FuncId} {args : Array Value} {W : World} {v : Value} (h : Calls Try.prog F args W fun e w' => e = .returned v ∧ W = w') : Calls Try.prog F args W fun e w'' => e = .returned v ∧ w'' = W :=
  h.mono fun _ _ ⟨he, hw⟩ => ⟨he, hw.symm⟩
/-- What the words are, once they are filled. -/
def fillF (i : Nat) : Nat := if i < 8 then Sha.H.getD i 0 else Sha.K.getD (i - 8) 0
/-- .. behind the i-th prime. -/
def fillA (f : Nat → Nat) (i j : Nat) : Nat := if j < 8 then (if j < i then fillF j else f j) else (if j - 8 < i then fillF j else f j)
theorem fillA_all (f : Nat → Nat) (j : Nat) (hj : j < 72) : fillA f 64 j = fillF j := by
  unfold fillA
  split
  · rw [if_pos (by omega)]
  · rw [if_pos (by omega)]
theorem fillA_sq (f : Nat → Nat) (i v1 v2 j : Nat) (hi : i < 64) (h1 : i < 8 → v1 = fillF i) (h2 : v2 = fillF (8 + i)) (h8 : i < 8) :
    (fun j => if j = 8 + i then v2 else (fun j => if j = i then v1 else fillA f i j) j) j = fillA f (i + 1) j := by
  have h1 := h1 h8
  subst h1
  subst h2
  show (if j = 8 + i then fillF (8 + i) else (if j = i then fillF i else fillA f i j)) = fillA f (i + 1) j
  by_cases e1 : j = 8 + i
  · subst e1
    rw [if_pos rfl]
    unfold fillA
    rw [if_neg (by omega), if_pos (by omega)]
  · rw [if_neg e1]
    by_cases e2 : j = i
    · subst e2
      rw [if_pos rfl]
      unfold fillA
      rw [if_pos h8, if_pos (by omega)]
    · rw [if_neg e2]
      unfold fillA
      split
      · by_cases h : j < i
        · rw [if_pos h, if_pos (by omega)]
        · rw [if_neg h, if_neg (by omega)]
      · by_cases h : j - 8 < i
        · rw [if_pos h, if_pos (by omega)]
        · rw [if_neg h, if_neg (by omega)]
theorem fillA_cu (f : Nat → Nat) (i v2 j : Nat) (h2 : v2 = fillF (8 + i)) (h8 : 8 ≤ i) :
    (fun j => if j = 8 + i then v2 else fillA f i j) j = fillA f (i + 1) j := by
  subst h2
  show (if j = 8 + i then fillF (8 + i) else fillA f i j) = fillA f (i + 1) j
  by_cases e1 : j = 8 + i
  · subst e1
    rw [if_pos rfl]
    unfold fillA
    rw [if_neg (by omega), if_pos (by omega)]
  · rw [if_neg e1]
    unfold fillA
    split
    · rw [if_pos (by omega), if_pos (by omega)]
    · by_cases h : j - 8 < i
      · rw [if_pos h, if_pos (by omega)]
      · rw [if_neg h, if_neg (by omega)]
theorem blk_new {W : World} {g t : Nat} {cs : Array Value} (h : g = W.heap.size) : Blk (W.alloc (.cells cs t)) g t cs := by
  subst h
  exact Blk.new W t cs
/-- A round's end: the i-th words are in. -/
theorem fill_end {w W2 : World} {g o i n : Nat} {m nb : Int} {f f' : Nat → Nat} {v : Nat} (hT : En W2 g o m f' nb) (hG : w.grownBy W2 (some g)) (hi : i < 64)
    (hf : ∀ j, (if j = 8 + i then v else f' j) = fillA f (i + 1) j) :
    ((W2.setCell ⟨g, 11 + i, none⟩ (.int .u32 (v : Int))).alloc (.cells #[.int .u64 ((n : Int) + 1)] 79)).cell? ⟨W2.heap.size, 0, none⟩ = some (.int .u64 ((n + 1 : Nat) : Int)) ∧
    ((W2.setCell ⟨g, 11 + i, none⟩ (.int .u32 (v : Int))).alloc (.cells #[.int .u64 ((n : Int) + 1)] 79)).frozen? ⟨W2.heap.size, 0, none⟩ = false ∧
    w.heap.size ≤ W2.heap.size ∧ W2.heap.size ≠ g ∧
    En ((W2.setCell ⟨g, 11 + i, none⟩ (.int .u32 (v : Int))).alloc (.cells #[.int .u64 ((n : Int) + 1)] 79)) g o m (fillA f (i + 1)) nb ∧
    w.grownBy ((W2.setCell ⟨g, 11 + i, none⟩ (.int .u32 (v : Int))).alloc (.cells #[.int .u64 ((n : Int) + 1)] 79)) (some g) := by
  have hB : Blk ((W2.setCell ⟨g, 11 + i, none⟩ (.int .u32 (v : Int))).alloc (.cells #[.int .u64 ((n : Int) + 1)] 79)) W2.heap.size 79 #[.int .u64 ((n : Int) + 1)] := blk_new (by simp)
  have hs := hT.setRow (8 + i) v (by omega)
  rw [show 3 + (8 + i) = 11 + i by omega] at hs
  refine ⟨hB.cell 0, hB.frozen 0, hG.size, fun e => by have := hT.lt; omega, (hs.alloc _).congr fun j _ => hf j, only_alloc (only_setCell (p := ⟨g, 11 + i, none⟩) hG (.inl rfl) _) _⟩
set_option maxRecDepth 100000 in
set_option maxHeartbeats 1000000 in
theorem fill_any (w : World) (g o : Nat) (m nb : Int) (f : Nat → Nat) (h : En w g o m f nb) :
    Calls Try.prog 38 #[.pointer (some ⟨g, 0, none⟩)] w fun e w' => e = .returned (.tuple #[]) ∧ En w' g o m fillF nb ∧ w.grownBy w' (some g) := by
  have H := Lib.hid h
  clear h
  have hmf : ∀ (fn : Fn) (first cap : Array Value) (w : World), (Instr.makeFunc fn first cap).run Try.prog w = .ok (.func fn first cap) w := fun _ _ _ _ => rfl
  have hnot : ∀ (x : Bool) (w : World), (Op.unary .not (.bool x)).run Try.prog w = .ok (.bool (!x)) w := fun _ _ => rfl
  go_enter Try.func38, Try.ntmps38
  go_wp2_with fail
  go_loopg [2, 3] 400 (fun gk v2 v3 wr => ∃ i n p : Nat, gk + n = 402 ∧ v2 = .int .i64 (i : Int) ∧ v3 = .pointer (some ⟨p, 0, none⟩) ∧ i ≤ 64 ∧ n ≤ 312 ∧ w.heap.size ≤ p ∧ p ≠ g ∧
    wr.cell? ⟨p, 0, none⟩ = some (.int .u64 (n : Int)) ∧ wr.frozen? ⟨p, 0, none⟩ = false ∧ Hid (Sha.lo i < n ∧ (i < 64 → n ≤ Sha.P.getD i 0)) ∧ Hid (En wr g o m (fillA f i) nb) ∧ Hid (w.grownBy wr (some g)))
  case atStart =>
    have hB := Blk.new w 79 #[.int .u64 2]
    exact ⟨0, 2, w.heap.size, by omega, rfl, rfl, by omega, by omega, by omega, fun e => by have := H.out.lt; omega, hB.cell 0, hB.frozen 0, Lib.hid (by decide), Lib.hid ((H.out.alloc _).congr fun i _ => by unfold fillA; split <;> (rw [if_neg (by omega)])), Lib.hid (only_alloc (World.grownBy.refl _ _) _)⟩
  case round =>
    obtain ⟨i, n, p, hgk, rfl, rfl, hi, hn, hp, hpg, hc, hf, HL, HT, HG⟩ := hrel
    have HGK := Lib.hid hgk
    clear hgk H
    by_cases hlt : i < 64
    · have HF := Lib.hid (Sha.facts hlt)
      have F6 := HF.out.2.2.2.2.2.1
      have hL := HL.out
      have hnl : n < 312 := by have := hL.2 hlt; omega
      have hlt' : (i : Int) < 64 := by omega
      have HP := Lib.hid (prime_any n hnl)
      by_cases e : n = Sha.P.getD i 0
      · have hpr : Sha.prime n = true := by rw [e]; exact HF.out.1
        rw [hpr] at HP
        have HP' : Hid (∀ W : World, Calls Try.prog 47 #[.int .u64 (n : Int)] W fun e w' => e = .returned (.bool true) ∧ W = w') := Lib.hid HP.out
        have HE := Lib.hid e
        have HS51 := Lib.hid (fun (W : World) hW => least_any 51 #[.pointer (some ⟨p, 0, none⟩)] (Sha.cuF n) W enter51 (fun x hx => clo51 W ⟨p, 0, none⟩ n hnl hW x hx))
        have HL2 : Hid (Sha.lo (i + 1) < n + 1 ∧ (i + 1 < 64 → n + 1 ≤ Sha.P.getD (i + 1) 0)) := Lib.hid ⟨by rw [HF.out.2.2.2.2.2.2, e]; omega, fun hi1 => by
          have := (Sha.facts hi1).2.2.2.2.1
          rw [HF.out.2.2.2.2.2.2, ← e] at this
          exact this⟩
        clear hpr HP e F6 hL
        by_cases h8 : i < 8
        · have h8' : (i : Int) < 8 := by omega
          have HS49 := Lib.hid (fun (W : World) hW => least_any 49 #[.pointer (some ⟨p, 0, none⟩)] (Sha.sqF n) W enter49 (fun x hx => clo49 W ⟨p, 0, none⟩ n hnl hW x hx))
          go_wp2_with fail
          refine (HP'.out _).mono ?_
          rintro e w' ⟨rfl, rfl⟩
          go_wp2_with fail
          refine wp_region_still_tail 8 (by kernel_rfl) (by kernel_rfl) ?_
          simp only [List.take_succ_cons, List.take_zero, List.drop_succ_cons, List.drop_zero]
          change wpStill _ _ wr.drew (fun a' => wpList _ _ _ _ a' wr.drew) _ _
          obtain ⟨W, hW⟩ : ∃ W, W = wr.drew := ⟨_, rfl⟩
          rw [← hW]
          have hcW : W.cell? ⟨p, 0, none⟩ = some (.int .u64 (n : Int)) := by rw [hW]; exact hc
          have hCW := stillC (HS49.out W hcW)
          have HTW := Lib.hid (show En W g o m (fillA f i) nb by rw [hW]; exact HT.out.drew)
          have HGW := Lib.hid (show w.grownBy W (some g) by rw [hW]; exact only_drew HG.out)
          have hfW : W.frozen? ⟨g, 3 + i, none⟩ = false := HTW.out.free _
          have hrW := HTW.out.row i (by omega)
          have HfpW := Lib.hid (show W.frozen? ⟨p, 0, none⟩ = false by rw [hW]; exact hf)
          clear hW hc hf
          repeat still_step
          still_call hCW
          repeat still_step
          refine wpStill_nil ?_
          go_wp2_with fail
          obtain ⟨v1, hv1⟩ : ∃ v1, v1 = Sha.leastF (Sha.sqF n) 37 0 % 4294967296 := ⟨_, rfl⟩
          have hvc : (↑(Sha.leastF (Sha.sqF n) 37 0) % 4294967296 : Int) = (v1 : Int) := by rw [hv1]; omega
          rw [hvc]
          have HV1 := Lib.hid (show v1 = fillF i by rw [hv1, HE.out, HF.out.2.2.1 h8]; unfold fillF; rw [if_pos h8])
          clear hvc hv1 hCW
          refine wp_region_still_tail 8 (by kernel_rfl) (by kernel_rfl) ?_
          simp only [List.take_succ_cons, List.take_zero, List.drop_succ_cons, List.drop_zero]
          obtain ⟨W0, hW0⟩ : ∃ W0, W0 = W.setCell ⟨g, 3 + i, none⟩ (.int .u32 (v1 : Int)) := ⟨_, rfl⟩
          rw [← hW0]
          change wpStill _ _ W0.drew (fun a' => wpList _ _ _ _ a' W0.drew) _ _
          obtain ⟨W2, hW2⟩ : ∃ W2, W2 = W0.drew := ⟨_, rfl⟩
          rw [← hW2]
          have hcW2 : W2.cell? ⟨p, 0, none⟩ = some (.int .u64 (n : Int)) := by rw [hW2, hW0]; exact (World.cell?_setCell_other _ _ _ _ (fun e => hpg (by injection e with e1; exact e1.symm))).trans hcW
          have hCW2 := stillC (HS51.out W2 hcW2)
          have HTW2 := Lib.hid (show En W2 g o m (fun j => if j = i then v1 else fillA f i j) nb by rw [hW2, hW0]; exact (HTW.out.setRow i v1 (by omega)).drew)
          have HGW2 := Lib.hid (show w.grownBy W2 (some g) by rw [hW2, hW0]; exact only_drew (only_setCell (p := ⟨g, 3 + i, none⟩) HGW.out (.inl rfl) _))
          have hfW2 : W2.frozen? ⟨g, 11 + i, none⟩ = false := HTW2.out.free _
          have hrW2 := HTW2.out.row (8 + i) (by omega)
          rw [show 3 + (8 + i) = 11 + i by omega] at hrW2
          have hfpW2 : W2.frozen? ⟨p, 0, none⟩ = false := by rw [hW2, hW0]; exact (frozen_setCell _ _ _ _).trans HfpW.out
          clear hW2 hW0 hcW hrW hfW
          repeat still_step
          still_call hCW2
          repeat still_step
          refine wpStill_nil ?_
          go_wp2_with fail
          go_roundg (gk - 1)
          case measure => have := HGK.out; omega
          case rel =>
            obtain ⟨v2, hv2⟩ : ∃ v2, v2 = Sha.leastF (Sha.cuF n) 37 0 % 4294967296 := ⟨_, rfl⟩
            have hvc2 : (↑(Sha.leastF (Sha.cuF n) 37 0) % 4294967296 : Int) = (v2 : Int) := by rw [hv2]; omega
            rw [hvc2]
            have hv2' : v2 = fillF (8 + i) := by rw [hv2, HE.out, HF.out.2.1]; unfold fillF; rw [if_neg (by omega), show 8 + i - 8 = i by omega]
            obtain ⟨q1, q2, q3, q4, q5, q6⟩ := fill_end (f := f) (n := n) HTW2.out HGW2.out hlt (fun j => fillA_sq f i v1 v2 j hlt (fun _ => HV1.out) hv2' h8)
            exact ⟨i + 1, n + 1, W2.heap.size, by have := HGK.out; omega, by go_num, rfl, by omega, by omega, q3, q4, q1, q2, HL2, Lib.hid q5, Lib.hid q6⟩
        · have h8' : (8 : Int) ≤ (i : Int) := by omega
          go_wp2_with fail
          refine (HP'.out _).mono ?_
          rintro e w' ⟨rfl, rfl⟩
          go_wp2_with fail
          refine wp_region_still_tail 8 (by kernel_rfl) (by kernel_rfl) ?_
          simp only [List.take_succ_cons, List.take_zero, List.drop_succ_cons, List.drop_zero]
          change wpStill _ _ wr.drew (fun a' => wpList _ _ _ _ a' wr.drew) _ _
          obtain ⟨W2, hW2⟩ : ∃ W2, W2 = wr.drew := ⟨_, rfl⟩
          rw [← hW2]
          have hcW2 : W2.cell? ⟨p, 0, none⟩ = some (.int .u64 (n : Int)) := by rw [hW2]; exact hc
          have hCW2 := stillC (HS51.out W2 hcW2)
          have HTW2 := Lib.hid (show En W2 g o m (fillA f i) nb by rw [hW2]; exact HT.out.drew)
          have HGW2 := Lib.hid (show w.grownBy W2 (some g) by rw [hW2]; exact only_drew HG.out)
          have hfW2 : W2.frozen? ⟨g, 11 + i, none⟩ = false := HTW2.out.free _
          have hrW2 := HTW2.out.row (8 + i) (by omega)
          rw [show 3 + (8 + i) = 11 + i by omega] at hrW2
          have hfpW2 : W2.frozen? ⟨p, 0, none⟩ = false := by rw [hW2]; exact hf
          clear hW2 hc hf
          repeat still_step
          still_call hCW2
          repeat still_step
          refine wpStill_nil ?_
          go_wp2_with fail
          go_roundg (gk - 1)
          case measure => have := HGK.out; omega
          case rel =>
            obtain ⟨v2, hv2⟩ : ∃ v2, v2 = Sha.leastF (Sha.cuF n) 37 0 % 4294967296 := ⟨_, rfl⟩
            have hvc2 : (↑(Sha.leastF (Sha.cuF n) 37 0) % 4294967296 : Int) = (v2 : Int) := by rw [hv2]; omega
            rw [hvc2]
            have hv2' : v2 = fillF (8 + i) := by rw [hv2, HE.out, HF.out.2.1]; unfold fillF; rw [if_neg (by omega), show 8 + i - 8 = i by omega]
            obtain ⟨q1, q2, q3, q4, q5, q6⟩ := fill_end (f := f) (n := n) HTW2.out HGW2.out hlt (fun j => fillA_cu f i v2 j hv2' (by omega))
            exact ⟨i + 1, n + 1, W2.heap.size, by have := HGK.out; omega, by go_num, rfl, by omega, by omega, q3, q4, q1, q2, HL2, Lib.hid q5, Lib.hid q6⟩
      · have hpr : Sha.prime n = false := HF.out.2.2.2.1 n hL.1 (by have := hL.2 hlt; omega)
        rw [hpr] at HP
        have HP' : Hid (∀ W : World, Calls Try.prog 47 #[.int .u64 (n : Int)] W fun e w' => e = .returned (.bool false) ∧ W = w') := Lib.hid HP.out
        have HL2 : Hid (Sha.lo i < n + 1 ∧ (i < 64 → n + 1 ≤ Sha.P.getD i 0)) := Lib.hid ⟨by omega, fun hi1 => by have := hL.2 hlt; omega⟩
        clear hpr HP e F6 hL HF
        go_wp2_with fail
        refine (HP'.out _).mono ?_
        rintro e w' ⟨rfl, rfl⟩
        go_wp2_with fail
        go_roundg (gk - 1)
        case measure => have := HGK.out; omega
        case rel =>
          have hB := Blk.new wr 79 #[.int .u64 ((n : Int) + 1)]
          exact ⟨i, n + 1, wr.heap.size, by have := HGK.out; omega, rfl, rfl, hi, by omega, HG.out.size, fun e => by have := HT.out.lt; omega, hB.cell 0, hB.frozen 0, HL2, Lib.hid (HT.out.alloc _), Lib.hid (only_alloc HG.out _)⟩
    · obtain rfl : i = 64 := by omega
      have HF := Lib.hid (And.intro (HT.out.congr fun j hj => fillA_all f j hj) HG.out)
      clear HT HG
      go_wp2_with fail
      go_end0
      exact ⟨rfl, HF.out⟩
end Go.Proofs.Ytepcbnkhfiphdaa
