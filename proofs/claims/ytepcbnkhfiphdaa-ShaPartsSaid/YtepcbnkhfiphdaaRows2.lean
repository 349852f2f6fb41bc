/- Slices of slices of bytes, slices of bools and hashes that came in. Conditions: each theorem's premises. -/
import Derived.Test.YtepcbnkhfiphdaaWrap
import Derived.Test.YtepcbnkhfiphdaaSha14
import Derived.Deep.Matrix
import Derived.Deep.Grids
import Derived.OpenShut
namespace Go.Proofs.Ytepcbnkhfiphdaa
open Go.RowKit
/-- A slice of bools. -/
structure BR (w : World) (S : Nat → Prop) (A : Option Addr) (n c : Nat) (l : List Bool) : Prop where
  len : l.length = n
  cap : n ≤ c
  at_ : ∀ k, k < n → ∃ ad x, A = some ad ∧ S ad.block ∧ Hid (l[k]? = some x) ∧ w.cell? (ad.add k) = some (.bool x)
section
variable {w w' : World} {S S' : Nat → Prop} {B n c : Nat} {A : Option Addr} {l : List Bool}
theorem BR.keep (h : BR w S A n c l) (hk : ∀ p : Addr, S p.block → p.block < w.heap.size → w'.cell? p = w.cell? p) (hS : ∀ k, S k → k < w.heap.size → S' k) : BR w' S' A n c l :=
  ⟨h.len, h.cap, fun k hlt => by
    obtain ⟨ad, x, e, hs, hl, hc⟩ := h.at_ k hlt
    have hz := World.block_lt_of_cell? w _ hc
    rw [block_of_add] at hz
    exact ⟨ad, x, e, hS _ hs hz, hl, (hk _ (by rw [block_of_add]; exact hs) (by rw [block_of_add]; exact hz)).trans hc⟩⟩
theorem BR.old (h : BR w S A n c l) : BR w (Lo w.heap.size) A n c l := h.keep (fun _ _ _ => rfl) (fun _ _ h => h)
theorem BR.below (h : BR w (Lo B) A n c l) (hb : Below B w w') : BR w' (Lo B) A n c l := h.keep (fun _ hp _ => hb.cell hp) (fun _ h _ => h)
end
section
open Go.ChangeShapes Go.WideShapes Go.ChangeAt Go.Deep
variable {H : Type} {enc : TypeId × Value → H} {W : World}
theorem Try.cells28 : Try.prog.cellsOf 28 = 1 := by kernel_rfl
theorem Try.cells4 : Try.prog.cellsOf 4 = 1 := by kernel_rfl
theorem Try.bytes5 : Try.prog.bytesOf 5 = 1 := by kernel_rfl
theorem bytes_of_ints {w : World} {A : Option Addr} {n c : Nat} {zs : List Int} (hl : n ≤ c) (hz : zs.length = c) (hw : ∀ z ∈ zs, (Lit.int .u8 z).wf = true) (hn : A = none → c = 0) (hc : ∀ a, A = some a → ∀ i, i < c → w.cell? (a.add i) = some (.int .u8 (zs.getD i 0))) :
    Bs w AnyB A n c ((zs.take n).map fun z => UInt8.ofNat z.toNat) := by
  have bnd : ∀ z ∈ zs, 0 ≤ z ∧ z ≤ 255 := fun z hz' => by
    have h5 := hw z hz'
    have e1 : IntKind.u8.min = 0 := rfl
    have e2 : IntKind.u8.max = 255 := rfl
    simpa [Lit.wf, e1, e2] using h5
  refine ⟨by simp; omega, hl, by simp [u8s]; omega, fun hpos => ?_⟩
  cases A with
  | none => have := hn rfl; omega
  | some a =>
    refine ⟨a, rfl, trivial, fun j u hu => ?_⟩
    have hj : j < n := by
      rcases Nat.lt_or_ge j n with h | h
      · exact h
      · rw [List.getElem?_eq_none (by simp [u8s]; omega)] at hu; cases hu
    have hjz : j < zs.length := by omega
    rw [hc a rfl j (by omega)]
    simp only [u8s, List.map_map, List.getElem?_map, List.getElem?_take, if_pos hj, List.getElem?_eq_getElem hjz, Option.map_some, Option.some.injEq, Function.comp_apply] at hu
    rw [← hu, List.getD_eq_getElem?_getD, List.getElem?_eq_getElem hjz]
    obtain ⟨l0, l1⟩ := bnd zs[j] (List.getElem_mem hjz)
    simp only [u8v, UInt8.toNat_ofNat', Option.getD_some]
    congr 2
    omega
theorem weights_mem_all {P : Program} {e : TypeId} : ∀ {ds : List (DataW H)} {d : DataW H}, d ∈ ds → ∀ m ∈ d.weights P e, m ∈ DataW.weightsAll P e ds
  | d0 :: ds, d, hd, m, hm => by
    simp only [DataW.weightsAll, List.mem_append]
    rcases List.mem_cons.1 hd with rfl | hd
    · exact .inl hm
    · exact .inr (weights_mem_all hd m hm)
set_option maxRecDepth 100000 in
theorem open_rows {r : Reach} {b0 : Nat} {v : Value} {d : DataW H} {p : List MemPlace} (hval : Value.okWide Try.prog W r b0 22 v) (h : DataW.Trod enc Try.prog W 0 (fun _ => true) true 22 v d p) (hw : ∀ m ∈ d.weights Try.prog 22, m ≤ reachBytes) :
    ∃ A n c l, v = .slice A n c ∧ RR W AnyB A n c l := by
  obtain ⟨a0, len, cap, rfl⟩ := okWide_slice Try.underlying22 hval
  obtain ⟨fuel, hf⟩ := h
  rcases open_int_rows Try.underlying22 Try.underlying28 Try.underlying5 Try.cells28 Try.cells5 hf with ⟨hcs, hx⟩ | ⟨a, len', cap', A, L, C, Z, hcs, _, hl, hm, hx, hcell⟩
  · simp [Value.cells] at hcs
    obtain ⟨rfl, rfl, rfl⟩ := hcs
    exact ⟨none, 0, 0, [], rfl, rfl, Nat.le_refl _, fun k hk => by omega⟩
  · simp [Value.cells] at hcs
    obtain ⟨rfl, rfl, rfl⟩ := hcs
    simp only [Prod.mk.injEq] at hx
    obtain ⟨rfl, -⟩ := hx
    refine ⟨some a, len, cap, (List.range len).map fun r => ((Z r).take (L r)).map fun z => UInt8.ofNat z.toNat, rfl, by simp, hl, fun k hk => ?_⟩
    obtain ⟨h1, h2, h3, h4, h5, h6, h7⟩ := hcell k (by omega)
    have hlen : (((Z k).take (L k)).map fun z => UInt8.ofNat z.toNat).length = L k := by simp; omega
    refine ⟨a, A k, C k, ((Z k).take (L k)).map fun z => UInt8.ofNat z.toNat, rfl, trivial, Lib.hid (by rw [List.getElem?_map, List.getElem?_range hk]; rfl), by rw [hlen]; exact h1, by rw [hlen]; exact bytes_of_ints h2 h4 h5 h6 (fun a' e => (h7 a' e).2), ?_⟩
    rw [hlen]
    cases hA : A k with
    | none => have := h6 hA; omega
    | some ad =>
      have hmem : (C k) ∈ (DataW.slice ((List.range len).map fun r => intRow (H := H) .u8 (A r) (L r) (Z r)) ((List.range (cap - len)).map fun j => intRow .u8 (A (len + j)) (L (len + j)) (Z (len + j)))).weights Try.prog 22 := by
        simp only [DataW.weights, Try.underlying22, List.mem_cons, List.mem_append]
        refine .inr (.inl (weights_mem_all (d := intRow .u8 (A k) (L k) (Z k)) (List.mem_map.2 ⟨k, List.mem_range.2 hk, rfl⟩) _ ?_))
        rw [hA]
        simp only [intRow, DataW.weights, Try.underlying28, List.mem_cons, Try.bytes5, lits, List.length_map, List.length_take, List.length_drop]
        left
        omega
      have := hw _ hmem
      unfold reachBytes at this
      omega
set_option maxRecDepth 100000 in
theorem open_flags {r : Reach} {b0 : Nat} {v : Value} {d : DataW H} {p : List MemPlace} (hval : Value.okWide Try.prog W r b0 33 v) (h : DataW.Trod enc Try.prog W 0 (fun _ => true) true 33 v d p) :
    ∃ A n c l, v = .slice A n c ∧ BR W AnyB A n c l := by
  obtain ⟨a0, len, cap, rfl⟩ := okWide_slice Try.underlying33 hval
  obtain ⟨fuel, hf⟩ := h
  rcases open_bools Try.underlying33 Try.underlying4 Try.cells4 hf with ⟨hcs, hx⟩ | ⟨a, len', cap', B, hcs, _, hl, hm, hx, hcell⟩
  · simp [Value.cells] at hcs
    obtain ⟨rfl, rfl, rfl⟩ := hcs
    exact ⟨none, 0, 0, [], rfl, rfl, Nat.le_refl _, fun k hk => by omega⟩
  · simp [Value.cells] at hcs
    obtain ⟨rfl, rfl, rfl⟩ := hcs
    exact ⟨some a, len, cap, (List.range len).map B, rfl, by simp, hl, fun k hk => ⟨a, B k, rfl, trivial, Lib.hid (by simp [hk]), hcell k (by omega)⟩⟩
set_option maxRecDepth 100000 in
/-- A hash that came in by value. -/
theorem open_hash {r : Reach} {b0 : Nat} {v : Value} {d : DataW H} {p : List MemPlace} (hval : Value.okWide Try.prog W r b0 30 v) (h : DataW.Trod enc Try.prog W 0 (fun _ => true) true 30 v d p) :
    ∃ nm, v = .agg (NC nm) ∧ nm.length = 32 := by
  obtain ⟨cs, rfl⟩ : ∃ cs, v = .agg cs := by
    simp only [Value.okWide, Try.underlying30] at hval
    obtain ⟨cs, h1, -⟩ := hval
    exact ⟨cs, h1⟩
  obtain ⟨fuel, hf⟩ := h
  obtain ⟨ys, m', -, -, hl, hys, hg⟩ := DataW.trod_array Try.underlying30 hf
  simp only [Value.cells] at hl hg
  have hl : cs.toList.length = 32 := hl.trans (by kernel_rfl)
  have each : ∀ i, i < 32 → ∃ b : UInt8, cs.toList[i]? = some (.int .u8 (b.toNat : Int)) := fun i hi => by
    have g := hg i hi
    rw [Try.cells5, Nat.mul_one, List.getElem?_eq_getElem (by omega)] at g
    obtain ⟨z, q, -, wf⟩ := DataW.trod_int Try.underlying5 g
    have hz : 0 ≤ z ∧ z ≤ 255 := by
      have e1 : IntKind.u8.min = 0 := rfl
      have e2 : IntKind.u8.max = 255 := rfl
      simpa [Lit.wf, e1, e2] using wf
    have hq := congrArg (fun l => l[0]?) q
    simp only [List.getElem?_take, List.getElem?_drop] at hq
    rw [if_pos (by omega), Nat.add_zero] at hq
    refine ⟨UInt8.ofNat z.toNat, hq.trans ?_⟩
    simp only [List.getElem?_cons_zero, Option.some.injEq, UInt8.toNat_ofNat']
    congr 1
    omega
  obtain ⟨Y, hY⟩ := choose_lt each
  refine ⟨(List.range 32).map Y, ?_, by simp⟩
  congr 1
  apply Array.toList_inj.1
  refine List.ext_getElem? fun i => ?_
  rcases Nat.lt_or_ge i 32 with hi | hi
  · rw [hY i hi]
    simp [NC, u8s, u8v, hi]
  · rw [List.getElem?_eq_none (by omega), List.getElem?_eq_none (by simp [NC, u8s]; omega)]
end
end Go.Proofs.Ytepcbnkhfiphdaa
