/- Slices of slices of bytes, and slices of ints, that came in. Conditions: each theorem's premises. -/
import Derived.Test.YtaebmhbggbpnoaaWrap
import Derived.Deep.Matrix
namespace Go.Proofs.Ytaebmhbggbpnoaa
open Go.RowKit
/-- A slice of slices of bytes: each row lies in S, and so do its bytes. -/
structure RR (w : World) (S : Nat → Prop) (A : Option Addr) (n c : Nat) (l : List (List UInt8)) : Prop where
  len : l.length = n
  cap : n ≤ c
  at_ : ∀ k, k < n → ∃ ad A' n' c' x, A = some ad ∧ S ad.block ∧ Hid (l[k]? = some x) ∧ w.cell? (ad.add k) = some (.slice A' n' c') ∧ Bs w S A' n' c' x
/-- A slice of ints. -/
structure IR (w : World) (S : Nat → Prop) (A : Option Addr) (n c : Nat) (l : List Int) : Prop where
  len : l.length = n
  cap : n ≤ c
  at_ : ∀ k, k < n → ∃ ad x, A = some ad ∧ S ad.block ∧ Hid (l[k]? = some x) ∧ w.cell? (ad.add k) = some (.int .i64 x) ∧ -9223372036854775808 ≤ x ∧ x ≤ 9223372036854775807
section
variable {w w' : World} {S S' : Nat → Prop} {B n c : Nat} {A : Option Addr} {l : List (List UInt8)} {z : List Int}
theorem RR.keep (h : RR w S A n c l) (hk : ∀ p : Addr, S p.block → p.block < w.heap.size → w'.cell? p = w.cell? p) (hS : ∀ k, S k → k < w.heap.size → S' k) : RR w' S' A n c l :=
  ⟨h.len, h.cap, fun k hlt => by
    obtain ⟨ad, A', n', c', x, e, hs, hl, hc, hb⟩ := h.at_ k hlt
    have hz := World.block_lt_of_cell? w _ hc
    rw [block_of_add] at hz
    exact ⟨ad, A', n', c', x, e, hS _ hs hz, hl, (hk _ (by rw [block_of_add]; exact hs) (by rw [block_of_add]; exact hz)).trans hc, hb.keep hk hS⟩⟩
theorem RR.old (h : RR w S A n c l) : RR w (Lo w.heap.size) A n c l := h.keep (fun _ _ _ => rfl) (fun _ _ h => h)
theorem RR.below (h : RR w (Lo B) A n c l) (hb : Below B w w') : RR w' (Lo B) A n c l := h.keep (fun _ hp _ => hb.cell hp) (fun _ h _ => h)
theorem IR.keep (h : IR w S A n c z) (hk : ∀ p : Addr, S p.block → p.block < w.heap.size → w'.cell? p = w.cell? p) (hS : ∀ k, S k → k < w.heap.size → S' k) : IR w' S' A n c z :=
  ⟨h.len, h.cap, fun k hlt => by
    obtain ⟨ad, x, e, hs, hl, hc, hb⟩ := h.at_ k hlt
    have hz := World.block_lt_of_cell? w _ hc
    rw [block_of_add] at hz
    exact ⟨ad, x, e, hS _ hs hz, hl, (hk _ (by rw [block_of_add]; exact hs) (by rw [block_of_add]; exact hz)).trans hc, hb⟩⟩
theorem IR.old (h : IR w S A n c z) : IR w (Lo w.heap.size) A n c z := h.keep (fun _ _ _ => rfl) (fun _ _ h => h)
theorem IR.below (h : IR w (Lo B) A n c z) (hb : Below B w w') : IR w' (Lo B) A n c z := h.keep (fun _ hp _ => hb.cell hp) (fun _ h _ => h)
end
section
open Go.ChangeShapes Go.WideShapes Go.ChangeAt Go.Deep
variable {H : Type} {enc : TypeId × Value → H} {W : World}
theorem Try.cells22 : Try.prog.cellsOf 22 = 1 := by kernel_rfl
theorem Try.cells3 : Try.prog.cellsOf 3 = 1 := by kernel_rfl
theorem bytes_of_ints {w : World} {A : Option Addr} {n c : Nat} {zs : List Int} (hl : n ≤ c) (hz : zs.length = c) (hw : ∀ z ∈ zs, (Lit.int .u8 z).wf = true) (hn : A = none → c = 0) (hc : ∀ a, A = some a → ∀ i, i < c → w.cell? (a.add i) = some (.int .u8 (zs.getD i 0))) :
    Bs w AnyB A n c ((zs.take n).map fun z => UInt8.ofNat z.toNat) := by
  have bnd : ∀ z ∈ zs, 0 ≤ z ∧ z ≤ 255 := fun z hz' => by
    have h5 := hw z hz'
    have e1 : IntKind.u8.min = 0 := rfl
    have e2 : IntKind.u8.max = 255 := rfl
    simpa [Lit.wf, e1, e2] using h5
  refine ⟨by simp; omega, hl, by simp [u8s]; omega, fun hpos => ?_⟩
  cases A with
  | none => have := hn rfl; omega
  | some a =>
    refine ⟨a, rfl, trivial, fun j u hu => ?_⟩
    have hj : j < n := by
      rcases Nat.lt_or_ge j n with h | h
      · exact h
      · rw [List.getElem?_eq_none (by simp [u8s]; omega)] at hu; cases hu
    have hjz : j < zs.length := by omega
    rw [hc a rfl j (by omega)]
    simp only [u8s, List.map_map, List.getElem?_map, List.getElem?_take, if_pos hj, List.getElem?_eq_getElem hjz, Option.map_some, Option.some.injEq, Function.comp_apply] at hu
    rw [← hu, List.getD_eq_getElem?_getD, List.getElem?_eq_getElem hjz]
    obtain ⟨l0, l1⟩ := bnd zs[j] (List.getElem_mem hjz)
    simp only [u8v, UInt8.toNat_ofNat', Option.getD_some]
    congr 2
    omega
set_option maxRecDepth 100000 in
theorem open_rows {r : Reach} {b0 : Nat} {v : Value} {d : DataW H} {p : List MemPlace} (hval : Value.okWide Try.prog W r b0 57 v) (h : DataW.Trod enc Try.prog W 0 (fun _ => true) true 57 v d p) :
    ∃ A n c l, v = .slice A n c ∧ RR W AnyB A n c l := by
  obtain ⟨a0, len, cap, rfl⟩ := okWide_slice Try.underlying57 hval
  obtain ⟨fuel, hf⟩ := h
  rcases open_int_rows Try.underlying57 Try.underlying22 Try.underlying5 Try.cells22 Try.cells5 hf with ⟨hcs, hx⟩ | ⟨a, len', cap', A, L, C, Z, hcs, _, hl, hm, hx, hcell⟩
  · simp [Value.cells] at hcs
    obtain ⟨rfl, rfl, rfl⟩ := hcs
    exact ⟨none, 0, 0, [], rfl, rfl, Nat.le_refl _, fun k hk => by omega⟩
  · simp [Value.cells] at hcs
    obtain ⟨rfl, rfl, rfl⟩ := hcs
    refine ⟨some a, len, cap, (List.range len).map fun r => ((Z r).take (L r)).map fun z => UInt8.ofNat z.toNat, rfl, by simp, hl, fun k hk => ?_⟩
    obtain ⟨h1, h2, h3, h4, h5, h6, h7⟩ := hcell k (by omega)
    exact ⟨a, A k, L k, C k, _, rfl, trivial, Lib.hid (by simp [hk]), h1, bytes_of_ints h2 h4 h5 h6 (fun a' e => (h7 a' e).2)⟩
set_option maxRecDepth 100000 in
theorem open_ints' {r : Reach} {b0 : Nat} {v : Value} {d : DataW H} {p : List MemPlace} (hval : Value.okWide Try.prog W r b0 76 v) (h : DataW.Trod enc Try.prog W 0 (fun _ => true) true 76 v d p) :
    ∃ A n c l, v = .slice A n c ∧ IR W AnyB A n c l := by
  obtain ⟨a0, len, cap, rfl⟩ := okWide_slice Try.underlying76 hval
  obtain ⟨fuel, hf⟩ := h
  rcases open_ints Try.underlying76 Try.underlying3 Try.cells3 hf with ⟨hcs, hx⟩ | ⟨a, len', cap', zs, hcs, _, hl, hm, hz, hx, hcell, hwz⟩
  · simp [Value.cells] at hcs
    obtain ⟨rfl, rfl, rfl⟩ := hcs
    exact ⟨none, 0, 0, [], rfl, rfl, Nat.le_refl _, fun k hk => by omega⟩
  · simp [Value.cells] at hcs
    obtain ⟨rfl, rfl, rfl⟩ := hcs
    simp only [if_true] at hz
    have bnd : ∀ z ∈ zs, -9223372036854775808 ≤ z ∧ z ≤ 9223372036854775807 := fun z hz' => by
      have h5 := hwz z hz'
      have e1 : IntKind.i64.min = -9223372036854775808 := rfl
      have e2 : IntKind.i64.max = 9223372036854775807 := rfl
      simpa [Lit.wf, e1, e2] using h5
    refine ⟨some a, len, cap, zs.take len, rfl, by simp; omega, hl, fun k hk => ⟨a, zs[k]'(by omega), rfl, trivial, Lib.hid ?_, ?_, bnd _ (List.getElem_mem _)⟩⟩
    · rw [List.getElem?_take, if_pos hk, List.getElem?_eq_getElem]
    · rw [hcell k (by omega), List.getD_eq_getElem?_getD, List.getElem?_eq_getElem (by omega : k < zs.length)]; rfl
end
end Go.Proofs.Ytaebmhbggbpnoaa
