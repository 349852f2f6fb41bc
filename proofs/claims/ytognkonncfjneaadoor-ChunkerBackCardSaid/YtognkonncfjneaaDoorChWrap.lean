/- What a rule, a list of lists of bytes and a list of numbers that come in open to. Conditions: each theorem's premises. -/
import Derived.Test.YtognkonncfjneaaDoorChMem
import Derived.Lib.SmallJoins
namespace Go.Proofs.YtognkonncfjneaaDoor
open Go.ChangeShapes Go.WideShapes Go.ChangeAt Go.RowKit Go.Deep
/-- A slice of ints. -/
structure IR (w : World) (S : Nat → Prop) (A : Option Addr) (n c : Nat) (l : List Int) : Prop where
  len : l.length = n
  cap : n ≤ c
  at_ : ∀ k, k < n → ∃ ad x, A = some ad ∧ S ad.block ∧ Hid (l[k]? = some x) ∧ w.cell? (ad.add k) = some (.int .i64 x) ∧ -9223372036854775808 ≤ x ∧ x ≤ 9223372036854775807
section
variable {w w' : World} {S S' : Nat → Prop} {B n c : Nat} {A : Option Addr} {z : List Int}
theorem IR.keep (h : IR w S A n c z) (hk : ∀ p : Addr, S p.block → p.block < w.heap.size → w'.cell? p = w.cell? p) (hS : ∀ k, S k → k < w.heap.size → S' k) : IR w' S' A n c z :=
  ⟨h.len, h.cap, fun k hlt => by
    obtain ⟨ad, x, e, hs, hl, hc, hb⟩ := h.at_ k hlt
    have hz := World.block_lt_of_cell? w _ hc
    rw [block_of_add] at hz
    exact ⟨ad, x, e, hS _ hs hz, hl, (hk _ (by rw [block_of_add]; exact hs) (by rw [block_of_add]; exact hz)).trans hc, hb⟩⟩
theorem IR.old (h : IR w S A n c z) : IR w (Lo w.heap.size) A n c z := h.keep (fun _ _ _ => rfl) (fun _ _ h => h)
theorem IR.below (h : IR w (Lo B) A n c z) (hb : Below B w w') : IR w' (Lo B) A n c z := h.keep (fun _ hp _ => hb.cell hp) (fun _ h _ => h)
end
section
variable {H : Type} {enc : TypeId × Value → H} {W : World}
theorem Tryd.cells41 : Tryd.prog.cellsOf 41 = 4 := by kernel_rfl
theorem Tryd.cells23 : Tryd.prog.cellsOf 23 = 1 := by kernel_rfl
theorem Tryd.cells3 : Tryd.prog.cellsOf 3 = 1 := by kernel_rfl
set_option maxRecDepth 100000 in
theorem open_rule {r : Reach} {b0 : Nat} {v : Value} {d : DataW H} {p : List MemPlace} (hval : Value.okWide Tryd.prog W r b0 41 v) (h : DataW.Trod enc Tryd.prog W 0 (fun _ => true) true 41 v d p) :
    ∃ (seed : Nat) (mn av mx : Int), v = .agg #[.int .u64 (seed : Int), .int .i64 mn, .int .i64 av, .int .i64 mx] ∧ seed < Gear.M := by
  obtain ⟨v0, v1, v2, v3, y0, y1, y2, y3, n, rfl, -, -, h0, h1, h2, h3⟩ := Joins.open_agg4 Tryd.underlying41 (by kernel_rfl) Tryd.cells41 hval h
  obtain ⟨m0, e0, -, wm0⟩ := DataW.trod_int Tryd.underlying22 h0
  obtain ⟨m1, e1, -, wm1⟩ := DataW.trod_int Tryd.underlying3 h1
  obtain ⟨m2, e2, -, wm2⟩ := DataW.trod_int Tryd.underlying3 h2
  obtain ⟨m3, e3, -, wm3⟩ := DataW.trod_int Tryd.underlying3 h3
  have hm : 0 ≤ m0 ∧ m0 ≤ 18446744073709551615 := by
    have e1 : IntKind.u64.min = 0 := rfl
    have e2 : IntKind.u64.max = 18446744073709551615 := rfl
    simpa [Lit.wf, e1, e2] using wm0
  injection e0 with e0
  injection e1 with e1
  injection e2 with e2
  injection e3 with e3
  subst e0 e1 e2 e3
  exact ⟨m0.toNat, m1, m2, m3, by rw [Int.toNat_of_nonneg hm.1], by unfold Gear.M; omega⟩
theorem bytes_of_ints {w : World} {A : Option Addr} {n c : Nat} {zs : List Int} (hl : n ≤ c) (hz : zs.length = c) (hw : ∀ z ∈ zs, (Lit.int .u8 z).wf = true) (hn : A = none → c = 0) (hc : ∀ a, A = some a → ∀ i, i < c → w.cell? (a.add i) = some (.int .u8 (zs.getD i 0))) :
    Bs w AnyB A n c ((zs.take n).map fun z => UInt8.ofNat z.toNat) := by
  have bnd : ∀ z ∈ zs, 0 ≤ z ∧ z ≤ 255 := fun z hz' => by
    have h5 := hw z hz'
    have e1 : IntKind.u8.min = 0 := rfl
    have e2 : IntKind.u8.max = 255 := rfl
    simpa [Lit.wf, e1, e2] using h5
  refine ⟨by simp; omega, hl, by simp [u8s]; omega, fun hpos => ?_⟩
  cases A with
  | none => have := hn rfl; omega
  | some a =>
    refine ⟨a, rfl, trivial, fun j u hu => ?_⟩
    have hj : j < n := by
      rcases Nat.lt_or_ge j n with h | h
      · exact h
      · rw [List.getElem?_eq_none (by simp [u8s]; omega)] at hu; cases hu
    have hjz : j < zs.length := by omega
    rw [hc a rfl j (by omega)]
    simp only [u8s, List.map_map, List.getElem?_map, List.getElem?_take, if_pos hj, List.getElem?_eq_getElem hjz, Option.map_some, Option.some.injEq, Function.comp_apply] at hu
    rw [← hu, List.getD_eq_getElem?_getD, List.getElem?_eq_getElem hjz]
    obtain ⟨l0, l1⟩ := bnd zs[j] (List.getElem_mem hjz)
    simp only [u8v, UInt8.toNat_ofNat', Option.getD_some]
    congr 2
    omega
set_option maxRecDepth 100000 in
theorem open_rows {r : Reach} {b0 : Nat} {v : Value} {d : DataW H} {p : List MemPlace} (hval : Value.okWide Tryd.prog W r b0 42 v) (h : DataW.Trod enc Tryd.prog W 0 (fun _ => true) true 42 v d p) :
    ∃ A n c l, v = .slice A n c ∧ RR W AnyB A n c l := by
  obtain ⟨a0, len, cap, rfl⟩ := okWide_slice Tryd.underlying42 hval
  obtain ⟨fuel, hf⟩ := h
  rcases open_int_rows Tryd.underlying42 Tryd.underlying23 Tryd.underlying5 Tryd.cells23 Tryd.cells5 hf with ⟨hcs, hx⟩ | ⟨a, len', cap', A, L, C, Z, hcs, _, hl, hm, hx, hcell⟩
  · simp [Value.cells] at hcs
    obtain ⟨rfl, rfl, rfl⟩ := hcs
    exact ⟨none, 0, 0, [], rfl, rfl, Nat.le_refl _, fun k hk => by omega⟩
  · simp [Value.cells] at hcs
    obtain ⟨rfl, rfl, rfl⟩ := hcs
    refine ⟨some a, len, cap, (List.range len).map fun r => ((Z r).take (L r)).map fun z => UInt8.ofNat z.toNat, rfl, by simp, hl, fun k hk => ?_⟩
    obtain ⟨h1, h2, h3, h4, h5, h6, h7⟩ := hcell k (by omega)
    exact ⟨a, A k, L k, C k, _, rfl, trivial, Lib.hid (by simp [hk]), h1, bytes_of_ints h2 h4 h5 h6 (fun a' e => (h7 a' e).2)⟩
set_option maxRecDepth 100000 in
theorem open_ints' {r : Reach} {b0 : Nat} {v : Value} {d : DataW H} {p : List MemPlace} (hval : Value.okWide Tryd.prog W r b0 49 v) (h : DataW.Trod enc Tryd.prog W 0 (fun _ => true) true 49 v d p) :
    ∃ A n c l, v = .slice A n c ∧ IR W AnyB A n c l := by
  obtain ⟨a0, len, cap, rfl⟩ := okWide_slice Tryd.underlying49 hval
  obtain ⟨fuel, hf⟩ := h
  rcases open_ints Tryd.underlying49 Tryd.underlying3 Tryd.cells3 hf with ⟨hcs, hx⟩ | ⟨a, len', cap', zs, hcs, _, hl, hm, hz, hx, hcell, hwz⟩
  · simp [Value.cells] at hcs
    obtain ⟨rfl, rfl, rfl⟩ := hcs
    exact ⟨none, 0, 0, [], rfl, rfl, Nat.le_refl _, fun k hk => by omega⟩
  · simp [Value.cells] at hcs
    obtain ⟨rfl, rfl, rfl⟩ := hcs
    simp only [if_true] at hz
    have bnd : ∀ z ∈ zs, -9223372036854775808 ≤ z ∧ z ≤ 9223372036854775807 := fun z hz' => by
      have h5 := hwz z hz'
      have e1 : IntKind.i64.min = -9223372036854775808 := rfl
      have e2 : IntKind.i64.max = 9223372036854775807 := rfl
      simpa [Lit.wf, e1, e2] using h5
    refine ⟨some a, len, cap, zs.take len, rfl, by simp; omega, hl, fun k hk => ⟨a, zs[k]'(by omega), rfl, trivial, Lib.hid ?_, ?_, bnd _ (List.getElem_mem _)⟩⟩
    · rw [List.getElem?_take, if_pos hk, List.getElem?_eq_getElem]
    · rw [hcell k (by omega), List.getD_eq_getElem?_getD, List.getElem?_eq_getElem (by omega : k < zs.length)]; rfl
end
end Go.Proofs.YtognkonncfjneaaDoor
