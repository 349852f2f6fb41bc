/- A slice of nodes that came in. Conditions: each theorem's premises. -/
import Derived.Test.YtaebmhbggbpnoaaWrap
import Derived.Test.YtaebmhbggbpnoaaGTlv17
import Derived.Deep.Slices
import Derived.Deep.Fields
namespace Go.Proofs.Ytaebmhbggbpnoaa
open Go.RowKit Go.ChangeShapes Go.WideShapes Go.ChangeAt Go.Deep
section
variable {H : Type} {enc : TypeId × Value → H} {P : Program} {w : World} {base : Nat} {spare : Nat → Bool} {held : Bool}
theorem open_slice_fields {t e : TypeId} {fs : Array Field} {fuel : Nat} {cs : List Value} {x : DataW H × List MemPlace} (ht : P.underlying t = some (.slice e)) (he : P.underlying e = some (.struct fs))
    (hone : oneCellFields P fs = true) (hC : P.cellsOf e = fs.size) (h : DataW.trod enc P w base spare held fuel t cs = some x) :
    (cs = [.slice none 0 0] ∧ x = (.nil, [])) ∨
    ∃ (a : Addr) (len cap m : Nat) (D : Nat → DataW H) (Pl : Nat → List MemPlace), cs = [.slice (some a) len cap] ∧ base ≤ a.block ∧ len ≤ cap ∧ cap ≤ maxLen ∧ m = (if spare a.block then cap else len) ∧
      x = (.slice ((List.range len).map D) ((List.range (m - len)).map fun j => D (len + j)), MemPlace.row a (m * fs.size) ++ (List.range m).flatMap Pl) ∧
      ∀ i, i < m → ∃ (ys : List (DataW H × List MemPlace)) (n : Nat), D i = .agg (ys.map (·.1)) ∧ Pl i = ys.flatMap (·.2) ∧ ys.length = fs.size ∧
        ∀ (j : Nat) (f : Field), fs[j]? = some f → ∃ (v : Value) (y : DataW H × List MemPlace), w.cell? (a.add (i * fs.size + j)) = some v ∧ ys[j]? = some y ∧ DataW.trod enc P w base spare held n f.type [v] = some y := by
  rcases open_slice ht h with h0 | ⟨a, len, cap, m, n, D, Pl, hcs, hb, hl, hm, hmm, hx, hi⟩
  · exact .inl h0
  · refine .inr ⟨a, len, cap, m, D, Pl, hcs, hb, hl, hm, hmm, by rw [hC] at hx; exact hx, fun i him => ?_⟩
    obtain ⟨cs', hc, ht'⟩ := hi i him
    rw [hC] at hc
    obtain ⟨ys, n', hn', hy, hlen, hyl, hf⟩ := DataW.trod_struct he ht'
    obtain ⟨_, hcl, hat⟩ := World.cells?_some hc
    simp only [Prod.mk.injEq] at hy
    refine ⟨ys, n', hy.1, hy.2, hyl, fun j f hj => ?_⟩
    obtain ⟨ho, hk⟩ := hone_of hone j f hj
    have hjl : j < fs.size := (Array.getElem?_eq_some_iff.1 hj).1
    have hcell := hat j hjl
    have hv : cs'[j]? = some (cs'[j]'(by omega)) := List.getElem?_eq_getElem (by omega)
    have h1 := hf j f hj
    rw [ho, hk] at h1
    have hone' : (cs'.drop j).take 1 = [cs'[j]'(by omega)] := by
      rw [List.drop_eq_getElem_cons (by omega)]
      rfl
    rw [hone'] at h1
    have hys : ys[j]? = some (ys[j]'(by omega)) := List.getElem?_eq_getElem (by omega)
    refine ⟨_, _, ?_, hys, h1.trans hys⟩
    rw [← Go.Deep.add_add, hcell, hv]
end
section
variable {H : Type} {enc : TypeId × Value → H} {W : World}
/-- Bytes in a field. -/
theorem open_bytes_in {fuel : Nat} {v : Value} {x : DataW H × List MemPlace} (hf : DataW.trod enc Try.prog W 0 (fun _ => true) true fuel 22 [v] = some x) :
    ∃ A n c bs, v = .slice A n c ∧ Bs W AnyB A n c bs ∧ n ≤ maxLen := by
  rcases open_ints Try.underlying22 Try.underlying5 Try.cells5 hf with ⟨hcs, hx⟩ | ⟨a, len', cap', zs, hcs, _, hl, hm, hz, hx, hcell, hwz⟩
  · simp at hcs
    exact ⟨none, 0, 0, [], hcs, Bs.nil _ _ _, by omega⟩
  · simp at hcs
    simp only [if_true] at hz
    have bnd : ∀ z ∈ zs, 0 ≤ z ∧ z ≤ 255 := fun z hz' => by
      have h5 := hwz z hz'
      have e1 : IntKind.u8.min = 0 := rfl
      have e2 : IntKind.u8.max = 255 := rfl
      simpa [Lit.wf, e1, e2] using h5
    refine ⟨some a, len', cap', (zs.take len').map (fun z => UInt8.ofNat z.toNat), hcs, ⟨by simp; omega, hl, by simp [u8s]; omega, fun hn => ⟨a, rfl, trivial, fun j u hu => ?_⟩⟩, by omega⟩
    have hj : j < len' := by
      rcases Nat.lt_or_ge j len' with h | h
      · exact h
      · rw [List.getElem?_eq_none (by simp [u8s]; omega)] at hu; cases hu
    have hjz : j < zs.length := by omega
    rw [hcell j hjz]
    simp only [u8s, List.map_map, List.getElem?_map, List.getElem?_take, if_pos hj, List.getElem?_eq_getElem hjz, Option.map_some, Option.some.injEq, Function.comp_apply] at hu
    rw [← hu, List.getD_eq_getElem?_getD, List.getElem?_eq_getElem hjz]
    obtain ⟨l0, l1⟩ := bnd zs[j] (List.getElem_mem hjz)
    simp only [u8v, UInt8.toNat_ofNat', Option.getD_some]
    congr 2
    omega
theorem Try.one174 : ∃ fs : Array Field, Try.prog.underlying 175 = some (.struct fs) ∧ oneCellFields Try.prog fs = true ∧ Try.prog.cellsOf 175 = fs.size ∧ fs.size = 4 ∧ (∃ f, fs[0]? = some f ∧ f.type = 3) ∧ (∃ f, fs[1]? = some f ∧ f.type = 3) ∧ (∃ f, fs[2]? = some f ∧ f.type = 24) ∧ (∃ f, fs[3]? = some f ∧ f.type = 22) :=
  ⟨_, Try.underlying175, by kernel_rfl, by kernel_rfl, rfl, ⟨_, rfl, rfl⟩, ⟨_, rfl, rfl⟩, ⟨_, rfl, rfl⟩, ⟨_, rfl, rfl⟩⟩
theorem i64_wf {z : Int} (h : (Lit.int .i64 z).wf = true) : -9223372036854775808 ≤ z ∧ z ≤ 9223372036854775807 := by
  have e1 : IntKind.i64.min = -9223372036854775808 := rfl
  have e2 : IntKind.i64.max = 9223372036854775807 := rfl
  simpa [Lit.wf, e1, e2] using h
theorem u64_wf {z : Int} (h : (Lit.int .u64 z).wf = true) : 0 ≤ z ∧ z ≤ 18446744073709551615 := by
  have e1 : IntKind.u64.min = 0 := rfl
  have e2 : IntKind.u64.max = 18446744073709551615 := rfl
  simpa [Lit.wf, e1, e2] using h
set_option maxRecDepth 100000 in
theorem open_nodes {r : Reach} {b0 : Nat} {v : Value} {d : DataW H} {p : List MemPlace} (hval : Value.okWide Try.prog W r b0 65 v) (h : DataW.Trod enc Try.prog W 0 (fun _ => true) true 65 v d p) :
    ∃ A n c l, v = .slice A n c ∧ NR W AnyB A n c l := by
  obtain ⟨a0, len, cap, rfl⟩ := okWide_slice Try.underlying65 hval
  obtain ⟨fuel, hf⟩ := h
  obtain ⟨fs, hu, hone, hC, h4, ⟨f0, e0, y0⟩, ⟨f1, e1, y1⟩, ⟨f2, e2, y2⟩, ⟨f3, e3, y3⟩⟩ := Try.one174
  rcases open_slice_fields Try.underlying65 hu hone hC hf with ⟨hcs, hx⟩ | ⟨a, len', cap', m, D, Pl, hcs, _, hl, hm, hmm, hx, hi⟩
  · simp [Value.cells] at hcs
    obtain ⟨rfl, rfl, rfl⟩ := hcs
    exact ⟨none, 0, 0, [], rfl, rfl, Nat.le_refl _, by omega, [], rfl, Reads.none_, fun i q x h _ => by simp at h⟩
  · simp [Value.cells] at hcs
    obtain ⟨rfl, rfl, rfl⟩ := hcs
    simp only [if_true] at hmm
    subst hmm
    have each : ∀ i, i < len → ∃ y : Quad × ND, NDR W AnyB y.1 y.2 ∧ ∀ j u, y.1.cells[j]? = some u → W.cell? (a.add (i * 4 + j)) = some u := fun i him => by
      obtain ⟨ys, n, -, -, -, hg⟩ := hi i (by omega)
      obtain ⟨v0, x0, c0, -, t0⟩ := hg 0 f0 e0
      obtain ⟨v1, x1, c1, -, t1⟩ := hg 1 f1 e1
      obtain ⟨v2, x2, c2, -, t2⟩ := hg 2 f2 e2
      obtain ⟨v3, x3, c3, -, t3⟩ := hg 3 f3 e3
      rw [y0] at t0
      rw [y1] at t1
      rw [y2] at t2
      rw [y3] at t3
      rw [h4] at c0 c1 c2 c3
      obtain ⟨z0, q0, -, w0⟩ := DataW.trod_int Try.underlying3 t0
      obtain ⟨z1, q1, -, w1⟩ := DataW.trod_int Try.underlying3 t1
      obtain ⟨z2, q2, -, w2⟩ := DataW.trod_int Try.underlying24 t2
      obtain ⟨A, nb, cb, bs, q3, hb, hnb⟩ := open_bytes_in t3
      simp only [List.cons.injEq, and_true] at q0 q1 q2
      subst q0
      subst q1
      subst q2
      subst q3
      have b2 := u64_wf w2
      refine ⟨(⟨.int .i64 z0, .int .i64 z1, .int .u64 z2, .slice A nb cb⟩, ⟨z0, z1, z2.toNat, bs⟩), ⟨A, nb, cb, by simp only; congr 1; congr 1; omega, by unfold u64ok; simp only; omega, i64_wf w1, hb, by unfold maxLen at hnb; omega⟩, fun j u hu => ?_⟩
      match j, hu with
      | 0, hu => simp [Quad.cells] at hu; rw [← hu]; exact c0
      | 1, hu => simp [Quad.cells] at hu; rw [← hu]; exact c1
      | 2, hu => simp [Quad.cells] at hu; rw [← hu]; exact c2
      | 3, hu => simp [Quad.cells] at hu; rw [← hu]; exact c3
      | j + 4, hu => simp [Quad.cells] at hu
    have : Inhabited (Quad × ND) := ⟨(⟨undef, undef, undef, undef⟩, ⟨0, 0, 0, []⟩)⟩
    obtain ⟨Y, hY⟩ := choose_lt each
    refine ⟨some a, len, _, (List.range len).map fun i => (Y i).2, rfl, by simp, hl, by unfold maxLen at hm; omega, (List.range len).map fun i => (Y i).1, by simp, ⟨by rw [flat_length]; simp, fun _ => ⟨a, rfl, trivial, fun j u hu => ?_⟩⟩, fun i q x h1 h2 => ?_⟩
    · have hjl : j < len * 4 := by
        rcases Nat.lt_or_ge j (len * 4) with h | h
        · exact h
        · rw [List.getElem?_eq_none (by rw [flat_length]; simp; omega)] at hu; cases hu
      have hq := flat_at ((List.range len).map fun i => (Y i).1) (j / 4) (Y (j / 4)).1 (by simp [List.getElem?_range (show j / 4 < len by omega)])
      have hc := (hY (j / 4) (by omega)).2 (j % 4) u (by
        have hr : j % 4 = 0 ∨ j % 4 = 1 ∨ j % 4 = 2 ∨ j % 4 = 3 := by omega
        rcases hr with hr | hr | hr | hr
        · rw [show j = j / 4 * 4 from by omega, hq.1] at hu; rw [hr]; simpa [Quad.cells] using hu
        · rw [show j = j / 4 * 4 + 1 from by omega, hq.2.1] at hu; rw [hr]; simpa [Quad.cells] using hu
        · rw [show j = j / 4 * 4 + 2 from by omega, hq.2.2.1] at hu; rw [hr]; simpa [Quad.cells] using hu
        · rw [show j = j / 4 * 4 + 3 from by omega, hq.2.2.2] at hu; rw [hr]; simpa [Quad.cells] using hu)
      rw [show j / 4 * 4 + j % 4 = j from by omega] at hc
      exact hc
    · rw [List.getElem?_map, Option.map_eq_some_iff] at h1 h2
      obtain ⟨i1, g1, rfl⟩ := h1
      obtain ⟨i2, g2, rfl⟩ := h2
      rw [g1] at g2
      injection g2 with g2
      subst g2
      have hlt : i1 < len := List.mem_range.1 (List.mem_of_getElem? g1)
      exact (hY i1 hlt).1
end
end Go.Proofs.Ytaebmhbggbpnoaa
