/- A record, and a slice of records, that came in. Conditions: each theorem's premises. -/
import Derived.Test.YtaebmhbggbpnoaaGNodes
import Derived.Test.YtaebmhbggbpnoaaGFrT1
import Derived.OpenShut
namespace Go.Proofs.Ytaebmhbggbpnoaa
open Go.RowKit Go.ChangeShapes Go.WideShapes Go.ChangeAt Go.Deep
section
variable {H : Type} {enc : TypeId × Value → H} {W : World}
theorem Try.rec112 : ∃ fs : Array Field, Try.prog.underlying 112 = some (.struct fs) ∧ fs.size = 3 ∧ (∃ f, fs[0]? = some f ∧ f.type = 3 ∧ f.offset = 0) ∧ (∃ f, fs[1]? = some f ∧ f.type = 107 ∧ f.offset = 1) ∧ (∃ f, fs[2]? = some f ∧ f.type = 22 ∧ f.offset = 33) :=
  ⟨_, Try.underlying112, rfl, ⟨_, rfl, rfl, rfl⟩, ⟨_, rfl, rfl, rfl⟩, ⟨_, rfl, rfl, rfl⟩⟩
theorem Try.cells112 : Try.prog.cellsOf 112 = 34 := by kernel_rfl
theorem Try.cells107 : Try.prog.cellsOf 107 = 32 := by kernel_rfl
theorem Try.cells3' : Try.prog.cellsOf 3 = 1 := by kernel_rfl
theorem Try.cells22' : Try.prog.cellsOf 22 = 1 := by kernel_rfl
set_option maxRecDepth 100000 in
/-- What a record opens to. -/
theorem rec_cells {fuel : Nat} {cs : List Value} {x : DataW H × List MemPlace} (h : DataW.trod enc Try.prog W 0 (fun _ => true) true fuel 112 cs = some x) :
    ∃ k nm A n c bs, cs = (RC k nm (.slice A n c)).toList ∧ nm.length = 32 ∧ Bs W AnyB A n c bs := by
  obtain ⟨fs, hu, hfs, ⟨f0, e0, y0, o0⟩, ⟨f1, e1, y1, o1⟩, ⟨f2, e2, y2, o2⟩⟩ := Try.rec112
  obtain ⟨xs, m, -, -, hl, hxs, hf⟩ := DataW.trod_struct hu h
  rw [Try.cells112] at hl
  have h0 := hf 0 f0 e0
  have h1 := hf 1 f1 e1
  have h2 := hf 2 f2 e2
  rw [y0, o0, Try.cells3', List.getElem?_eq_getElem (by omega)] at h0
  rw [y1, o1, Try.cells107, List.getElem?_eq_getElem (by omega)] at h1
  rw [y2, o2, Try.cells22', List.getElem?_eq_getElem (by omega)] at h2
  obtain ⟨k, q0, -, -⟩ := DataW.trod_int Try.underlying3 h0
  obtain ⟨ys, m', -, -, -, hys, hg⟩ := DataW.trod_array Try.underlying107 h1
  have each : ∀ i, i < 32 → ∃ b : UInt8, cs[1 + i]? = some (.int .u8 (b.toNat : Int)) := fun i hi => by
    have g := hg i hi
    rw [Try.cells5, Nat.mul_one, List.getElem?_eq_getElem (by omega)] at g
    obtain ⟨z, q, -, wf⟩ := DataW.trod_int Try.underlying5 g
    have hz : 0 ≤ z ∧ z ≤ 255 := by
      have e1 : IntKind.u8.min = 0 := rfl
      have e2 : IntKind.u8.max = 255 := rfl
      simpa [Lit.wf, e1, e2] using wf
    have hq := congrArg (fun l => l[0]?) q
    simp only [List.getElem?_take, List.getElem?_drop] at hq
    rw [if_pos (by omega), if_pos (by omega), Nat.add_zero] at hq
    refine ⟨UInt8.ofNat z.toNat, hq.trans ?_⟩
    simp only [List.getElem?_cons_zero, Option.some.injEq, UInt8.toNat_ofNat']
    congr 1
    omega
  obtain ⟨v, hv⟩ : ∃ v, (cs.drop 33).take 1 = [v] := by
    have hlen : ((cs.drop 33).take 1).length = 1 := by simp [hl]
    match hh : (cs.drop 33).take 1, hlen with
    | [v], _ => exact ⟨v, rfl⟩
  rw [hv] at h2
  obtain ⟨A, n, c, bs, rfl, hb, -⟩ := open_bytes_in h2
  obtain ⟨Y, hY⟩ := choose_lt each
  refine ⟨k, (List.range 32).map Y, A, n, c, bs, ?_, by simp, hb⟩
  refine List.ext_getElem? fun i => ?_
  rcases Nat.lt_trichotomy i 0 with hi | hi | hi
  · omega
  · subst hi
    have hq := congrArg (fun l => l[0]?) q0
    simp only [List.drop_zero, List.getElem?_take] at hq
    rw [if_pos (by omega)] at hq
    rw [hq]
    simp [RC]
  · obtain ⟨j, rfl⟩ : ∃ j, i = j + 1 := ⟨i - 1, by omega⟩
    rcases Nat.lt_trichotomy j 32 with hj | hj | hj
    · have := hY j hj
      rw [Nat.add_comm] at this
      rw [this]
      simp only [RC, List.toList_toArray, List.getElem?_cons_succ]
      rw [List.getElem?_append_left (by simp [u8s, hj])]
      simp [u8s, u8v, hj]
    · subst hj
      have hq := congrArg (fun l => l[0]?) hv
      simp only [List.getElem?_take, List.getElem?_drop] at hq
      rw [if_pos (by omega)] at hq
      rw [hq]
      simp [RC, u8s]
    · rw [List.getElem?_eq_none (by omega), List.getElem?_eq_none (by simp [RC, u8s]; omega)]
set_option maxRecDepth 100000 in
/-- A record that came in. -/
theorem open_rec {r : Reach} {b0 : Nat} {v : Value} {d : DataW H} {p : List MemPlace} (hval : Value.okWide Try.prog W r b0 112 v) (h : DataW.Trod enc Try.prog W 0 (fun _ => true) true 112 v d p) :
    ∃ k nm A n c bs, v = .agg (RC k nm (.slice A n c)) ∧ nm.length = 32 ∧ Bs W AnyB A n c bs := by
  obtain ⟨fs, hu, -⟩ := Try.rec112
  obtain ⟨cs, rfl, -⟩ := okWide_struct hu hval
  obtain ⟨fuel, hf⟩ := h
  obtain ⟨k, nm, A, n, c, bs, hcs, hn, hb⟩ := rec_cells hf
  refine ⟨k, nm, A, n, c, bs, ?_, hn, hb⟩
  have := congrArg List.toArray hcs
  simp [Value.cells] at this
  rw [this]
set_option maxRecDepth 100000 in
/-- A slice of records that came in. -/
theorem open_recs {r : Reach} {b0 : Nat} {v : Value} {d : DataW H} {p : List MemPlace} (hval : Value.okWide Try.prog W r b0 129 v) (h : DataW.Trod enc Try.prog W 0 (fun _ => true) true 129 v d p) :
    ∃ A n c l, v = .slice A n c ∧ RQ W AnyB A n c l := by
  obtain ⟨a0, len, cap, rfl⟩ := okWide_slice Try.underlying129 hval
  obtain ⟨fuel, hf⟩ := h
  rcases open_slice Try.underlying129 hf with h0 | ⟨a, len', cap', m, n, D, Pl, hcs, -, hl, hm, hmm, -, hi⟩
  · have h1 := h0.1
    simp [Value.cells] at h1
    obtain ⟨rfl, rfl, rfl⟩ := h1
    exact ⟨none, 0, 0, [], rfl, rfl, Nat.le_refl _, fun i hi => absurd hi (by omega)⟩
  · simp [Value.cells] at hcs
    obtain ⟨rfl, rfl, rfl⟩ := hcs
    have hm1 : len ≤ m := by rw [hmm]; split <;> omega
    have each : ∀ i, i < len → ∃ y : Rd, ∃ A' n' c', Bs W AnyB A' n' c' y.bs ∧ ∀ j v, (RC y.k y.nm (.slice A' n' c'))[j]? = some v → W.cell? (a.add (i * 34 + j)) = some v := fun i him => by
      obtain ⟨cs', hc, ht'⟩ := hi i (by omega)
      rw [Try.cells112] at hc
      obtain ⟨k, nm, A, n', c, bs, rfl, hn, hb⟩ := rec_cells ht'
      obtain ⟨_, hcl, hat⟩ := World.cells?_some hc
      refine ⟨⟨k, nm, bs, hn⟩, A, n', c, hb, fun j v hv => ?_⟩
      have hj : j < 34 := by
        have := (Array.getElem?_eq_some_iff.1 hv).1
        rwa [RC.size hn] at this
      rw [← add_of_add]
      refine (hat j hj).trans ?_
      simpa using hv
    have : Inhabited Rd := ⟨⟨0, noName, [], noName_len⟩⟩
    obtain ⟨Y, hY⟩ := choose_lt each
    refine ⟨some a, len, _, (List.range len).map Y, rfl, by simp, hl, fun i hi' => ?_⟩
    obtain ⟨A', n', c', hb, hc⟩ := hY i hi'
    exact ⟨a, _, A', n', c', Y i, rfl, trivial, Lib.hid (by simp [hi']), rfl, Lib.hid fun j v hv => by rw [add_of_add]; exact hc j v hv, hb⟩
end
end Go.Proofs.Ytaebmhbggbpnoaa
