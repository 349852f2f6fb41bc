/- A file, entries, an object that came in. Conditions: each theorem's premises. -/
import Derived.Test.YtaebmhbggbpnoaaGNodes
import Derived.Test.YtaebmhbggbpnoaaGNdMem
import Derived.OpenShut
import Derived.Deep.Strs
import Derived.Deep.Grids
namespace Go.Proofs.Ytaebmhbggbpnoaa
open Go.RowKit Go.ChangeShapes Go.WideShapes Go.ChangeAt Go.Deep
section
variable {H : Type} {enc : TypeId × Value → H} {W : World}
theorem Try.cells107 : Try.prog.cellsOf 107 = 32 := by kernel_rfl
theorem Try.cells182 : Try.prog.cellsOf 182 = 34 := by kernel_rfl
theorem Try.cells81 : Try.prog.cellsOf 81 = 2 := by kernel_rfl
theorem Try.cells84 : Try.prog.cellsOf 84 = 2 := by kernel_rfl
theorem Try.cells3' : Try.prog.cellsOf 3 = 1 := by kernel_rfl
theorem Try.cells4' : Try.prog.cellsOf 4 = 1 := by kernel_rfl
theorem Try.cells9' : Try.prog.cellsOf 9 = 1 := by kernel_rfl
theorem Try.cells22' : Try.prog.cellsOf 22 = 1 := by kernel_rfl
theorem Try.cells79' : Try.prog.cellsOf 79 = 1 := by kernel_rfl
theorem one_of {cs : List Value} {i : Nat} (h : i < cs.length) : ∃ v, (cs.drop i).take 1 = [v] ∧ cs[i]? = some v := ⟨cs[i], by rw [List.drop_eq_getElem_cons h]; rfl, List.getElem?_eq_getElem h⟩
set_option maxRecDepth 100000 in
/-- What a name opens to. -/
theorem hash_cells {fuel : Nat} {cs : List Value} {x : DataW H × List MemPlace} (h : DataW.trod enc Try.prog W 0 (fun _ => true) true fuel 107 cs = some x) : ∃ nm, cs = (NC nm).toList ∧ nm.length = 32 := by
  obtain ⟨ys, m', -, -, hl, hys, hg⟩ := DataW.trod_array Try.underlying107 h
  rw [Try.cells107] at hl
  have each : ∀ i, i < 32 → ∃ b : UInt8, cs[i]? = some (.int .u8 (b.toNat : Int)) := fun i hi => by
    have g := hg i hi
    rw [Try.cells5, Nat.mul_one, List.getElem?_eq_getElem (by omega)] at g
    obtain ⟨z, q, -, wf⟩ := DataW.trod_int Try.underlying5 g
    have hz : 0 ≤ z ∧ z ≤ 255 := by
      have e1 : IntKind.u8.min = 0 := rfl
      have e2 : IntKind.u8.max = 255 := rfl
      simpa [Lit.wf, e1, e2] using wf
    have hq := congrArg (fun l => l[0]?) q
    simp only [List.getElem?_take, List.getElem?_drop] at hq
    rw [if_pos (by omega), Nat.add_zero] at hq
    refine ⟨UInt8.ofNat z.toNat, hq.trans ?_⟩
    simp only [List.getElem?_cons_zero, Option.some.injEq, UInt8.toNat_ofNat']
    congr 1
    omega
  obtain ⟨Y, hY⟩ := choose_lt each
  refine ⟨(List.range 32).map Y, ?_, by simp⟩
  refine List.ext_getElem? fun i => ?_
  rcases Nat.lt_or_ge i 32 with hi | hi
  · rw [hY i hi]
    simp [NC, u8s, u8v, hi]
  · rw [List.getElem?_eq_none (by omega), List.getElem?_eq_none (by simp [NC, u8s]; omega)]
set_option maxRecDepth 100000 in
/-- A slice of names that came in. -/
theorem open_hashes_in {fuel : Nat} {v : Value} {x : DataW H × List MemPlace} (hf : DataW.trod enc Try.prog W 0 (fun _ => true) true fuel 79 [v] = some x) : ∃ A n c hs, v = .slice A n c ∧ Hs W AnyB A n c hs := by
  rcases open_slice Try.underlying79 hf with h0 | ⟨a, len, cap, m, n, D, Pl, hcs, -, hl, hm, hmm, -, hi⟩
  · have h1 := h0.1
    simp only [List.cons.injEq, and_true] at h1
    exact ⟨none, 0, 0, [], h1, Ls.nil _ _ _⟩
  · simp only [List.cons.injEq, and_true] at hcs
    have hm1 : len ≤ m := by rw [hmm]; split <;> omega
    have each : ∀ i, i < len → ∃ nm : List UInt8, nm.length = 32 ∧ ∀ j v, (NC nm)[j]? = some v → W.cell? (a.add (i * 32 + j)) = some v := fun i him => by
      obtain ⟨cs', hc, ht'⟩ := hi i (by omega)
      rw [Try.cells107] at hc
      obtain ⟨nm, rfl, hn⟩ := hash_cells ht'
      obtain ⟨_, hcl, hat⟩ := World.cells?_some hc
      refine ⟨nm, hn, fun j v hv => ?_⟩
      have hj : j < 32 := by
        have := (Array.getElem?_eq_some_iff.1 hv).1
        rwa [NC_size hn] at this
      rw [← add_of_add]
      refine (hat j hj).trans ?_
      simpa using hv
    obtain ⟨Y, hY⟩ := choose_lt each
    have hall : ∀ x ∈ (List.range len).map Y, (NC x).size = 32 := fun x hx => by
      rw [List.mem_map] at hx
      obtain ⟨i, hi', rfl⟩ := hx
      exact NC_size (hY i (List.mem_range.1 hi')).1
    refine ⟨some a, len, cap, (List.range len).map Y, hcs, by simp, hl, hall, by rw [flat_len hall]; simp, fun _ => ⟨a, rfl, trivial, fun j u hu => ?_⟩⟩
    have hjl : j < len * 32 := by
      rcases Nat.lt_or_ge j (len * 32) with h | h
      · exact h
      · rw [List.getElem?_eq_none (by rw [flat_len hall]; simp; omega)] at hu; cases hu
    have hi' : j / 32 < len := by omega
    have hjm : j % 32 < (NC (Y (j / 32))).size := by rw [NC_size (hY _ hi').1]; omega
    have hg := flat_get hall (k := j / 32) (x := Y (j / 32)) (by simp [hi']) (Array.getElem?_eq_getElem hjm)
    rw [show j / 32 * 32 + j % 32 = j from by omega] at hg
    rw [hg] at hu
    injection hu with hu
    have hc := (hY _ hi').2 (j % 32) _ (Array.getElem?_eq_getElem hjm)
    rw [show j / 32 * 32 + j % 32 = j from by omega] at hc
    rw [hc, hu]
theorem Try.rec81 : ∃ fs : Array Field, Try.prog.underlying 81 = some (.struct fs) ∧ fs.size = 2 ∧ (∃ f, fs[0]? = some f ∧ f.type = 3 ∧ f.offset = 0) ∧ (∃ f, fs[1]? = some f ∧ f.type = 79 ∧ f.offset = 1) := ⟨_, Try.underlying81, rfl, ⟨_, rfl, rfl, rfl⟩, ⟨_, rfl, rfl, rfl⟩⟩
theorem Try.rec84 : ∃ fs : Array Field, Try.prog.underlying 84 = some (.struct fs) ∧ fs.size = 2 ∧ (∃ f, fs[0]? = some f ∧ f.type = 3 ∧ f.offset = 0) ∧ (∃ f, fs[1]? = some f ∧ f.type = 22 ∧ f.offset = 1) := ⟨_, Try.underlying84, rfl, ⟨_, rfl, rfl, rfl⟩, ⟨_, rfl, rfl, rfl⟩⟩
theorem Try.rec182 : ∃ fs : Array Field, Try.prog.underlying 182 = some (.struct fs) ∧ fs.size = 3 ∧ (∃ f, fs[0]? = some f ∧ f.type = 9 ∧ f.offset = 0) ∧ (∃ f, fs[1]? = some f ∧ f.type = 4 ∧ f.offset = 1) ∧ (∃ f, fs[2]? = some f ∧ f.type = 107 ∧ f.offset = 2) := ⟨_, Try.underlying182, rfl, ⟨_, rfl, rfl, rfl⟩, ⟨_, rfl, rfl, rfl⟩, ⟨_, rfl, rfl, rfl⟩⟩
theorem two_cells {cs : List Value} {a b : Value} (hl : cs.length = 2) (h0 : cs[0]? = some a) (h1 : cs[1]? = some b) : cs = [a, b] := by
  match cs, hl with
  | [x, y], _ => simp at h0 h1; rw [h0, h1]
set_option maxRecDepth 100000 in
/-- A file that came in. -/
theorem open_file {r : Reach} {b0 : Nat} {v : Value} {d : DataW H} {p : List MemPlace} (hval : Value.okWide Try.prog W r b0 81 v) (h : DataW.Trod enc Try.prog W 0 (fun _ => true) true 81 v d p) :
    ∃ s A n c hs, v = .agg #[.int .i64 s, .slice A n c] ∧ Hs W AnyB A n c hs := by
  obtain ⟨fs, hu, hfs, ⟨f0, e0, y0, o0⟩, ⟨f1, e1, y1, o1⟩⟩ := Try.rec81
  obtain ⟨cs, rfl, -⟩ := okWide_struct hu hval
  obtain ⟨fuel, hf⟩ := h
  obtain ⟨xs, m, -, -, hl, hxs, hf⟩ := DataW.trod_struct hu hf
  rw [Try.cells81] at hl
  simp only [Value.cells] at hl hf
  have h0 := hf 0 f0 e0
  have h1 := hf 1 f1 e1
  rw [y0, o0, Try.cells3', List.getElem?_eq_getElem (by omega)] at h0
  rw [y1, o1, Try.cells79', List.getElem?_eq_getElem (by omega)] at h1
  obtain ⟨v0, q0, c0⟩ := one_of (cs := cs.toList) (i := 0) (by omega)
  obtain ⟨v1, q1, c1⟩ := one_of (cs := cs.toList) (i := 1) (by omega)
  rw [q0] at h0
  rw [q1] at h1
  obtain ⟨k, e, -, -⟩ := DataW.trod_int Try.underlying3 h0
  obtain ⟨A, n, c, hs, e', hh⟩ := open_hashes_in h1
  simp only [List.cons.injEq, and_true] at e
  subst e
  subst e'
  refine ⟨k, A, n, c, hs, ?_, hh⟩
  have := congrArg List.toArray (two_cells hl c0 c1)
  simp at this
  rw [this]
set_option maxRecDepth 100000 in
/-- An object that came in. -/
theorem open_obj {r : Reach} {b0 : Nat} {v : Value} {d : DataW H} {p : List MemPlace} (hval : Value.okWide Try.prog W r b0 84 v) (h : DataW.Trod enc Try.prog W 0 (fun _ => true) true 84 v d p) :
    ∃ k A n c b, v = .agg #[.int .i64 k, .slice A n c] ∧ Bs W AnyB A n c b := by
  obtain ⟨fs, hu, hfs, ⟨f0, e0, y0, o0⟩, ⟨f1, e1, y1, o1⟩⟩ := Try.rec84
  obtain ⟨cs, rfl, -⟩ := okWide_struct hu hval
  obtain ⟨fuel, hf⟩ := h
  obtain ⟨xs, m, -, -, hl, hxs, hf⟩ := DataW.trod_struct hu hf
  rw [Try.cells84] at hl
  simp only [Value.cells] at hl hf
  have h0 := hf 0 f0 e0
  have h1 := hf 1 f1 e1
  rw [y0, o0, Try.cells3', List.getElem?_eq_getElem (by omega)] at h0
  rw [y1, o1, Try.cells22', List.getElem?_eq_getElem (by omega)] at h1
  obtain ⟨v0, q0, c0⟩ := one_of (cs := cs.toList) (i := 0) (by omega)
  obtain ⟨v1, q1, c1⟩ := one_of (cs := cs.toList) (i := 1) (by omega)
  rw [q0] at h0
  rw [q1] at h1
  obtain ⟨k, e, -, -⟩ := DataW.trod_int Try.underlying3 h0
  obtain ⟨A, n, c, bs, e', hb, -⟩ := open_bytes_in h1
  simp only [List.cons.injEq, and_true] at e
  subst e
  subst e'
  refine ⟨k, A, n, c, bs, ?_, hb⟩
  have := congrArg List.toArray (two_cells hl c0 c1)
  simp at this
  rw [this]
set_option maxRecDepth 100000 in
/-- What an entry opens to. -/
theorem ent_cells {fuel : Nat} {cs : List Value} {x : DataW H × List MemPlace} (h : DataW.trod enc Try.prog W 0 (fun _ => true) true fuel 182 cs = some x) : ∃ e : EV, cs = (EC e).toList ∧ e.ok := by
  obtain ⟨fs, hu, hfs, ⟨f0, e0, y0, o0⟩, ⟨f1, e1, y1, o1⟩, ⟨f2, e2, y2, o2⟩⟩ := Try.rec182
  obtain ⟨xs, m, -, -, hl, hxs, hf⟩ := DataW.trod_struct hu h
  rw [Try.cells182] at hl
  have h0 := hf 0 f0 e0
  have h1 := hf 1 f1 e1
  have h2 := hf 2 f2 e2
  rw [y0, o0, Try.cells9', List.getElem?_eq_getElem (by omega)] at h0
  rw [y1, o1, Try.cells4', List.getElem?_eq_getElem (by omega)] at h1
  rw [y2, o2, Try.cells107, List.getElem?_eq_getElem (by omega)] at h2
  obtain ⟨s, q0, -⟩ := DataW.trod_string Try.underlying9 h0
  obtain ⟨b, q1, -⟩ := DataW.trod_bool Try.underlying4 h1
  obtain ⟨nm, q2, hn⟩ := hash_cells h2
  refine ⟨⟨s, b, nm⟩, ?_, hn⟩
  have hs : cs = (cs.drop 0).take 1 ++ ((cs.drop 1).take 1 ++ (cs.drop 2).take 32) := by
    clear h hf h0 h1 h2 q0 q1 q2
    match cs, hl with
    | a :: b :: rest, hl =>
      have : rest.take 32 = rest := List.take_of_length_le (by simp at hl; omega)
      simp [this]
  rw [hs, q0, q1, q2]
  simp [EC, NC]
set_option maxRecDepth 100000 in
/-- A slice of entries that came in. -/
theorem open_ents {r : Reach} {b0 : Nat} {v : Value} {d : DataW H} {p : List MemPlace} (hval : Value.okWide Try.prog W r b0 82 v) (h : DataW.Trod enc Try.prog W 0 (fun _ => true) true 82 v d p) :
    ∃ A n c l, v = .slice A n c ∧ Es W AnyB A n c l := by
  obtain ⟨a0, len, cap, rfl⟩ := okWide_slice Try.underlying82 hval
  obtain ⟨fuel, hf⟩ := h
  rcases open_slice Try.underlying82 hf with h0 | ⟨a, len', cap', m, n, D, Pl, hcs, -, hl, hm, hmm, -, hi⟩
  · have h1 := h0.1
    simp [Value.cells] at h1
    obtain ⟨rfl, rfl, rfl⟩ := h1
    exact ⟨none, 0, 0, [], rfl, Ls.nil _ _ _⟩
  · simp [Value.cells] at hcs
    obtain ⟨rfl, rfl, rfl⟩ := hcs
    have hm1 : len ≤ m := by rw [hmm]; split <;> omega
    have each : ∀ i, i < len → ∃ e : EV, e.ok ∧ ∀ j v, (EC e)[j]? = some v → W.cell? (a.add (i * 34 + j)) = some v := fun i him => by
      obtain ⟨cs', hc, ht'⟩ := hi i (by omega)
      rw [Try.cells182] at hc
      obtain ⟨e, rfl, hn⟩ := ent_cells ht'
      obtain ⟨_, hcl, hat⟩ := World.cells?_some hc
      refine ⟨e, hn, fun j v hv => ?_⟩
      have hj : j < 34 := by
        have := (Array.getElem?_eq_some_iff.1 hv).1
        rwa [EC_size hn] at this
      rw [← add_of_add]
      refine (hat j hj).trans ?_
      simpa using hv
    have : Inhabited EV := ⟨⟨⟨#[]⟩, false, noName⟩⟩
    obtain ⟨Y, hY⟩ := choose_lt each
    have hall : ∀ x ∈ (List.range len).map Y, (EC x).size = 34 := fun x hx => by
      rw [List.mem_map] at hx
      obtain ⟨i, hi', rfl⟩ := hx
      exact EC_size (hY i (List.mem_range.1 hi')).1
    refine ⟨some a, len, cap, (List.range len).map Y, rfl, by simp, hl, hall, by rw [flat_len hall]; simp, fun _ => ⟨a, rfl, trivial, fun j u hu => ?_⟩⟩
    have hjl : j < len * 34 := by
      rcases Nat.lt_or_ge j (len * 34) with h | h
      · exact h
      · rw [List.getElem?_eq_none (by rw [flat_len hall]; simp; omega)] at hu; cases hu
    have hi' : j / 34 < len := by omega
    have hjm : j % 34 < (EC (Y (j / 34))).size := by rw [EC_size (hY _ hi').1]; omega
    have hg := flat_get hall (k := j / 34) (x := Y (j / 34)) (by simp [hi']) (Array.getElem?_eq_getElem hjm)
    rw [show j / 34 * 34 + j % 34 = j from by omega] at hg
    rw [hg] at hu
    injection hu with hu
    have hc := (hY _ hi').2 (j % 34) _ (Array.getElem?_eq_getElem hjm)
    rw [show j / 34 * 34 + j % 34 = j from by omega] at hc
    rw [hc, hu]
end
/-! ### Five parameters -/
section
variable {H : Type} {enc : TypeId × Value → H} {P : Program} {w : World} {base : Nat} {spare : Nat → Bool} {held : Bool}
theorem trodAll_five {t t' t'' t3 t4 : TypeId} {args : Array Value} {ds : List (DataW H)} {ps : List MemPlace} (h : DataW.TrodAll enc P w base spare held [t, t', t'', t3, t4] args.toList ds ps) :
    ∃ v v' v'' v3 v4 d d' d'' d3 d4 p p' p'' p3 p4, args = #[v, v', v'', v3, v4] ∧ ds = [d, d', d'', d3, d4] ∧ ps = p ++ p' ++ p'' ++ p3 ++ p4 ∧ DataW.Trod enc P w base spare held t v d p ∧ DataW.Trod enc P w base spare held t' v' d' p' ∧ DataW.Trod enc P w base spare held t'' v'' d'' p'' ∧ DataW.Trod enc P w base spare held t3 v3 d3 p3 ∧ DataW.Trod enc P w base spare held t4 v4 d4 p4 := by
  obtain ⟨v, vs, d, ds1, p, q, hargs, rfl, rfl, hd, hrest⟩ := trodAll_cons h
  obtain ⟨v', vs', d', ds2, p', q', rfl, rfl, rfl, hd', hrest'⟩ := trodAll_cons hrest
  obtain ⟨v'', vs'', d'', ds3, p'', q'', rfl, rfl, rfl, hd'', hrest''⟩ := trodAll_cons hrest'
  obtain ⟨v3, vs3, d3, ds4, p3, q3, rfl, rfl, rfl, hd3, hrest3⟩ := trodAll_cons hrest''
  obtain ⟨v4, vs4, d4, ds5, p4, q4, rfl, rfl, rfl, hd4, hrest4⟩ := trodAll_cons hrest3
  obtain ⟨rfl, rfl, rfl⟩ := trodAll_nil hrest4
  exact ⟨v, v', v'', v3, v4, d, d', d'', d3, d4, p, p', p'', p3, p4, by cases args; simp_all, rfl, by simp, hd, hd', hd'', hd3, hd4⟩
theorem trodAll_mk5 {t t' t'' t3 t4 : TypeId} {v v' v'' v3 v4 : Value} {d d' d'' d3 d4 : DataW H} {p p' p'' p3 p4 : List MemPlace} (h : DataW.Trod enc P w base spare held t v d p) (h' : DataW.Trod enc P w base spare held t' v' d' p')
    (h'' : DataW.Trod enc P w base spare held t'' v'' d'' p'') (h3 : DataW.Trod enc P w base spare held t3 v3 d3 p3) (h4 : DataW.Trod enc P w base spare held t4 v4 d4 p4) : DataW.TrodAll enc P w base spare held [t, t', t'', t3, t4] [v, v', v'', v3, v4] [d, d', d'', d3, d4] (p ++ (p' ++ (p'' ++ (p3 ++ p4)))) := ⟨p, p' ++ (p'' ++ (p3 ++ p4)), h, trodAll_mk4 h' h'' h3 h4, rfl⟩
end
end Go.Proofs.Ytaebmhbggbpnoaa
