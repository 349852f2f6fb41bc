/- What the laid tables give the walks. Conditions: each theorem's premises. -/
import Derived.Test.YtognkonncfjneaaDoorRows
import Derived.Test.YtognkonncfjneaaDoorMask1
import Derived.Test.YtognkonncfjneaaDoorWrap
import Derived.LaidMore
import Derived.OpenShut
import Derived.Stop.Joined
namespace Go.Proofs.YtognkonncfjneaaDoor
open Go.ChangeShapes Go.WideShapes Go.ChangeAt Go.WideMaps Go.WideElems Go.RowKit
theorem gTab32 : Tryd.prog.globalNamed "math/bits.deBruijn32tab" = some 0 := by kernel_rfl
theorem gTab64 : Tryd.prog.globalNamed "math/bits.deBruijn64tab" = some 1 := by kernel_rfl
theorem tTab64 : (Tryd.prog.globals[1]?).map (·.type) = some 113 := by kernel_rfl
theorem under113 : Tryd.prog.underlying 113 = some (.array 64 5) := by kernel_rfl
def laidTabs : List (String × DataW Unit) := [("math/bits.deBruijn32tab", Rows.laid_math_bits_deBruijn32tab), ("math/bits.deBruijn64tab", Rows.laid_math_bits_deBruijn64tab)]
section
variable {P : Program} {H : Type} {enc : TypeId × Value → H} {w : World} {base : Nat} {spare : Nat → Bool} {held : Bool} {fuel : Nat} {t e : TypeId} {cs : List Value} {q : List MemPlace}
theorem array_ints {n : Nat} {k : IntKind} (ht : P.underlying t = some (.array n e)) (he : P.underlying e = some (.int k)) (hc : P.cellsOf e = 1) {ks : List Int} (h : DataW.trod enc P w base spare held fuel t cs = some (.agg (ks.map fun z => .lit (.int k z)), q)) (j : Nat) (hj : j < n) :
    cs[j]? = (ks[j]?).map fun z => .int k z := by
  obtain ⟨xs, m, rfl, hx, hlen, hn, hel⟩ := DataW.trod_array ht h
  simp only [Prod.mk.injEq, DataW.agg.injEq] at hx
  obtain ⟨hx, -⟩ := hx
  have h1 := hel j hj
  rw [hc, Nat.mul_one, List.getElem?_eq_getElem (by omega)] at h1
  obtain ⟨z, e1, e2, -⟩ := DataW.trod_int he h1
  have h2 : (ks.map fun z => (DataW.lit (.int k z) : DataW H))[j]? = some (xs[j]'(by omega)).1 := by rw [hx, List.getElem?_map, List.getElem?_eq_getElem (by omega)]; rfl
  rw [e2, List.getElem?_map] at h2
  have h3 : cs[j]? = some (.int k z) := by
    have := congrArg (fun l : List Value => l[0]?) e1
    simpa using this
  rw [h3]
  cases hk : ks[j]? with
  | none => rw [hk] at h2; cases h2
  | some z' =>
    rw [hk] at h2
    simp only [Option.map_some, Option.some.injEq, DataW.lit.injEq, Lit.int.injEq, true_and] at h2
    rw [h2]
    rfl
end
set_option maxRecDepth 100000 in
theorem tab_of_laid {W : World} (h : laidMetH Tryd.prog laidTabs W) : Tab64 W := by
  rw [MakeChecks.laidMetH_plain _ _ _ (by kernel_rfl)] at h
  obtain ⟨ps, ⟨g0, t0, cs0, f0, p0, q0, hg0, ht0, hv0, hd0, ⟨g1, t1, cs1, f1, p1, q1, hg1, ht1, hv1, hd1, _, _⟩, _⟩, _, _⟩ := h
  obtain rfl := Option.some.inj (gTab64.symm.trans hg1)
  obtain rfl := Option.some.inj (tTab64.symm.trans ht1)
  intro j hj
  rw [World.var?_cell gTab64 hv1 j]
  have := array_ints (ks := Lib.deBruijn64tab.map fun z : Nat => (z : Int)) (k := .u8) under113 Tryd.underlying5 Tryd.cells5 hd1 j hj
  rw [← Array.getElem?_toList, this]
  have hl : j < Lib.deBruijn64tab.length := hj
  rw [List.getElem?_map, List.getElem?_eq_getElem hl, List.getD_eq_getElem?_getD, List.getElem?_eq_getElem hl]
  rfl
/-- The door's own heap meets the condition: three closed facts. -/
theorem door_met (os : Os) (args : Array Value) : laidMetH Tryd.prog laidTabs ((World.doorLaid Tryd.prog 400 os).forCall (fun _ _ => 0) ⟨#[], args, []⟩).memory :=
  laidMetH_of_parts3 (fuel := 8) (laidMet_of_run' 8 (by kernel_rfl) (by kernel_rfl)) (by kernel_rfl) (by kernel_rfl)
end Go.Proofs.YtognkonncfjneaaDoor
