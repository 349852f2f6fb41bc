/- GearWindow: whatever the seed and the two lists of bytes are, the law returns true and its arguments read as they did; the tables that it lists read as the program's text lays them. Conditions: none. -/
import Derived.Test.YtognkonncfjneaaDoorGearWin1
import Derived.Test.YtognkonncfjneaaDoorLaid
import Derived.Test.YtognkonncfjneaaDoorCards
import Derived.Test.YtognkonncfjneaaDoorTie
import Derived.SevenTiedAt
namespace Go.Proofs.YtognkonncfjneaaDoor
open Go.ChangeShapes Go.WideShapes Go.ChangeAt Go.RowKit
set_option maxRecDepth 100000 in
theorem gearWindow_lifted (os : Os) (started : os.Started) (H : Type) (enc : TypeId × Value → H) :
    ReturnsInHanded {} Tryd.checked os 6 .any (fun w args => (Rows.gearWindowSpec.pre enc Tryd.prog Tryd.f6 [] false w args ∧ laidMetH Tryd.prog laidTabs w) ∧ sizedMet enc Tryd.prog Tryd.f6 (OpenSpec.ofChange Rows.gearWindowSpec) false w args)
      (Rows.gearWindowSpec.post enc Tryd.prog Tryd.f6 false true false false) := by
  refine returnsInHanded_of_change_and (C := Tryd.checked) (X := fun w _ => laidMetH Tryd.prog laidTabs w) (fun _ _ _ hh h => h.of_heap hh) Tryd.own started (by kernel_rfl) Tryd.func6
    (ChangeSpec.witness_shaped (enc := enc) (C := Tryd.checked) (os := os) (X := fun w _ => laidMetH Tryd.prog laidTabs w) false (World.doorLaid Tryd.prog 400 os) #[.int .u64 0, .slice none 0 0, .slice none 0 0] 8 rfl (World.shaped_of_RefB (by kernel_rfl) (by kernel_rfl)) (by kernel_rfl) (by kernel_rfl) (by kernel_rfl) (door_met os _)) ?_
  intro W base args ds gs before hval0 hW _ _ hL _
  have hval : ∀ (j : Nat) t v, Tryd.f6.params[j]? = some t → args[j]? = some v → Value.okWide Tryd.prog W .any base t v := hval0
  have hW' := hW
  obtain ⟨p, q, hA0, hV, rfl, hfz, hnd⟩ := hW
  have hA : DataW.TrodAll enc Tryd.prog W 0 (fun _ => true) true Tryd.f6.params.toList args.toList ds p := hA0
  rw [Tryd.params6] at hA hval
  obtain ⟨v0, v1, v2, d0, d1, d2, p0, p1, p2, rfl, rfl, rfl, h0, h1, h2⟩ := trodAll_three hA
  obtain ⟨rfl, rfl⟩ := trodVars_none hV
  obtain ⟨m0, rfl, rfl, rfl, wm0⟩ := open_int Tryd.underlying22 (hval 0 22 v0 rfl rfl) h0
  obtain ⟨A1, n1, c1, b1, rfl, hb1⟩ := open_bytes (hval 1 23 v1 rfl rfl) h1
  obtain ⟨A2, n2, c2, b2, rfl, hb2⟩ := open_bytes (hval 2 23 v2 rfl rfl) h2
  clear hA0 hval0
  have hm0 : 0 ≤ m0 ∧ m0 ≤ 18446744073709551615 := by
    have e1 : IntKind.u64.min = 0 := rfl
    have e2 : IntKind.u64.max = 18446744073709551615 := rfl
    simpa [Lit.wf, e1, e2] using wm0
  obtain ⟨m0, rfl⟩ : ∃ mn : Nat, m0 = (mn : Int) := ⟨m0.toNat, by omega⟩
  have hn0 : m0 < Gear.M := by unfold Gear.M; omega
  have hT := tab_of_laid hL
  simp only [List.append_nil, List.nil_append] at hW'
  have hlt1 : ∀ x ∈ p1, x.block < W.heap.size := fun x hx => by simpa using hW'.lt x (by simp [hx])
  have hlt2 : ∀ x ∈ p2, x.block < W.heap.size := fun x hx => by simpa using hW'.lt x (by simp [hx])
  refine (gearWindow_any W m0 hn0 AnyB AnyB A1 A2 n1 n2 c1 c2 b1 b2 hb1 hb2 hT).mono fun e W' ⟨he, hb⟩ => ?_
  subst he
  have g1 : DataW.Trod enc Tryd.prog W' 0 (fun b => decide (b < W.heap.size)) true 23 (.slice A1 n1 c1) d1 p1 := Below.trod Tryd.laidOut (by kernel_rfl) (of_decide_eq_true (by kernel_rfl)) h1 hb hlt1
  have g2 : DataW.Trod enc Tryd.prog W' 0 (fun b => decide (b < W.heap.size)) true 23 (.slice A2 n2 c2) d2 p2 := Below.trod Tryd.laidOut (by kernel_rfl) (of_decide_eq_true (by kernel_rfl)) h2 hb hlt2
  have hall := trodAll_mk3 (shut_int (enc := enc) (w := W') (base := 0) (spare := fun b => decide (b < W.heap.size)) (held := true) Tryd.underlying22 wm0) g1 g2
  simp only [List.nil_append] at hall
  exact ⟨_, rfl, _, _, _, [], _, [], hW', trodAll_mk1 shut_true, hall, rfl, hb.frame _, fun h => by cases h⟩
theorem gearWindow_row : Rows.GearWindowSaid :=
  OpenClaim.holds_of_wide 6 Tryd.f6 rfl rfl rfl rfl rfl rfl rfl ⟨rfl, rfl, rfl, rfl, rfl⟩ rfl rfl rfl rfl rfl (by kernel_rfl) Tryd.func6 (by kernel_rfl)
    (of_decide_eq_true (by kernel_rfl)) (by unfold Func.isWrapper; first | (rw [if_pos (by decide +kernel)]; kernel_rfl) | (rw [if_neg (by decide +kernel)]; exact ⟨rfl, rfl⟩))
    (fun os started H enc _ => gearWindow_lifted os started H enc)
theorem gearWindow_holds : Rows.GearWindowCardSaid :=
  Claim7.holds_tied_plain_at .later [] [.data, .data] true (true, "c75277d94642f5e917de79d24b1235023307ebb3e77abfdd9900d673d2cb0e14") false
    gearWindow_row (fun _ h => by cases h) (by kernel_rfl) (fun _ h => by cases h) gearWindow_row_tie rfl ⟨rfl, rfl⟩ (by kernel_rfl) rfl
    (fun f fn hf hfn => by
      obtain rfl : f = 6 := Option.some.inj ((show Tryd.prog.funcNamed "hayloft/hayloftlaw04.GearWindow" = some 6 by kernel_rfl).symm.trans hf) |>.symm
      obtain rfl : fn = Tryd.f6 := (Option.some.inj (Tryd.func6.symm.trans hfn)).symm
      exact ⟨by kernel_rfl, fun j t ht => by
        rw [Tryd.params6] at ht
        have hm : t ∈ [22, 23, 23] := by simpa using Array.mem_of_getElem? ht
        have hall : ([22, 23, 23].all fun u => !Tryd.prog.wantsStandIn u) = true := by kernel_rfl
        exact (show Tryd.prog.wantsStandIn t = false by simpa using List.all_eq_true.1 hall t hm)⟩)
    (by kernel_rfl)
#print axioms gearWindow_holds
end Go.Proofs.YtognkonncfjneaaDoor
