/- ChunkerStreams: whatever the rule and the list of lists of bytes are, the law returns true and its arguments read as they did; the tables that it lists read as the program's text lays them. Conditions: none. -/
import Derived.Test.YtognkonncfjneaaDoorChStrm1
import Derived.Test.YtognkonncfjneaaDoorChWrap
import Derived.Test.YtognkonncfjneaaDoorLaid
import Derived.Test.YtognkonncfjneaaDoorCards
import Derived.Test.YtognkonncfjneaaDoorTie
import Derived.SevenTiedAt
namespace Go.Proofs.YtognkonncfjneaaDoor
open Go.ChangeShapes Go.WideShapes Go.ChangeAt Go.RowKit
set_option maxRecDepth 100000 in
theorem chunkerStreams_lifted (os : Os) (started : os.Started) (H : Type) (enc : TypeId × Value → H) :
    ReturnsInHanded {} Tryd.checked os 9 .any (fun w args => (Rows.chunkerStreamsSpec.pre enc Tryd.prog Tryd.f9 [] false w args ∧ laidMetH Tryd.prog laidTabs w) ∧ sizedMet enc Tryd.prog Tryd.f9 (OpenSpec.ofChange Rows.chunkerStreamsSpec) false w args)
      (Rows.chunkerStreamsSpec.post enc Tryd.prog Tryd.f9 false true false false) := by
  refine returnsInHanded_of_change_and (C := Tryd.checked) (X := fun w _ => laidMetH Tryd.prog laidTabs w) (fun _ _ _ hh h => h.of_heap hh) Tryd.own started (by kernel_rfl) Tryd.func9
    (ChangeSpec.witness_shaped (enc := enc) (C := Tryd.checked) (os := os) (X := fun w _ => laidMetH Tryd.prog laidTabs w) false (World.doorLaid Tryd.prog 400 os) #[.agg #[.int .u64 0, .int .i64 0, .int .i64 0, .int .i64 0], .slice none 0 0] 8 rfl (World.shaped_of_RefB (by kernel_rfl) (by kernel_rfl)) (by kernel_rfl) (by kernel_rfl) (by kernel_rfl) (door_met os _)) ?_
  intro W base args ds gs before hval0 hW _ _ hL _
  have hval : ∀ (j : Nat) t v, Tryd.f9.params[j]? = some t → args[j]? = some v → Value.okWide Tryd.prog W .any base t v := hval0
  have hW' := hW
  obtain ⟨p, q, hA0, hV, rfl, hfz, hnd⟩ := hW
  have hA : DataW.TrodAll enc Tryd.prog W 0 (fun _ => true) true Tryd.f9.params.toList args.toList ds p := hA0
  rw [Tryd.params9] at hA hval
  obtain ⟨v0, v1, d0, d1, p0, p1, rfl, rfl, rfl, h0, h1⟩ := trodAll_two hA
  obtain ⟨rfl, rfl⟩ := trodVars_none hV
  obtain ⟨s0, mn0, av0, mx0, rfl, hs0⟩ := open_rule (hval 0 41 v0 rfl rfl) h0
  obtain ⟨A1, n1, c1, b1, rfl, hb1⟩ := open_rows (hval 1 42 v1 rfl rfl) h1
  clear hA0 hval0
  have hT := tab_of_laid hL
  simp only [List.append_nil] at hW'
  have hlt0 : ∀ x ∈ p0, x.block < W.heap.size := fun x hx => by simpa using hW'.lt x (by simp [hx])
  have hlt1 : ∀ x ∈ p1, x.block < W.heap.size := fun x hx => by simpa using hW'.lt x (by simp [hx])
  refine (streams_any W s0 hs0 mn0 av0 mx0 AnyB A1 n1 c1 b1 hb1 hT).mono fun e W' ⟨he, hb⟩ => ?_
  subst he
  have g0 : DataW.Trod enc Tryd.prog W' 0 (fun b => decide (b < W.heap.size)) true 41 (.agg #[.int .u64 (s0 : Int), .int .i64 mn0, .int .i64 av0, .int .i64 mx0]) d0 p0 := Below.trod Tryd.laidOut (by kernel_rfl) (of_decide_eq_true (by kernel_rfl)) h0 hb hlt0
  have g1 : DataW.Trod enc Tryd.prog W' 0 (fun b => decide (b < W.heap.size)) true 42 (.slice A1 n1 c1) d1 p1 := Below.trod Tryd.laidOut (by kernel_rfl) (of_decide_eq_true (by kernel_rfl)) h1 hb hlt1
  have hall := trodAll_mk2 g0 g1
  exact ⟨_, rfl, _, _, _, [], _, [], hW', trodAll_mk1 shut_true, hall, rfl, hb.frame _, fun h => by cases h⟩
theorem chunkerStreams_row : Rows.ChunkerStreamsSaid :=
  OpenClaim.holds_of_wide 9 Tryd.f9 rfl rfl rfl rfl rfl rfl rfl ⟨rfl, rfl, rfl, rfl, rfl⟩ rfl rfl rfl rfl rfl (by kernel_rfl) Tryd.func9 (by kernel_rfl)
    (of_decide_eq_true (by kernel_rfl)) (by unfold Func.isWrapper; first | (rw [if_pos (by decide +kernel)]; kernel_rfl) | (rw [if_neg (by decide +kernel)]; exact ⟨rfl, rfl⟩))
    (fun os started H enc _ => chunkerStreams_lifted os started H enc)
theorem chunkerStreams_holds : Rows.ChunkerStreamsCardSaid :=
  Claim7.holds_tied_plain_at .later [] [.data, .data] true (true, "c75277d94642f5e917de79d24b1235023307ebb3e77abfdd9900d673d2cb0e14") false
    chunkerStreams_row (fun _ h => by cases h) (by kernel_rfl) (fun _ h => by cases h) chunkerStreams_row_tie rfl ⟨rfl, rfl⟩ (by kernel_rfl) rfl
    (fun f fn hf hfn => by
      obtain rfl : f = 9 := Option.some.inj ((show Tryd.prog.funcNamed "hayloft/hayloftlaw05.ChunkerStreams" = some 9 by kernel_rfl).symm.trans hf) |>.symm
      obtain rfl : fn = Tryd.f9 := (Option.some.inj (Tryd.func9.symm.trans hfn)).symm
      exact ⟨by kernel_rfl, fun j t ht => by
        rw [Tryd.params9] at ht
        have hm : t ∈ [41, 42] := by simpa using Array.mem_of_getElem? ht
        have hall : ([41, 42].all fun u => !Tryd.prog.wantsStandIn u) = true := by kernel_rfl
        exact (show Tryd.prog.wantsStandIn t = false by simpa using List.all_eq_true.1 hall t hm)⟩)
    (by kernel_rfl)
#print axioms chunkerStreams_holds
end Go.Proofs.YtognkonncfjneaaDoor
