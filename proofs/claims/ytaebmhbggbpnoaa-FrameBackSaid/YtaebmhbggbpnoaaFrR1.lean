/- A range over a function whose iterator may turn one block that lay ahead of the loop (a gear that it fills). Conditions: the theorem's premises. -/
import Derived.RangeFuncNested
import Derived.RangeFuncBound
import Derived.RangeFuncCalls
import Derived.RangeFuncLeaves
import Derived.RangeFuncWrites
import Derived.OrdersHeld
import Derived.OrdersIn
import Derived.TacticsIn
import Derived.Deep.RegionHeld
import Derived.Test.YtaebmhbggbpnoaaRows
import Derived.Shelf.Abstract
import Derived.WalkKit
namespace Go.Proofs.Ytaebmhbggbpnoaa
open Go.RowKit
/-- What is said of lists and worlds abides a turn of block bg that leaves it good. -/
def Turns (bg : Nat) (Gd : World → Prop) (J : Nat → World → Prop) : Prop := ∀ pre W W', J pre W → W.grownBy W' (some bg) → Gd W' → J pre W'
/-- The iterator's word. -/
def Hands (F : Fence) (n : Nat) (P : Program) (gf : Nat) (lb : Array Value) (E : Nat → World → World → Array Value → Prop) (Kp : World → World → Prop) (N : Nat) (bg : Nat) (Gd : World → Prop) (w : World) : Prop :=
  ∀ (l : Nat) (J Jx : Nat → World → Prop) (W : World), Below w.heap.size w W → Turns bg Gd J → Turns bg Gd Jx →
    (∀ k W0 W1 x, J k W0 → J k W1 → k < N → E k W0 W1 x → YieldAt F (n - 1) P l x W1 fun e W' => (e = .returned (.bool true) ∧ J (k + 1) W' ∧ Kp W1 W') ∨ (e = .returned (.bool false) ∧ Jx (k + 1) W')) →
    J 0 W → CallsIn F n P gf (#[.func (.yield l) #[] #[]] ++ lb) W fun e W' => (∃ v, e = .returned v) ∧ (J N W' ∨ ∃ k, 0 < k ∧ k ≤ N ∧ Jx k W')
/-- What abides the loop's own marks: blocks at B and beyond that are no cells. -/
def Marks (B : Nat) (J : Nat → World → Prop) : Prop := (∀ pre W l o o', J pre W → B ≤ l → W.heap[l]? = some o → o.isCells = false → J pre (W.putObj l o')) ∧ ∀ pre W o, J pre W → J pre (W.alloc o)
/-- How a round's body may end. -/
def RoundEnd (B : Nat) (Kp : World → World → Prop) (I : Nat → World → Prop) (Ix : Code → Nat → World → Prop) (xs : Nat) (W : World) : Exit → Act → World → Prop
  | .normal, _, W' => KeepsFrom B W W' ∧ Kp W W' ∧ I xs W'
  | .ret, _, W' => KeepsFrom B W W' ∧ Ix .ret xs W'
  | .exit id, _, W' => KeepsFrom B W W' ∧ Ix (.exit id) xs W'
  | .goto _, _, _ => False
  | .panic _, _, _ => False
  | .outgrown, _, _ => False
variable {F : Fence} {n : Nat} {P : Program}
theorem range_turns {g : Operand} {ps : Array Tmp} {assign body : Code} {Q : Exit → Act → World → Prop} {a : Act} {w w0 : World}
    (hro : F.round = none) (h1 : 1 ≤ n) {gf : Nat} {lb : Array Value} (hg : a.eval g = .func (.func gf) #[] lb) (hF : F.fn gf) (eg : ∀ args w, (callFunc gf args).run P w = .ok (.enter gf args) w)
    {E : Nat → World → World → Array Value → Prop} {Kp : World → World → Prop} {N bg : Nat} {Gd : World → Prop} (hseq : Hands F (n - 1) P gf lb E Kp N bg Gd w0)
    (hKt : ∀ {A B C : World}, Kp A B → Kp B C → Kp A C) (hKb : ∀ (W : World) (l : Nat) (o o' : Obj), w.heap.size ≤ l → W.heap[l]? = some o → o.isCells = false → Kp W (W.putObj l o'))
    (hb0 : Below w0.heap.size w0 w) (hbg : bg < w.heap.size) (hps : ∀ k W0 W x, E k W0 W x → x.size = ps.size)
    (I : Nat → World → Prop) (Ix : Code → Nat → World → Prop) (hIt : Turns bg Gd I) (hIm : Marks w.heap.size I) (hXt : ∀ c, Turns bg Gd (Ix c)) (hXm : ∀ c, Marks w.heap.size (Ix c)) (h0 : I 0 w) (Ia : Nat → Array Value → Act → World → Prop) (hIam : ∀ k x a W l o o', Ia k x a W → w.heap.size ≤ l → W.heap[l]? = some o → o.isCells = false → o'.isCells = false → Ia k x a (W.putObj l o'))
    (hassign : ∀ (l k : Nat) (x : Array Value) (W0 W : World) (K : Act → World → Prop), I k W0 → I k W → k < N → E k W0 W x → (∀ a' W', Ia k x a' W' → KeepsFrom w.heap.size W W' → Kp W W' → K a' W') →
      assign.wpIn (F.inRound l) (n - 1 - 1) P (Exit.then K (fun _ _ _ => False)) { tmps := (ps.zip x).foldl (fun t (p, v) => t.setIfInBounds p v) a.tmps, defers := [] } W)
    (hbody : ∀ (l k : Nat) (x : Array Value) (a' : Act) (W : World), Ia k x a' W → k < N → body.wpIn (F.inRound l) (n - 1 - 1) P (RoundEnd w.heap.size Kp I Ix (k + 1) W) a' W)
    (hdone : ∀ (D : Nat) (W : World), w.heap.size ≤ D → I N W → W.heap[D]? = some (.deferred (some [])) → Q .normal { a with defers := { target := .collected D, args := #[] } :: a.defers } W)
    (hstop : ∀ (D : Nat) (c : Code) (k : Nat) (W : World), w.heap.size ≤ D → 0 < k → k ≤ N → Ix c k W → W.heap[D]? = some (.deferred (some [])) → c.wpIn F n P Q { a with defers := { target := .collected D, args := #[] } :: a.defers } W) :
    (Code.rangeFunc g ps assign body).wpIn F n P Q a w := by
  refine wpIn_rangeFunc fun fn hfn => ?_
  obtain ⟨D, hD⟩ : ∃ D, D = w.heap.size := ⟨_, rfl⟩
  obtain ⟨rec, hrec⟩ : ∃ rec : LoopState → Option Code → Loop, rec = fun st pe => { state := st, pending := pe, fn, tmps := a.tmps, params := ps, assign, body, defers := D } := ⟨_, rfl⟩
  obtain ⟨W1, hW1⟩ : ∃ W1, W1 = (w.alloc (.deferred (some []))).alloc (.loop (rec .ready none)) := ⟨_, rfl⟩
  have q1 : W1.heap[D + 1]? = some (.loop (rec .ready none)) := by
    rw [hW1, hD]
    simpa only [World.size_alloc] using World.alloc_heap_new (w.alloc (.deferred (some []))) (.loop (rec .ready none))
  have q0 : W1.heap[D]? = some (.deferred (some [])) := by
    rw [hW1, hD]
    exact (Below.heap_alloc _ _ _ (by simp)).trans (World.alloc_heap_new w _)
  have hi1 : I 0 W1 := by rw [hW1]; exact hIm.2 _ _ _ (hIm.2 _ _ _ h0)
  have hbw : Below w.heap.size w W1 := by rw [hW1]; exact ((Below.refl _ w).alloc (Nat.le_refl _) _).alloc (by simp) _
  have hb1 : Below w0.heap.size w0 W1 := hb0.trans (hbw.mono hb0.size)
  rw [hro]
  refine ⟨D + 1, [{ target := .collected D, args := #[] }], W1, { target := .fn (.func gf) lb, args := #[.func (.yield (D + 1)) #[] #[]] }, W1, gf, #[.func (.yield (D + 1)) #[] #[]] ++ lb, W1, ?_, ?_, ?_, ?_, fun _ => h1, ?_⟩
  · rw [hW1, hrec, hD]
    exact run_enterLoop_outer _ _ _ _ _
  · simp only [resolve, hg]
    simp [go_sem]
  · intro f' hf'
    simp [Target.leads] at hf'
    subst hf'
    exact hF
  · simp [invoke, go_sem, eg]
  have still : ∀ {W W' : World} {k : Nat} {o : Obj}, D ≤ k → W.heap[k]? = some o → W.grownBy W' (some bg) → W'.heap[k]? = some o := fun hk ho hgr =>
    (hgr.block _ (Array.getElem?_eq_some_iff.1 ho).1 (by intro e; injection e with e; omega)).trans ho
  refine (hseq (D + 1)
    (fun pre W => I pre W ∧ W.heap[D + 1]? = some (.loop (rec .ready none)) ∧ W.heap[D]? = some (.deferred (some [])))
    (fun pre W => ∃ c, Ix c pre W ∧ W.heap[D + 1]? = some (.loop (rec .done (some c))) ∧ W.heap[D]? = some (.deferred (some []))) W1 hb1
    (fun pre W W' h hgr hgd => ⟨hIt _ _ _ h.1 hgr hgd, still (by omega) h.2.1 hgr, still (Nat.le_refl _) h.2.2 hgr⟩)
    (fun pre W W' h hgr hgd => by
      obtain ⟨c, h1, h2, h3⟩ := h
      exact ⟨c, hXt c _ _ _ h1 hgr hgd, still (by omega) h2 hgr, still (Nat.le_refl _) h3 hgr⟩) ?_ ⟨hi1, q1, q0⟩).mono ?_
  · rintro k0 W0 W x ⟨hi0, -, -⟩ ⟨hi, hl, hk⟩ hlen hE
    have hy := run_yield (P := P) (args := x) hl (by rw [hrec]; exact hps _ _ _ _ hE)
    rw [hrec] at hy
    refine ⟨fn, _, assign, body, hy, roundIn_of_wpIn hfn (hassign _ k0 x W0 W _ hi0 hi hlen hE (fun a1 Wa hIa hka hkpa => ?_))⟩
    have hla := hka.same _ _ (by omega) hl rfl
    have hka0 := hka.same _ _ (by omega) hk rfl
    have hlt : D + 1 < Wa.heap.size := (Array.getElem?_eq_some_iff.1 hla).1
    refine ⟨_, run_beginRound hla (by rw [hrec]), ?_⟩
    obtain ⟨W2, hW2⟩ : ∃ W2, W2 = Wa.putObj (D + 1) (.loop { rec .ready none with state := .busy }) := ⟨_, rfl⟩
    rw [← hW2]
    have hl2 : W2.heap[D + 1]? = some (.loop { rec .ready none with state := .busy }) := by rw [hW2]; exact World.putObj_heap_same hlt
    have hk2 : W2.heap[D]? = some (.deferred (some [])) := by rw [hW2]; exact (World.putObj_heap_other (by omega)).trans hka0
    have hw2 : Kp W W2 := hKt hkpa (by rw [hW2]; exact hKb _ _ _ _ (by omega) hla rfl)
    have hi2 : Ia k0 x a1 W2 := by rw [hW2]; exact hIam _ _ _ _ _ _ _ hIa (by omega) hla rfl rfl
    refine wpIn_mono (hbody _ k0 x a1 _ hi2 hlen) ?_
    have fin : ∀ (jump : Option Code) (W3 : World), KeepsFrom w.heap.size W2 W3 → ∃ W4, W4 = W3.putObj (D + 1) (.loop (rec (if jump.isNone then .ready else .done) jump)) ∧
        (Instr.endRound (D + 1) jump).run P W3 = .ok (.bool jump.isNone) W4 ∧ W3.heap[D + 1]? = some (.loop { rec .ready none with state := .busy }) ∧
        W4.heap[D + 1]? = some (.loop (rec (if jump.isNone then .ready else .done) jump)) ∧ W4.heap[D]? = some (.deferred (some [])) := fun jump W3 hk3 => by
      have hl3 := hk3.same _ _ (by omega) hl2 rfl
      refine ⟨_, rfl, ?_, hl3, World.putObj_heap_same (Array.getElem?_eq_some_iff.1 hl3).1, (World.putObj_heap_other (by omega)).trans (hk3.same _ _ (by omega) hk2 rfl)⟩
      have := run_endRound (P := P) jump hl3
      rw [hrec] at this ⊢
      exact this
    rintro e a3 W3 hp
    cases e with
    | normal =>
      obtain ⟨hk3, hkp3, hi3⟩ := hp
      obtain ⟨W4, hW4, hr, hl3, hl4, hk4⟩ := fin none W3 hk3
      exact ⟨_, _, hr, .inl ⟨rfl, ⟨by rw [hW4]; exact hIm.1 _ _ _ _ _ hi3 (by omega) hl3 rfl, hl4, hk4⟩, hKt (hKt hw2 hkp3) (by rw [hW4]; exact hKb _ _ _ _ (by omega) hl3 rfl)⟩⟩
    | ret =>
      obtain ⟨hk3, hi3⟩ := hp
      obtain ⟨W4, hW4, hr, hl3, hl4, hk4⟩ := fin (some .ret) W3 hk3
      exact ⟨_, _, hr, .inr ⟨rfl, .ret, by rw [hW4]; exact (hXm _).1 _ _ _ _ _ hi3 (by omega) hl3 rfl, hl4, hk4⟩⟩
    | exit id =>
      obtain ⟨hk3, hi3⟩ := hp
      obtain ⟨W4, hW4, hr, hl3, hl4, hk4⟩ := fin (some (.exit id)) W3 hk3
      exact ⟨_, _, hr, .inr ⟨rfl, .exit id, by rw [hW4]; exact (hXm _).1 _ _ _ _ _ hi3 (by omega) hl3 rfl, hl4, hk4⟩⟩
    | goto t => exact hp.elim
    | panic ch => exact hp.elim
    | outgrown => exact hp.elim
  · rintro e W2 ⟨⟨v, rfl⟩, (⟨hi, hl, hk⟩ | ⟨k, hk0, hkN, c, hi, hl, hk⟩)⟩
    · have he := run_endLoop (P := P) hl (by rw [hrec]; simp)
      rw [hrec] at he
      exact ⟨none, _, he, hdone D _ (by omega) (hIm.1 _ _ _ _ _ hi (by omega) hl rfl) ((World.putObj_heap_other (by omega)).trans hk)⟩
    · have he := run_endLoop (P := P) hl (by rw [hrec]; simp)
      rw [hrec] at he
      exact ⟨some c, _, he, hstop D c k _ (by omega) hk0 hkN ((hXm c).1 _ _ _ _ _ hi (by omega) hl rfl) ((World.putObj_heap_other (by omega)).trans hk)⟩
/-! ### What runs in a round is walked as elsewhere -/
def plainOp (o : Oper) : Bool := match o.op with | .defer _ => false | _ => true
theorem plainOp_spec {o : Oper} (h : plainOp o = true) : ∀ c, o.op ≠ .defer c := fun c e => by
  unfold plainOp at h
  rw [e] at h
  cases h
section
variable {P : Program} {n l : Nat} {ops : Array Oper} {md : Region.Mode} {Q : Exit → Act → World → Prop}
theorem opIn_of_op {o : Oper} {a : Act} {w : World} {K : Act → World → Prop} (hp : plainOp o = true) (h : o.wp P a w K Q) : o.wpIn (Fence.wide.inRound l) n P a w K Q := by
  unfold Oper.wp at h
  unfold Oper.wpIn
  refine ⟨fun _ _ => trivial, ?_⟩
  rw [Oper.semAt_eq _ _ _ (plainOp_spec hp)]
  generalize (execOp a.eval o).run P w = r at *
  cases r with
  | ok x w' =>
    cases x <;> first
      | exact h
      | exact ⟨(fun h0 => by exact absurd h0 (by simp [Fence.wide, Fence.inRound])), callsIn_wide (n := n - 1) |>.2 h⟩
      | exact ⟨(fun h0 => by exact absurd h0 (by simp [Fence.wide, Fence.inRound])), fun c cs _ => let ⟨v, w', r, s⟩ := h c cs; ⟨v, w', r, stepsIn_wide.2 s⟩⟩
      | exact h.elim
  | halt x w' => cases x <;> exact h
theorem listIn_of_list (hlo : ¬ LetsOut Q) : ∀ (l' : List Oper) (a : Act) (w : World), l'.all plainOp = true → wpList P ops Q l' a w → wpListIn (Fence.wide.inRound l) n P ops Q l' a w
  | [], _, _, _, h => h
  | o :: rest, a, w, hp, h => by
    rw [List.all_cons, Bool.and_eq_true] at hp
    unfold wpList at h
    unfold wpListIn
    split
    · rename_i hw
      rw [if_pos hw] at h
      rcases h with h | h
      · exact Oper.wpIn_mono (fun a' w' h' => listIn_of_list hlo rest a' w' hp.2 h') (opIn_of_op hp.1 h)
      · exact absurd h.2 hlo
    · rename_i hw
      rw [if_neg hw] at h
      exact ⟨fun _ _ => trivial, listIn_of_list hlo rest _ w hp.2 h⟩
theorem anyIn_of_any (hlo : ¬ LetsOut Q) (hp : ∀ (i : Nat) (o : Oper), ops[i]? = some o → plainOp o = true) : ∀ (fuel : Nat) (listed : Array Bool) (a : Act) (w : World), wpAny P md ops Q fuel listed a w → wpAnyIn (Fence.wide.inRound l) n P md ops Q fuel listed a w
  | 0, _, _, _, h => h
  | fuel + 1, listed, a, w, h => by
    refine ⟨h.1, fun i hi => ?_⟩
    have h2 := wpOp_mono (fun a' w' h3 => anyIn_of_any hlo hp fuel (listed.setIfInBounds i true) a' w' h3) (h.2 i hi)
    unfold wpOp at h2
    unfold wpOpIn
    cases ho : ops[i]? with
    | none => simpa only [ho] using h2
    | some o =>
      simp only [ho] at h2 ⊢
      split at h2
      · rename_i hw
        rw [if_pos hw]
        rcases h2 with h2 | h2
        · exact opIn_of_op (hp i o ho) h2
        · exact absurd h2.2 hlo
      · rename_i hw
        rw [if_neg hw]
        exact ⟨fun _ _ => trivial, h2⟩
/-- A region with its order, in a round. -/
theorem regionIn_list {id : Nat} {l' : List Oper} {a : Act} {w : World} (hlo : ¬ LetsOut Q) (hp : l'.all plainOp = true) (h : wpList P l'.toArray Q l' a w) : (Code.region id l'.toArray false).wpIn (Fence.wide.inRound l) n P Q a w := wpIn_region_lit (listIn_of_list hlo _ _ _ hp h)
/-- A region that draws its order, in a round. -/
theorem regionIn_any {id : Nat} {l' : List Oper} {a : Act} {w : World} (hm : P.follows .mixedOrders = true) (hlo : ¬ LetsOut Q) (hp : l'.all plainOp = true) (h : wpAny P .any l'.toArray Q l'.toArray.size (Array.replicate l'.toArray.size false) a { w with drawn := w.drawn + 1 }) : (Code.region id l'.toArray true).wpIn (Fence.wide.inRound l) n P Q a w :=
  wpIn_region_any hm (anyIn_of_any hlo (fun i o ho => List.all_eq_true.1 hp o (List.mem_of_getElem? (by simpa using ho))) _ _ _ _ h)
end
end Go.Proofs.Ytaebmhbggbpnoaa
