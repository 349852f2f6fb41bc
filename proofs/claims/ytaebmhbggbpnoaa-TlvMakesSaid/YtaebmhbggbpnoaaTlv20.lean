/- Lists of values that grow by two at a time; a value of bytes that is the call's own. Conditions: each theorem's premises. -/
import Derived.Test.YtaebmhbggbpnoaaTlv17
namespace Go.Proofs.Ytaebmhbggbpnoaa
open Go.RowKit
set_option maxRecDepth 10000 in
set_option maxHeartbeats 400000 in
theorem bytesV_own (w : World) (S : Nat → Prop) (A : Option Addr) (n c : Nat) (xs : List UInt8) (hx : Bs w S A n c xs) (hn : n ≤ 1000000000) :
    Calls Try.prog 28 #[.slice A n c] w fun e w' => ∃ A1 c1, e = .returned (.agg #[.int .i64 2, .int .u64 0, .slice A1 n c1, .slice none 0 0]) ∧ VR w' (fun k => w.heap.size ≤ k) ⟨.int .i64 2, .int .u64 ((0 : Nat) : Int), .slice A1 n c1, .slice none 0 0⟩ (.mk 2 0 xs []) ∧ Below w.heap.size w w' := by
  have u0 : u64ok 0 := by simp [u64ok]
  go_enter Try.func28, Try.ntmps28
  go_wp2_with (go_at_call 88; refine (clone_any _ S _ _ _ _ (hx.after ((Below.refl _ _).alloc (Nat.le_refl _) _)) hn).mono ?_; rintro e w1 ⟨A1, c1, rfl, hown, hb⟩; simp only [World.size_alloc] at hb; obtain ⟨h0, h1, h2, h3, f0, f1, f2, f3, hz⟩ := box4 hb)
  refine bodyPost_ret (v := .agg #[.int .i64 2, .int .u64 0, .slice A1 n c1, .slice none 0 0]) (by simp [results, Try.results28, go_sem, h0, h1, h2, h3]) rfl ?_
  have hb1 : Below w.heap.size w w1 := ((Below.refl _ _).alloc (Nat.le_refl _) _).trans (hb.mono (by omega))
  obtain ⟨A', c', e, hbs⟩ := own_bs hown
  cases e
  exact ⟨A1, c1, rfl,
    VR.shut u0 (hbs.keep (S' := fun k => w.heap.size ≤ k) (fun p hp _ => set4_other _ _ _ _ _ _ p (by simp only [World.size_alloc] at hp; omega)) (fun k hk _ => by simp only [World.size_alloc] at hk; omega)) hn (LR.nil _ _ _), set4_below hb1 _ (Nat.le_refl _) _ _ _ _⟩
section
variable {w w' : World} {T : Nat → Prop} {base n : Nat} {e : TypeId} {v : Value} {l : List TV}
/-- Some values more. -/
theorem LO.more {v' : Value} {m : Nat} {ps : List Quad} {xs : List TV} {qs : List Quad} (hq : qs.length = l.length) (hl : l.length = n) (hp : ps.length = m) (hxl : xs.length = m) (hf : n + m ≤ 1000000000) (hown : w'.ownsRow base e 4 v' (n + m) (flat qs ++ flat ps)) (hg : w.grownBy w' v.ownBlock)
    (hat : v'.ownBlock = v.ownBlock ∨ v'.ownBlock = some w.heap.size) (hv : ∀ (i : Nat) (q : Quad) (x : TV), qs[i]? = some q → l[i]? = some x → VR w (fun k => T k ∧ some k ≠ v.ownBlock) q x)
    (hx : ∀ (i : Nat) (q : Quad) (x : TV), ps[i]? = some q → xs[i]? = some x → VR w (fun k => T k ∧ some k ≠ v.ownBlock) q x) : LO w' T base e v' (n + m) (l ++ xs) := by
  have hkeep : ∀ {q : Quad} {x : TV}, VR w (fun k => T k ∧ some k ≠ v.ownBlock) q x → VR w' (fun k => T k ∧ some k ≠ v'.ownBlock) q x := fun h =>
    h.keep (fun p hp hlt => World.cell?_of_block (hg.block p.block hlt hp.2)) (fun k hk hlt => ⟨hk.1, by
      rcases hat with e | e
      · rw [e]; exact hk.2
      · rw [e]; intro h; injection h with h; omega⟩)
  refine ⟨by simp [hl, hxl], hf, qs ++ ps, by simp [hq, hp, hxl], by rw [flat_append]; exact hown, fun i p y h1 h2 => ?_⟩
  rcases Nat.lt_or_ge i qs.length with hi | hi
  · rw [List.getElem?_append_left hi] at h1
    rw [List.getElem?_append_left (by omega)] at h2
    exact hkeep (hv i p y h1 h2)
  · rw [List.getElem?_append_right hi] at h1
    rw [List.getElem?_append_right (by omega), ← hq] at h2
    exact hkeep (hx _ p y h1 h2)
theorem LO.ready2 {w2 : World} {S : Nat → Prop} {e' : TypeId} {q1 q2 : Quad} {x1 x2 : TV} (h : LO w T base e v n l) (hb : Below w.heap.size w w2) (h1 : VR w2 S q1 x1) (h2 : VR w2 S q2 x2) (hS : ∀ k, S k → k < w2.heap.size → T k ∧ some k ≠ v.ownBlock) :
    ∃ qs : List Quad, qs.length = l.length ∧ (w2.alloc (.cells #[q1.a, q1.b, q1.c, q1.d, q2.a, q2.b, q2.c, q2.d] e')).ownsRow base e 4 v n (flat qs) ∧
      (∀ (i : Nat) (p : Quad) (y : TV), qs[i]? = some p → l[i]? = some y → VR (w2.alloc (.cells #[q1.a, q1.b, q1.c, q1.d, q2.a, q2.b, q2.c, q2.d] e')) (fun k => T k ∧ some k ≠ v.ownBlock) p y) ∧
      (∀ (i : Nat) (p : Quad) (y : TV), [q1, q2][i]? = some p → [x1, x2][i]? = some y → VR (w2.alloc (.cells #[q1.a, q1.b, q1.c, q1.d, q2.a, q2.b, q2.c, q2.d] e')) (fun k => T k ∧ some k ≠ v.ownBlock) p y) ∧
      Reads (w2.alloc (.cells #[q1.a, q1.b, q1.c, q1.d, q2.a, q2.b, q2.c, q2.d] e')) AnyB 4 (some ⟨w2.heap.size, 0, none⟩) 2 (flat [q1, q2]) ∧ ∀ u ∈ flat [q1, q2], u.oneCell' = true := by
  have hb2 : Below w.heap.size w (w2.alloc (.cells #[q1.a, q1.b, q1.c, q1.d, q2.a, q2.b, q2.c, q2.d] e')) := hb.alloc hb.size _
  obtain ⟨hl, hf, qs, hq, hown, hv⟩ := h
  refine ⟨qs, hq, own_below hown hb2 (Nat.le_refl _), fun i p y g1 g2 => ?_, fun i p y g1 g2 => ?_, ?_, fun u hu => ?_⟩
  · exact ((hv i p y g1 g2).after (hb.alloc hb.size _))
  · match i with
    | 0 => simp at g1 g2; subst g1; subst g2; exact h1.keep (fun p _ hlt => World.cell?_alloc_lt _ _ _ hlt) hS
    | 1 => simp at g1 g2; subst g1; subst g2; exact h2.keep (fun p _ hlt => World.cell?_alloc_lt _ _ _ hlt) hS
    | i + 2 => simp at g1
  · exact reads_lit4 w2 _ e' 2 rfl
  · have : u ∈ q1.cells ∨ u ∈ q2.cells := by simpa [flat] using hu
    rcases this with hu | hu
    · exact h1.cells_one u hu
    · exact h2.cells_one u hu
end
/-- The size of a list of pairs. -/
def pairsT (n : Nat) (b : List UInt8) : Nat → List TV
  | 0 => []
  | k + 1 => pairsT n b k ++ [.mk 1 n [] [], .mk 2 0 b []]
theorem pairs_len (n : Nat) (b : List UInt8) (k : Nat) : (pairsT n b k).length = 2 * k := by
  induction k with
  | zero => rfl
  | succ k ih => simp [pairsT, ih]; omega
theorem num_body (d n : Nat) (h : n < 18446744073709551616) : bodyT d (.mk 1 n [] []) = some (numE n) := by
  have := numE_len8 n h
  cases d <;> simp [bodyT, onlyT, formsT, fitT] <;> omega
theorem bytes_body (d : Nat) (b : List UInt8) (h : b.length ≤ 3000) : bodyT d (.mk 2 0 b []) = some b := by
  cases d <;> simp [bodyT, onlyT, formsT, fitT, numE_zero] <;> omega
theorem pairs_forms (d n : Nat) (b : List UInt8) (hn : n < 18446744073709551616) (hb : b.length ≤ 3000) (k : Nat) : ∃ x, formsT (putT d) (pairsT n b k) = some x ∧ x.length = k * ((numE n).length + 3 + (b.length + 3)) := by
  induction k with
  | zero => exact ⟨[], rfl, by simp⟩
  | succ k ih =>
    obtain ⟨x, h1, h2⟩ := ih
    refine ⟨x ++ (headT 1 (numE n) ++ numE n) ++ (headT 2 b ++ b), ?_, ?_⟩
    · have e : pairsT n b (k + 1) = (pairsT n b k ++ [.mk 1 n [] []]) ++ [.mk 2 0 b []] := by simp [pairsT]
      rw [e, formsT_snoc, formsT_snoc, h1, putT_some (num_body d n hn), putT_some (bytes_body d b hb)]
      rfl
    · simp [headT, h2, Nat.add_mul]; omega
end Go.Proofs.Ytaebmhbggbpnoaa
