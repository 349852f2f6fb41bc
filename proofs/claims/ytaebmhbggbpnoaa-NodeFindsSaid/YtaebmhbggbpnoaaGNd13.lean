/- The walk of GetFile (node). Conditions: each theorem's premises. -/
import Derived.Test.YtaebmhbggbpnoaaGNd12
namespace Go.Proofs.Ytaebmhbggbpnoaa
open Go.RowKit
theorem getF_cases (b : List UInt8) : getF b = 0 ∨ getF b = 3 := by unfold getF; split <;> simp
/-- What GetFile's answer says of an object. -/
def GetFile (w : World) (k : Int) (b : List UInt8) (e : Ending) (w' : World) : Prop := ∃ A n c, e = .returned (.tuple #[.agg #[.int .i64 (gfX k b).size, .slice A n c], .int .i64 (gfF k b)]) ∧ Hs w' (fun j => w.heap.size ≤ j) A n c (gfX k b).hs ∧ Below w.heap.size w w'
theorem GetFile.no {w w' : World} {k : Int} {b : List UInt8} {f : Int} (h : gotF k b = none) (hf : gfF k b = f) (hb : Below w.heap.size w w') : GetFile w k b (.returned (.tuple #[.agg #[.int .i64 0, .slice none 0 0], .int .i64 f])) w' := by
  have e : gfX k b = ⟨0, []⟩ := by unfold gfX; rw [h]; rfl
  exact ⟨none, 0, 0, by rw [e, hf], by rw [e]; exact Ls.nil _ _ _, hb⟩
set_option maxRecDepth 100000 in
set_option maxHeartbeats 1000000 in
theorem nd_getfile (w : World) (S : Nat → Prop) (k : Int) (A : Option Addr) (n c : Nat) (b : List UInt8) (hx : Bs w S A n c b) (hn : n ≤ 1000000000) : Calls Try.prog 54 #[.agg #[.int .i64 k, .slice A n c]] w (GetFile w k b) := by
  obtain ⟨W, hW⟩ : ∃ W, W = (w.alloc (.cells #[.int .i64 k, .slice A n c] 86)).alloc (.cells #[.int .i64 0, .slice none 0 0] 89) := ⟨_, rfl⟩
  have HB : Hid (∀ w', Below W.heap.size W w' → Below w.heap.size w w' ∧ Blk w' w.heap.size 86 #[.int .i64 k, .slice A n c] ∧ Blk w' (w.heap.size + 1) 89 #[.int .i64 0, .slice none 0 0]) := Lib.hid fun w' h => by
    have h0 : Below w.heap.size w W := by rw [hW]; exact ((Below.refl _ _).alloc (Nat.le_refl _) _).alloc (by simp) _
    exact ⟨h0.trans (h.mono h0.size), Blk.below (by rw [hW]; exact (Blk.new w 86 _).alloc _) h (by rw [hW]; simp; omega), Blk.below (by rw [hW]; exact blk_new' (by simp)) h (by rw [hW]; simp)⟩
  have HSZ : Hid (W.heap.size = w.heap.size + 2) := Lib.hid (by rw [hW]; simp)
  have HX := Lib.hid hx
  have HLN := Lib.hid hx.len
  clear hx
  go_enter Try.func54, Try.ntmps54
  by_cases hk : k = 2
  · subst hk
    go_wp2_with fail
    rw [← hW]
    clear hW
    obtain ⟨p0, p1, -⟩ := (HB.out W (Below.refl _ _)).2.1.two
    go_wp2_with fail
    refine (get_any W _ A n c b (HX.out.after (HB.out W (Below.refl _ _)).1) hn).mono ?_
    rintro e w1 ⟨q, rfl, hv, hb1⟩
    have HB1 := Lib.hid hb1
    have HV := Lib.hid hv
    obtain ⟨u, m, z1, z2, P1, P2, i1, i2, i3, i4, rfl, -⟩ := hv.opens
    obtain ⟨hbw1, hk1, hk2⟩ := HB.out w1 hb1
    have HBW1 := Lib.hid hbw1
    have HZ1 : Hid (w.heap.size + 2 ≤ w1.heap.size) := Lib.hid (by have := HSZ.out; have := hb1.size; omega)
    have HALL : Hid (∀ w', Below w1.heap.size w1 w' → Blk w' w.heap.size 86 #[.int .i64 2, .slice A n c] ∧ Blk w' (w.heap.size + 1) 89 #[.int .i64 0, .slice none 0 0]) := Lib.hid fun w' h => ⟨hk1.after h, hk2.after h⟩
    obtain ⟨F, hF⟩ : ∃ F, F = getF b := ⟨_, rfl⟩
    rw [← hF]
    have HF := Lib.hid hF
    clear hb1 hbw1 hk1 hk2 hv hF p0 p1
    dsimp only [Quad.agg]
    go_wp2_with fail
    obtain ⟨W2, hW2⟩ : ∃ W2, W2 = w1.alloc (.cells #[.int .i64 u, .int .u64 (m : Int), .slice P1 i1 i2, .slice P2 i3 i4] 27) := ⟨_, rfl⟩
    have HB2 : Hid (Below w1.heap.size w1 W2) := Lib.hid (by rw [hW2]; exact (Below.refl _ _).alloc (Nat.le_refl _) _)
    rw [← hW2]
    clear hW2
    refine (nd_asfile W2 _ _ _ (HV.out.after HB2.out)).mono ?_
    rintro e w3 ⟨A3, n3, c3, sz, rfl, hsome, hb3⟩
    have HSOME := Lib.hid hsome
    have HB3 : Hid (Below w1.heap.size w1 w3) := Lib.hid (HB2.out.trans (hb3.mono HB2.out.size))
    have HZ2 : Hid (w1.heap.size ≤ W2.heap.size) := Lib.hid HB2.out.size
    clear hsome hb3
    obtain ⟨hk1, hk2⟩ := HALL.out (w3.alloc (.cells #[.int .i64 sz, .slice A3 n3 c3] 89)) (HB3.out.alloc HB3.out.size _)
    obtain ⟨p0, p1, -⟩ := hk1.two
    obtain ⟨q0, q1, q2, q3, -⟩ := hk2.two
    have HK2 := Lib.hid hk2
    have HBF : Hid (Below w.heap.size w (w3.alloc (.cells #[.int .i64 sz, .slice A3 n3 c3] 89))) := Lib.hid (HBW1.out.trans ((HB3.out.alloc HB3.out.size _).mono HBW1.out.size))
    clear hk1 hk2
    by_cases hf : F = 0
    · subst hf
      obtain ⟨I, hI⟩ : ∃ I, I = (asFileT (getV b)).isSome := ⟨_, rfl⟩
      rw [← hI]
      have HI := Lib.hid hI
      clear hI
      cases I with
      | true =>
        by_cases hl : n ≤ 5000
        · have hl' : decide ((5000 : Int) < (n : Int)) = false := by simp; omega
          have HG : Hid (∃ x, gotF 2 b = some x ∧ asFileT (getV b) = some x) := Lib.hid (by
            obtain ⟨x, hx⟩ := Option.isSome_iff_exists.1 HI.out.symm
            exact ⟨x, by unfold gotF; rw [if_pos ⟨rfl, HF.out.symm, by rw [HLN.out]; exact hl⟩]; exact hx, hx⟩)
          go_wp2_with fail
          refine bodyPost_ret (results_cell2 rfl rfl (load89 (set2_blk HK2.out _ _))) rfl ?_
          obtain ⟨x, hg, hx⟩ := HG.out
          obtain ⟨h1, h2⟩ := gfF_some hg
          obtain ⟨h3, h4⟩ := HSOME.out x hx
          refine ⟨A3, n3, c3, by rw [h1, h2, h3]; rfl, ?_, set2_below HBF.out _ (Nat.le_succ _) _ _⟩
          rw [h2]
          exact (h4.after (w' := w3.alloc (.cells #[.int .i64 sz, .slice A3 n3 c3] 89)) (by omega) ((Below.refl _ _).alloc (Nat.le_refl _) _)).keep (by omega) (fun p hp _ => set2_other _ _ _ _ p (by have := HZ1.out; have := HZ2.out; omega)) (fun j hj _ => by have := HZ1.out; have := HZ2.out; omega)
        · have hl' : decide ((5000 : Int) < (n : Int)) = true := by simp; omega
          have HG : Hid (gotF 2 b = none) := Lib.hid (if_neg (fun e => hl (by rw [← HLN.out]; exact e.2.2)))
          go_wp2_with fail
          exact bodyPost_ret (results_cell2 rfl rfl (load89 (set2_blk HK2.out _ _))) rfl (GetFile.no HG.out (by unfold gfF; rw [if_pos rfl, HG.out]; rfl) (set2_below HBF.out _ (Nat.le_succ _) _ _))
      | false =>
        have HG : Hid (gotF 2 b = none) := Lib.hid (by
          have h : asFileT (getV b) = none := Option.isSome_eq_false_iff.1 HI.out.symm |> Option.isNone_iff_eq_none.1
          unfold gotF
          split
          · exact h
          · rfl)
        go_wp2_with fail
        exact bodyPost_ret (results_cell2 rfl rfl (load89 (set2_blk HK2.out _ _))) rfl (GetFile.no HG.out (by unfold gfF; rw [if_pos rfl, HG.out]; rfl) (set2_below HBF.out _ (Nat.le_succ _) _ _))
    · have HG : Hid (gotF 2 b = none) := Lib.hid (if_neg (fun e => hf (by rw [HF.out]; exact e.2.1)))
      have hf' : (F != 0) = true := by simpa using hf
      clear hf
      go_wp2_with fail
      exact bodyPost_ret (results_cell2 rfl rfl (load89 (set2_blk HK2.out _ _))) rfl (GetFile.no HG.out (by unfold gfF; rw [if_pos rfl, HG.out]; rfl) (set2_below HBF.out _ (Nat.le_succ _) _ _))
  · have hk' : (k != 2) = true := by simpa using hk
    have HG : Hid (gotF k b = none ∧ gfF k b = 1) := Lib.hid ⟨if_neg (fun e => hk e.1), if_neg hk⟩
    have HK := Lib.hid (HB.out W (Below.refl _ _))
    clear hk
    obtain ⟨q0, q1, q2, q3, -⟩ := HK.out.2.2.two
    rw [hW] at q0 q1 q2 q3
    go_wp2_with fail
    rw [← hW]
    exact bodyPost_ret (results_cell2 rfl rfl (load89 HK.out.2.2)) rfl (GetFile.no HG.out.1 HG.out.2 HK.out.1)
end Go.Proofs.Ytaebmhbggbpnoaa
