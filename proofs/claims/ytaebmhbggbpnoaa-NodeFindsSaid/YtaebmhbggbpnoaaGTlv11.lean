/- The walk of Back (hayloftlaw01). Conditions: each theorem's premises. -/
import Derived.Test.YtaebmhbggbpnoaaGTlv10
import Derived.Deep.RegionLaw
namespace Go.Proofs.Ytaebmhbggbpnoaa
open Go.RowKit
def BackPost (w : World) (S : Nat → Prop) (v : TV) (e : Ending) (w' : World) : Prop := ∃ q, e = .returned q.agg ∧ VR w' (fun k => S k ∨ w.heap.size ≤ k) q v ∧ Below w.heap.size w w'
theorem ready_side {w wr : World} {S : Nat → Prop} {e : TypeId} {v : Value} {n m : Nat} {l : List TV} {T : Nat → Prop} (h : LO wr.drew T (w.heap.size + 3) e v n l) (hs : w.heap.size + 3 ≤ wr.heap.size) :
    ∀ k, ((S k ∧ k < w.heap.size) ∨ wr.drew.heap.size ≤ k) → k < m → ((S k ∧ k < w.heap.size) ∨ w.heap.size + 3 ≤ k) ∧ some k ≠ v.ownBlock := by
  obtain ⟨_, _, _, _, ho, _⟩ := h
  intro k hk _
  refine ⟨?_, fun he => ?_⟩
  · rcases hk with hk | hk
    · exact .inl hk
    · simp at hk; exact .inr (by omega)
  · have := ho.lt _ he.symm
    simp at this
    rcases hk with hk | hk
    · omega
    · simp at hk; omega
set_option maxRecDepth 10000 in
set_option maxHeartbeats 4000000 in
theorem back_any (N : Nat) : ∀ (a : TV) (q : Quad) (w : World) (S : Nat → Prop), SizeOf.sizeOf a < N → VR w S q a →
    Calls Try.prog 25 #[q.agg] w (BackPost w S a) := by
  induction N with
  | zero => intro a q w S h; omega
  | succ N ih =>
    intro a q w S hN ha
    obtain ⟨t1, n1, b1, l1, A1, B1, c1, d1, e1, g1, rfl, rfl, hu1, hb1, hc1, hl1⟩ := ha.opens
    dsimp only [Quad.agg]
    have IH := Lib.hid ih
    clear ih
    have hfe := hl1.few
    obtain ⟨W, hW⟩ : ∃ W, W = ((w.alloc (.cells #[.int .i64 t1, .int .u64 (n1 : Int), .slice A1 c1 d1, .slice B1 e1 g1] 27)).alloc (.cells #[.int .i64 0, .int .u64 0, .slice none 0 0, .slice none 0 0] 33)).alloc (.cells #[.int .i64 t1, .int .u64 (n1 : Int), .slice A1 c1 d1, .slice none 0 0] 33) := ⟨_, rfl⟩
    have hbW : Below w.heap.size w W := by rw [hW]; exact (((Below.refl _ _).alloc (Nat.le_refl _) _).alloc (by simp) _).alloc (by simp; omega) _
    have hX1 : Blk W w.heap.size 27 #[.int .i64 t1, .int .u64 (n1 : Int), .slice A1 c1 d1, .slice B1 e1 g1] := by rw [hW]; exact ((Blk.new w 27 _).alloc _).alloc _
    have hX2 : Blk W (w.heap.size + 1) 33 #[.int .i64 0, .int .u64 0, .slice none 0 0, .slice none 0 0] := by
      rw [hW]
      have := (Blk.new (w.alloc (.cells #[.int .i64 t1, .int .u64 (n1 : Int), .slice A1 c1 d1, .slice B1 e1 g1] 27)) 33 #[.int .i64 0, .int .u64 0, .slice none 0 0, .slice none 0 0]).alloc (.cells #[.int .i64 t1, .int .u64 (n1 : Int), .slice A1 c1 d1, .slice none 0 0] 33)
      simpa only [World.size_alloc] using this
    have hX3 : Blk W (w.heap.size + 2) 33 #[.int .i64 t1, .int .u64 (n1 : Int), .slice A1 c1 d1, .slice none 0 0] := by
      rw [hW]
      have := Blk.new ((w.alloc (.cells #[.int .i64 t1, .int .u64 (n1 : Int), .slice A1 c1 d1, .slice B1 e1 g1] 27)).alloc (.cells #[.int .i64 0, .int .u64 0, .slice none 0 0, .slice none 0 0] 33)) 33 #[.int .i64 t1, .int .u64 (n1 : Int), .slice A1 c1 d1, .slice none 0 0]
      simpa only [World.size_alloc, Nat.add_assoc] using this
    have hsz : W.heap.size = w.heap.size + 3 := by rw [hW]; simp
    have Hsz := Lib.hid hsz
    have HW := Lib.hid hW
    clear hsz hW
    go_enter Try.func25, Try.ntmps25
    go_wp2_with fail
    have hW := HW.out
    rw [← hW]
    clear hW HW
    go_loopw [4] (fun i wr => ∃ (k : Nat) (Al : Option Addr) (cl : Nat), k ≤ e1 ∧ i = .int .i64 (k : Int) ∧ Hid (Blk wr (w.heap.size + 2) 33 #[.int .i64 t1, .int .u64 (n1 : Int), .slice A1 c1 d1, .slice Al k cl]) ∧
      Hid (LO wr (fun j => (S j ∧ j < w.heap.size) ∨ w.heap.size + 3 ≤ j) (w.heap.size + 3) 33 (.slice Al k cl) k (l1.take k)) ∧ Hid (Below (w.heap.size + 2) W wr)) (fun i _ => e1 - (intOf i).toNat)
    case atStart => exact ⟨0, none, 0, Nat.zero_le _, rfl, Lib.hid hX3, Lib.hid (by simpa using LO.nil _ _ _ _), Lib.hid (Below.refl _ _)⟩
    case round =>
      obtain ⟨k, Al, cl, hk, rfl, hB, hLO, hbr⟩ := hrel
      have hY1 := hX1.below hbr.out (by omega)
      have hY2 := hX2.below hbr.out (by omega)
      obtain ⟨y0, y1, y2, y3, g0, g1', g2', g3, hy⟩ := hY1.four
      obtain ⟨x0, x1, x2, x3, r0, r1, r2, r3, hx⟩ := hY2.four
      obtain ⟨z0, z1, z2, z3, f0, f1, f2, f3, hz⟩ := hB.out.four
      have hbw : Below w.heap.size w wr := hbW.trans (hbr.out.mono (by omega))
      by_cases hlt : k < e1
      · obtain ⟨ad1, p1, q1, v1, rfl, hp1, hv1, hr1, a0, a1, a2, a3, -, -⟩ := (hl1.oldS.under (fun k h => h.2) hbw).at_ hlt
        have hlt' : (k : Int) < (e1 : Int) := by omega
        have HC := Lib.hid (IH.out v1 q1 wr.drew _ (by have := sizeOf_at hv1.out t1 n1 b1; omega) hr1.drew)
        obtain ⟨u1, m1, x1', y1', P1, P2, i1, i2, i3, i4, rfl, rfl, -⟩ := hr1.opens
        obtain ⟨i0, hi0, hj0, hj1, hj2⟩ := info_parts Try.info33
        have hLd := Lib.hid (hLO.out.after ((Below.refl wr.heap.size wr).drew))
        have hBd := Lib.hid hB.out.drew
        go_wp2_with fail
        go_region_law (first | (refine step_append_any _ rfl (.tmp 20) (.tmp 27) 31 rfl (w.heap.size + 3) 33 i0 _ 4 64 Try.underlying31 hi0 hj0 hj1 hj2 rfl (by omega) (.slice Al k cl) k (flat qs) rfl hown AnyB _ 1 1 (flat [⟨.int .i64 u1, .int .u64 (m1 : Int), .slice Q1 r5 r6, .slice Q2 r7 r8⟩]) rfl hrn hvn.cells_one' (by simp only [maxLen]; omega) (by omega) (by have := hb2.size; simp at this ⊢; omega) ?_; intro v4 w4 hown4 hg4 hat4; go_must ((obtain ⟨A7, c7, rfl, hc7⟩ := own_shape hown4; have hB4 := ((hBd.out.after hb2).alloc (.cells #[.int .i64 u1, .int .u64 (m1 : Int), .slice Q1 r5 r6, .slice Q2 r7 r8] 33)).grown hg4 (fun e => by have := (hown.lt _ e.symm).1; omega); obtain ⟨k0, k1, k2, k3, s0, s1, s2, s3, hz4⟩ := hB4.four))) | (go_simp; go_at_call 25; refine (HC.out).mono ?_; rintro e w1 ⟨q2, rfl, hv2, hb2⟩; go_must ((have E1 := cell_after hb2 z3; have E2 := cell_after hb2 y3; have E3 := cell_after hb2 a0; have E4 := cell_after hb2 a1; have E5 := cell_after hb2 a2; have E6 := cell_after hb2 a3; have hz5 : w.heap.size + 1 + 1 < w1.heap.size := (by have := hb2.size; simp at this; omega); have hz6 : w.heap.size + 2 < w1.heap.size := hz5; obtain ⟨_, nn2, bb2, ll2, Q1, Q2, r5, r6, r7, r8, rfl, hvv, -⟩ := hv2.opens; cases hvv; obtain ⟨qs, hq, hown, hch, hvn, hrn⟩ := hLd.out.ready (e' := 33) hb2 hv2 (ready_side hLd.out (by omega)); have Hq := Lib.hid (And.intro hq hch); clear hq hch; dsimp only [Quad.agg]))))
        all_goals
          go_wp2_with fail
          obtain ⟨hq, hch⟩ := Hq.out
          have hlk : (l1.take k).length = k := hLO.out.len
          have hfew : k + 1 ≤ 1000000000 := by omega
          have hL5 := (LO.snoc hq hlk hfew hown4 hg4 hat4 hch hvn).setCell (p := ⟨w.heap.size + 2, 3, none⟩) (fun e => by have := (hown4.lt _ e).1; dsimp only at this; omega) (fun k hk => by dsimp only; omega) (.slice A7 (k + 1) c7)
          rw [← take_snoc hv1.out] at hL5
          have hB5 := hB4.set_ 3 (.slice A7 (k + 1) c7)
          have hrow : ∀ j, (Value.slice Al k cl).ownBlock = some j → w.heap.size + 2 ≤ j := fun j hj => by have := (hown.lt j hj).1; omega
          have hbb : Below (w.heap.size + 2) wr w4 := ((((Below.refl (w.heap.size + 2) wr).drew.trans (hb2.mono (by simp; omega))).alloc (by omega) _).grown hg4 (by simp; omega) hrow)
          exact ⟨⟨k + 1, A7, c7, by omega, by go_num, Lib.hid hB5, Lib.hid hL5, Lib.hid ((hbr.out.trans hbb).setCell (p := ⟨w.heap.size + 2, 3, none⟩) (Nat.le_refl _) _)⟩, by simp [intOf]; omega⟩
      · obtain rfl : k = e1 := by omega
        have hl2 := hLO.out.reads
        have e : l1.take k = l1 := List.take_of_length_le (by rw [hl1.len]; omega)
        rw [e] at hl2
        have HL := Lib.hid hl2
        clear hl2 e
        go_wp2_with fail
        refine bodyPost_ret (results_cell1 rfl rfl (load33 (set4_blk hY2 _ _ _ _))) rfl ?_
        refine ⟨⟨.int .i64 t1, .int .u64 (n1 : Int), .slice A1 c1 d1, .slice Al k cl⟩, rfl, ?_, set4_below hbw _ (by omega) _ _ _ _⟩
        refine VR.shut hu1 ((hb1.oldS.under (fun k h => h.2) hbw).keep (fun p hp _ => set4_other _ _ _ _ _ _ p (by omega)) (fun k hk _ => .inl hk.1)) hc1 (HL.out.keep (fun p hp _ => set4_other _ _ _ _ _ _ p (by omega)) (fun k hk _ => ?_))
        rcases hk with (hk | hk) | hk
        · exact .inl hk.1
        · exact .inr (by omega)
        · exact .inr (by omega)
end Go.Proofs.Ytaebmhbggbpnoaa
