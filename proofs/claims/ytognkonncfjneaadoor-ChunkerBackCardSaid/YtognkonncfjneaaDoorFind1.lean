/- The walk of Find over whatever iterator closure 41 is. Conditions: each theorem's premises. -/
import Derived.Test.YtognkonncfjneaaDoorHash1
namespace Go.Proofs.YtognkonncfjneaaDoor
open Go.RowKit Go.Shelf
attribute [local go_sem] Oper.semAt_some
/-- What Find answers. -/
def Found (v : Nat → Nat) (mask N : Nat) (e : Ending) : Prop := (e = .returned (.int .i64 (-1)) ∧ ∀ j, j < N → v (j + 1) &&& mask ≠ 0) ∨ ∃ k, k < N ∧ e = .returned (.int .i64 (k : Int)) ∧ v (k + 1) &&& mask = 0 ∧ ∀ j, j < k → v (j + 1) &&& mask ≠ 0
set_option maxRecDepth 100000 in
set_option maxHeartbeats 2000000 in
theorem find_gen (w : World) (p : Option Addr) (A : Option Addr) (n c N bg mask : Nat) (v : Nat → Nat) (Gd Inv : World → Prop) (hv : ∀ k, v k < Gear.M) (hm : mask < Gear.M) (hbg : bg < w.heap.size + 4) (hbn : bg ≠ w.heap.size ∧ bg ≠ w.heap.size + 1) (hI0 : Inv w)
    (hIB : ∀ W W', Inv W → Below w.heap.size W W' → Inv W') (hIT : ∀ W W', Inv W → W.grownBy W' (some bg) → Gd W' → Inv W')
    (hseq : ∀ (w1 : World) (b1 b2 : Nat), Below w.heap.size w w1 → w.heap.size ≤ b2 → w1.cell? ⟨b1, 0, none⟩ = some (.pointer p) → w1.cell? ⟨b2, 0, none⟩ = some (.slice A n c) → Hands Fence.wide 2 Tryd.prog 41 #[.pointer (some ⟨b1, 0, none⟩), .pointer (some ⟨b2, 0, none⟩)] (eachV v) (Below w.heap.size) N bg Gd w1) :
    Calls Tryd.prog 17 #[.pointer p, .slice A n c, .int .u64 (mask : Int)] w fun e w' => Found v mask N e ∧ Inv w' := by
  have HI0 := Lib.hid hI0
  have HIB := Lib.hid hIB
  have HIT := Lib.hid hIT
  have HS := Lib.hid hseq
  have HV := Lib.hid hv
  clear hI0 hIB hIT hseq hv
  refine (callsIn_wide (n := 3)).1 ?_
  refine callsIn_of_wp_marks Tryd.func17 rfl trivial ?_ rfl
  simp only [Tryd.ntmps17, List.size_toArray, List.length_cons, List.length_nil, Nat.reduceAdd, Nat.reduceSub, Array.replicate_succ, Array.replicate_zero, List.push_toArray, List.append_toArray, List.nil_append, List.cons_append]
  gi_wp2_with fail
  refine ⟨trivial, ?_⟩
  refine (callsIn_wide.2 (each_any _ p A n c)).mono ?_
  rintro e w' ⟨rfl, hw'⟩
  have HW := Lib.hid hw'
  clear hw'
  gi_wp2_with fail
  have hw' := HW.out
  clear HW
  obtain ⟨b0, hb0⟩ : ∃ b0, b0 = w.heap.size := ⟨_, rfl⟩
  have bM := Boxed.new w 22 (.int .u64 (mask : Int))
  have bR := Boxed.new (w.alloc (.cells #[.int .u64 (mask : Int)] 22)) 3 (.int .i64 0)
  have hB0 : Below w.heap.size w w' := by rw [hw']; exact ((((Below.refl _ w).alloc (Nat.le_refl _) _).alloc (by simp) _).alloc (by simp; omega) _).alloc (by simp; omega) _
  have bM' := (((bM.alloc (.cells #[.int .i64 0] 3)).alloc (.cells #[.pointer p] 25)).alloc (.cells #[.slice A n c] 23))
  have bR' := ((bR.alloc (.cells #[.pointer p] 25)).alloc (.cells #[.slice A n c] 23))
  simp only [World.size_alloc] at hw' bR'
  rw [← hw'] at bR' bM'
  have hsz : w'.heap.size = w.heap.size + 4 := by rw [hw']; simp
  have hc1 : w'.cell? ⟨w.heap.size + 1 + 1, 0, none⟩ = some (.pointer p) := by rw [hw']; simpa using ((Boxed.new ((w.alloc (.cells #[.int .u64 (mask : Int)] 22)).alloc (.cells #[.int .i64 0] 3)) 25 (.pointer p)).alloc (.cells #[.slice A n c] 23)).cell
  have hc2 : w'.cell? ⟨w.heap.size + 1 + 1 + 1, 0, none⟩ = some (.slice A n c) := by rw [hw']; simpa using (Boxed.new (((w.alloc (.cells #[.int .u64 (mask : Int)] 22)).alloc (.cells #[.int .i64 0] 3)).alloc (.cells #[.pointer p] 25)) 23 (.slice A n c)).cell
  have HB0 := Lib.hid hB0
  have HQ := Lib.hid (HS.out w' (w.heap.size + 1 + 1) (w.heap.size + 1 + 1 + 1) hB0 (by omega) hc1 hc2)
  have HbR := Lib.hid bR'
  have HbM := Lib.hid bM'
  clear hw' bR bR' bM bM' hc1 hc2 hB0 HS
  refine range_turns rfl (by omega) (gf := 41) (lb := #[.pointer (some ⟨w.heap.size + 1 + 1, 0, none⟩), .pointer (some ⟨w.heap.size + 1 + 1 + 1, 0, none⟩)]) (w0 := w') ?gval trivial (enters_of Tryd.func41 (by kernel_rfl) rfl) (encs := eachV v) (Kp := Below w.heap.size) (N := N) (bg := bg) (Gd := Gd) HQ.out
    (fun h k => h.trans k) (fun W l o o' hl h _ => below_put W l o' (by omega) (by have := (Array.getElem?_eq_some_iff.1 h).1; omega)) (Below.refl _ _) (by omega) (fun _ => rfl)
    (fun k W => (∀ j, j < k → v (j + 1) &&& mask ≠ 0) ∧ Inv W ∧ Boxed W w.heap.size 22 (.int .u64 (mask : Int)) ∧ (∃ u, Boxed W (w.heap.size + 1) 3 u) ∧ w'.heap.size ≤ W.heap.size)
    (fun c k W => c = .ret ∧ (∃ i, i + 1 = k ∧ v (i + 1) &&& mask = 0 ∧ (∀ j, j < i → v (j + 1) &&& mask ≠ 0) ∧ Boxed W (w.heap.size + 1) 3 (.int .i64 (i : Int))) ∧ Inv W ∧ w'.heap.size ≤ W.heap.size) ?turns ?marks ?turnsx ?marksx ?start
    (fun k => { tmps := #[.pointer p, .slice A n c, .int .u64 (mask : Int), undef, undef, .pointer (some ⟨w.heap.size, 0, none⟩), .pointer (some ⟨w.heap.size + 1, 0, none⟩), .int .i64 (k : Int), .int .u64 ((v (k + 1) : Nat) : Int), .pointer p, .slice A n c, .func (.func 41) #[] #[.pointer (some ⟨w.heap.size + 1 + 1, 0, none⟩), .pointer (some ⟨w.heap.size + 1 + 1 + 1, 0, none⟩)], .int .i64 (k : Int), .int .u64 ((v (k + 1) : Nat) : Int), undef, undef, undef, undef, undef], defers := [] }) ?assign ?body ?done ?stop
  case gval => rfl
  case turns => exact fun k W W' h hg hd => ⟨h.1, HIT.out W W' h.2.1 hg hd, h.2.2.1.kept hg (by intro e; injection e with e; exact hbn.1 e.symm), h.2.2.2.1.imp fun _ h => h.kept hg (by intro e; injection e with e; exact hbn.2 e.symm), Nat.le_trans h.2.2.2.2 hg.size⟩
  case turnsx =>
    rintro c k W W' ⟨h0, ⟨i, h1, h2, h3, h4⟩, h5, h6⟩ hg hd
    exact ⟨h0, ⟨i, h1, h2, h3, h4.kept hg (by intro e; injection e with e; exact hbn.2 e.symm)⟩, HIT.out W W' h5 hg hd, Nat.le_trans h6 hg.size⟩
  case marks => exact marks_of (fun k W W' h hb => ⟨h.1, HIB.out _ _ h.2.1 (hb.mono (by omega)), boxed_below h.2.2.1 hb (by omega), h.2.2.2.1.imp fun _ h => boxed_below h hb (by omega), Nat.le_trans h.2.2.2.2 hb.size⟩) (fun k W h => h.2.2.2.2)
  case marksx =>
    intro c
    refine marks_of ?_ (fun k W h => h.2.2.2)
    rintro k W W' ⟨h0, ⟨i, h1, h2, h3, h4⟩, h5, h6⟩ hb
    exact ⟨h0, ⟨i, h1, h2, h3, boxed_below h4 hb (by omega)⟩, HIB.out _ _ h5 (hb.mono (by omega)), Nat.le_trans h6 hb.size⟩
  case start => exact ⟨fun j hj => absurd hj (by omega), HIB.out _ _ HI0.out HB0.out, HbM.out, ⟨_, HbR.out⟩, Nat.le_refl _⟩
  case assign =>
    intro l x W K hK
    unfold eachV
    gi_wp2_with fail
    exact hK
  case body =>
    rintro l k W ⟨hn, hi, hb, ⟨u, hu⟩, hs⟩ hlt
    have HN := Lib.hid hn
    have HI := Lib.hid hi
    have hc := hb.cell
    have cu := hu.cell
    have fu := hu.frozen
    have HU := Lib.hid hu
    have HBx := Lib.hid hb
    clear hn hi hb hu
    by_cases hz : v (k + 1) &&& mask = 0
    · have he : bits .and .u64 ((v (k + 1) : Nat) : Int) (mask : Int) = 0 := by rw [u64_and_nat _ _ (HV.out _) hm, hz]; rfl
      gi_wp2_with fail
      have hb1 : Below w.heap.size W (W.setCell ⟨w.heap.size + 1, 0, none⟩ (.int .i64 (k : Int))) := (Below.refl w.heap.size W).setCell (p := ⟨w.heap.size + 1, 0, none⟩) (by show _ ≤ _ + 1; omega) _
      exact ⟨(KeepsOthers.setCell _ _ _).from _, rfl, ⟨k, rfl, hz, HN.out, HU.out.set _⟩, HIB.out _ _ HI.out hb1, by simpa [World.setCell] using hs⟩
    · obtain ⟨z, hzz⟩ : ∃ z, z = v (k + 1) &&& mask := ⟨_, rfl⟩
      have he : bits .and .u64 ((v (k + 1) : Nat) : Int) (mask : Int) = (z : Int) := by rw [u64_and_nat _ _ (HV.out _) hm, hzz]
      have hne : ¬ (z : Int) = 0 := by rw [← hzz] at hz; omega
      gi_wp2_with fail
      exact ⟨KeepsFrom.refl _ _, Below.refl _ _, fun j hj => (Nat.lt_succ_iff_lt_or_eq.1 hj).elim (HN.out j) (fun e => by rw [e]; exact hz), HI.out, HBx.out, ⟨u, HU.out⟩, hs⟩
  case done =>
    rintro D W hD ⟨hn, hi, hb, ⟨u, hu⟩, hs⟩ hK
    have HN := Lib.hid hn
    have HI := Lib.hid hi
    have cu := hu.cell
    have fu := hu.frozen
    have HU := Lib.hid hu
    have HK := Lib.hid hK
    clear hn hi hb hu hK
    gi_wp2_with fail
    have hK' := (KeepsOthers.setCell W ⟨w.heap.size + 1, 0, none⟩ (.int .i64 (-1))).same D _ HK.out rfl
    refine ⟨by simp, .inl ⟨_, _, rfl, run_takeDeferred hK', ?_⟩⟩
    have hc5 := cell_kept (HU.out.set (.int .i64 (-1))).cell (grownBy_putObj' _ D (.deferred none)) (fun r e => by cases e; exact ⟨_, hK', rfl⟩)
    have hb1 : Below w.heap.size W (W.setCell ⟨w.heap.size + 1, 0, none⟩ (.int .i64 (-1))) := (Below.refl w.heap.size W).setCell (p := ⟨w.heap.size + 1, 0, none⟩) (by show _ ≤ _ + 1; omega) _
    refine ⟨.int .i64 (-1), ?_, .inl ⟨rfl, HN.out⟩, HIB.out _ _ HI.out (hb1.trans (below_put _ _ _ (by omega) (Nat.le_trans (by omega) hb1.size)))⟩
    simp [results, Tryd.f17, go_sem, hc5]
  case stop =>
    rintro D c k W hD h0 hN ⟨rfl, ⟨i, rfl, hz, hj, hu⟩, hi, hs⟩ hK
    have HI := Lib.hid hi
    have HU := Lib.hid hu
    have HK := Lib.hid hK
    have HJ := Lib.hid hj
    clear hi hu hK hj
    gi_wp2_with fail
    refine ⟨by simp, .inl ⟨_, _, rfl, run_takeDeferred HK.out, ?_⟩⟩
    have hc5 := cell_kept HU.out.cell (grownBy_putObj' _ D (.deferred none)) (fun r e => by cases e; exact ⟨_, HK.out, rfl⟩)
    refine ⟨.int .i64 (i : Int), ?_, .inr ⟨i, by omega, rfl, hz, HJ.out⟩, HIB.out _ _ HI.out (below_put _ _ _ (by omega) (by omega))⟩
    simp [results, Tryd.f17, go_sem, hc5]
end Go.Proofs.YtognkonncfjneaaDoor
