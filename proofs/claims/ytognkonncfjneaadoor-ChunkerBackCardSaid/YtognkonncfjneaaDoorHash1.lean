/- The walks of Hash and Find over whatever iterator closure 41 is. Conditions: each theorem's premises. -/
import Derived.Test.YtognkonncfjneaaDoorEach1
namespace Go.Proofs.YtognkonncfjneaaDoor
open Go.RowKit Go.Shelf
attribute [local go_sem] Oper.semAt_some
theorem below_put {B : Nat} (W : World) (l : Nat) (o : Obj) (h : B ≤ l) (hs : B ≤ W.heap.size) : Below B W (W.putObj l o) := (Below.refl B W).grown (grownBy_putObj' W l o) hs (fun k e => by cases e; exact h)
theorem marks_of {B : Nat} {J : Nat → World → Prop} (hb : ∀ k W W', J k W → Below B W W' → J k W') (hs : ∀ k W, J k W → B ≤ W.heap.size) : Marks B J :=
  ⟨fun k W l _ o' h hl _ _ => hb k W _ h (below_put W l o' hl (hs k W h)), fun k W o h => hb k W _ h ((Below.refl B W).alloc (hs k W h) o)⟩
theorem boxed_below {W W' : World} {B b t : Nat} {v : Value} (h : Boxed W b t v) (hb : Below B W W') (hlt : b < B) : Boxed W' b t v := (hb.block b hlt).trans h
/-- What a round is handed, by what has come. -/
def eachV (v : Nat → Nat) (k : Nat) : Array Value := #[.int .i64 (k : Int), .int .u64 ((v (k + 1) : Nat) : Int)]
theorem eachEnc_eq (seed : Nat) (bs : List UInt8) : eachEnc seed bs = eachV (fun k => Gear.hash seed (bs.take k)) := rfl
set_option maxRecDepth 100000 in
set_option maxHeartbeats 2000000 in
theorem hash_gen (w : World) (p : Option Addr) (A : Option Addr) (n c N bg : Nat) (v : Nat → Nat) (Gd Inv : World → Prop) (v0 : v 0 = 0) (hbg : bg < w.heap.size + 3) (hbn : bg ≠ w.heap.size) (hI0 : Inv w)
    (hIB : ∀ W W', Inv W → Below w.heap.size W W' → Inv W') (hIT : ∀ W W', Inv W → W.grownBy W' (some bg) → Gd W' → Inv W') (hIs : ∀ W, Inv W → w.heap.size ≤ W.heap.size)
    (hseq : ∀ (w1 : World) (b1 b2 : Nat), Below w.heap.size w w1 → w.heap.size ≤ b2 → w1.cell? ⟨b1, 0, none⟩ = some (.pointer p) → w1.cell? ⟨b2, 0, none⟩ = some (.slice A n c) → Hands Fence.wide 2 Tryd.prog 41 #[.pointer (some ⟨b1, 0, none⟩), .pointer (some ⟨b2, 0, none⟩)] (eachV v) (Below w.heap.size) N bg Gd w1) :
    Calls Tryd.prog 18 #[.pointer p, .slice A n c] w fun e w' => e = .returned (.int .u64 ((v N : Nat) : Int)) ∧ Inv w' := by
  have HI0 := Lib.hid hI0
  have HIB := Lib.hid hIB
  have HIT := Lib.hid hIT
  have HIs := Lib.hid hIs
  have HS := Lib.hid hseq
  clear hI0 hIB hIT hIs hseq
  refine (callsIn_wide (n := 3)).1 ?_
  refine callsIn_of_wp_marks Tryd.func18 rfl trivial ?_ rfl
  simp only [Tryd.ntmps18, List.size_toArray, List.length_cons, List.length_nil, Nat.reduceAdd, Nat.reduceSub, Array.replicate_succ, Array.replicate_zero, List.push_toArray, List.append_toArray, List.nil_append, List.cons_append]
  gi_wp2_with fail
  refine ⟨trivial, ?_⟩
  refine (callsIn_wide.2 (each_any _ p A n c)).mono ?_
  rintro e w' ⟨rfl, hw'⟩
  have HW := Lib.hid hw'
  clear hw'
  gi_wp2_with fail
  have hw' := HW.out
  clear HW
  have bR := Boxed.new w 22 (.int .u64 0)
  have hB0 : Below w.heap.size w w' := by rw [hw']; exact (((Below.refl _ w).alloc (Nat.le_refl _) _).alloc (by simp) _).alloc (by simp; omega) _
  have bR' := ((bR.alloc (.cells #[.pointer p] 25)).alloc (.cells #[.slice A n c] 23))
  rw [← hw'] at bR'
  have hsz : w'.heap.size = w.heap.size + 3 := by rw [hw']; simp
  have hc1 : w'.cell? ⟨w.heap.size + 1, 0, none⟩ = some (.pointer p) := by rw [hw']; simpa using ((Boxed.new (w.alloc (.cells #[.int .u64 0] 22)) 25 (.pointer p)).alloc (.cells #[.slice A n c] 23)).cell
  have hc2 : w'.cell? ⟨w.heap.size + 1 + 1, 0, none⟩ = some (.slice A n c) := by rw [hw']; simpa using (Boxed.new ((w.alloc (.cells #[.int .u64 0] 22)).alloc (.cells #[.pointer p] 25)) 23 (.slice A n c)).cell
  have HB0 := Lib.hid hB0
  have HQ := Lib.hid (HS.out w' (w.heap.size + 1) (w.heap.size + 1 + 1) hB0 (by omega) hc1 hc2)
  have HbR := Lib.hid bR'
  clear hw' bR bR' hc1 hc2 hB0 HS
  refine range_turns rfl (by omega) (gf := 41) (lb := #[.pointer (some ⟨w.heap.size + 1, 0, none⟩), .pointer (some ⟨w.heap.size + 1 + 1, 0, none⟩)]) (w0 := w') ?gval trivial (enters_of Tryd.func41 (by kernel_rfl) rfl) (encs := eachV v) (Kp := Below w.heap.size) (N := N) (bg := bg) (Gd := Gd) HQ.out
    (fun h k => h.trans k) (fun W l o o' hl h _ => below_put W l o' (by omega) (by have := (Array.getElem?_eq_some_iff.1 h).1; omega)) (Below.refl _ _) (by omega) (fun _ => rfl)
    (fun k W => Inv W ∧ Boxed W w.heap.size 22 (.int .u64 ((v k : Nat) : Int)) ∧ w'.heap.size ≤ W.heap.size) (fun _ _ _ => False) ?turns ?marks (fun _ _ _ _ h _ _ => h) (fun _ => ⟨fun _ _ _ _ _ h _ _ _ => h, fun _ _ _ h => h⟩) ?start
    (fun k => { tmps := #[.pointer p, .slice A n c, undef, undef, .pointer (some ⟨w.heap.size, 0, none⟩), undef, .int .u64 ((v (k + 1) : Nat) : Int), .pointer p, .slice A n c, .func (.func 41) #[] #[.pointer (some ⟨w.heap.size + 1, 0, none⟩), .pointer (some ⟨w.heap.size + 1 + 1, 0, none⟩)], .int .i64 (k : Int), .int .u64 ((v (k + 1) : Nat) : Int), undef, undef], defers := [] }) ?assign ?body ?done ?stop
  case gval => rfl
  case turns => exact fun k W W' h hg hd => ⟨HIT.out W W' h.1 hg hd, h.2.1.kept hg (by intro e; injection e with e; exact hbn e.symm), Nat.le_trans h.2.2 hg.size⟩
  case marks => exact marks_of (fun k W W' h hb => ⟨HIB.out _ _ h.1 (hb.mono (by omega)), boxed_below h.2.1 hb (by omega), Nat.le_trans h.2.2 hb.size⟩) (fun k W h => h.2.2)
  case start => exact ⟨HIB.out _ _ HI0.out HB0.out, by rw [v0]; exact HbR.out, Nat.le_refl _⟩
  case assign =>
    intro l x W K hK
    unfold eachV
    gi_wp2_with fail
    exact hK
  case body =>
    rintro l k W ⟨hi, hb, hs⟩ hlt
    have HI := Lib.hid hi
    have hc := hb.cell
    have hf := hb.frozen
    have HBx := Lib.hid hb
    clear hi hb
    gi_wp2_with fail
    exact ⟨(KeepsOthers.setCell _ _ _).from _, (Below.refl w.heap.size W).setCell (p := ⟨w.heap.size, 0, none⟩) (Nat.le_refl _) _, HIB.out _ _ HI.out ((Below.refl w.heap.size W).setCell (p := ⟨w.heap.size, 0, none⟩) (Nat.le_refl _) _), HBx.out.set _, by simpa [World.setCell] using hs⟩
  case done =>
    rintro D W hD ⟨hi, hb, hs⟩ hK
    have HI := Lib.hid hi
    have hc := hb.cell
    have hf := hb.frozen
    have HBx := Lib.hid hb
    have HK := Lib.hid hK
    clear hi hb hK
    gi_wp2_with fail
    have hK' := (KeepsOthers.setCell W ⟨w.heap.size, 0, none⟩ (.int .u64 ((v N : Nat) : Int))).same D _ HK.out rfl
    refine ⟨by simp, .inl ⟨_, _, rfl, run_takeDeferred hK', ?_⟩⟩
    have hc5 := cell_kept (HBx.out.set (.int .u64 ((v N : Nat) : Int))).cell (grownBy_putObj' _ D (.deferred none)) (fun r e => by cases e; exact ⟨_, hK', rfl⟩)
    have hb1 : Below w.heap.size W (W.setCell ⟨w.heap.size, 0, none⟩ (.int .u64 ((v N : Nat) : Int))) := (Below.refl w.heap.size W).setCell (p := ⟨w.heap.size, 0, none⟩) (Nat.le_refl _) _
    refine ⟨.int .u64 ((v N : Nat) : Int), ?_, rfl, HIB.out _ _ HI.out (hb1.trans (below_put _ _ _ (by omega) (Nat.le_trans (by omega) hb1.size)))⟩
    simp [results, Tryd.f18, go_sem, hc5]
  case stop => exact fun _ _ _ _ _ _ _ h _ => h.elim
end Go.Proofs.YtognkonncfjneaaDoor
