/- The walk of cut (chunker). Conditions: each theorem's premises. -/
import Derived.Test.YtognkonncfjneaaDoorCh2
namespace Go.Proofs.YtognkonncfjneaaDoor
open Go.RowKit Go.Shelf
attribute [local go_sem] Oper.semAt_some
/-- How many bytes the first chunk has. -/
def cutN (r : Ch.Rule) (bs : List UInt8) : Nat := (Ch.cutS r bs).getD bs.length
/-- What lies between two rounds of cut's loop. -/
structure Cv (w : World) (B g : Nat) (r : Ch.Rule) (W : World) : Prop where
  gi : Gi w g r.seed W
  bk : Blk W w.heap.size 95 (knifeV g r)
  b1 : ∃ u, Boxed W (w.heap.size + 1) 3 u
  b2 : ∃ u, Boxed W (w.heap.size + 1 + 1) 4 u
  sz : B ≤ W.heap.size
theorem Cv.below {w W W' : World} {B g : Nat} {r : Ch.Rule} (h : Cv w B g r W) (hg : g < w.heap.size) (hB : w.heap.size + 2 < B) (hb : Below B W W') : Cv w B g r W' :=
  ⟨h.gi.below hg (hb.mono (by omega)), h.bk.below hb (by omega), h.b1.imp fun _ h => boxed_below h hb (by omega), h.b2.imp fun _ h => boxed_below h hb (by omega), Nat.le_trans h.sz hb.size⟩
theorem Cv.turn {w W W' : World} {B g : Nat} {r : Ch.Rule} (h : Cv w B g r W) (hg : g < w.heap.size) (hb : W.grownBy W' (some g)) (hd : Grl W' g r.seed) : Cv w B g r W' := by
  have ne : ∀ j, j ≠ g → some j ≠ some g := fun j hj e => hj (by injection e)
  exact ⟨h.gi.turn hb hd, h.bk.grown hb (ne _ (by omega)), h.b1.imp fun _ h => h.kept hb (ne _ (by omega)), h.b2.imp fun _ h => h.kept hb (ne _ (by omega)), Nat.le_trans h.sz hb.size⟩
/-- What cut has laid into its results. -/
structure Cx (w : World) (B g : Nat) (r : Ch.Rule) (n : Nat) (b : Bool) (W : World) : Prop where
  gi : Gi w g r.seed W
  b1 : Boxed W (w.heap.size + 1) 3 (.int .i64 (n : Int))
  b2 : Boxed W (w.heap.size + 1 + 1) 4 (.bool b)
  sz : B ≤ W.heap.size
theorem Cx.below {w W W' : World} {B g n : Nat} {r : Ch.Rule} {b : Bool} (h : Cx w B g r n b W) (hg : g < w.heap.size) (hB : w.heap.size + 2 < B) (hb : Below B W W') : Cx w B g r n b W' :=
  ⟨h.gi.below hg (hb.mono (by omega)), boxed_below h.b1 hb (by omega), boxed_below h.b2 hb (by omega), Nat.le_trans h.sz hb.size⟩
theorem Cx.turn {w W W' : World} {B g n : Nat} {r : Ch.Rule} {b : Bool} (h : Cx w B g r n b W) (hg : g < w.heap.size) (hb : W.grownBy W' (some g)) (hd : Grl W' g r.seed) : Cx w B g r n b W' := by
  have ne : ∀ j, j ≠ g → some j ≠ some g := fun j hj e => hj (by injection e)
  exact ⟨h.gi.turn hb hd, h.b1.kept hb (ne _ (by omega)), h.b2.kept hb (ne _ (by omega)), Nat.le_trans h.sz hb.size⟩
theorem Cv.laid {w W : World} {B g : Nat} {r : Ch.Rule} (h : Cv w B g r W) (hg : g < w.heap.size) (n : Nat) (b : Bool) : Cx w B g r n b ((W.setCell ⟨w.heap.size + 1, 0, none⟩ (.int .i64 (n : Int))).setCell ⟨w.heap.size + 1 + 1, 0, none⟩ (.bool b)) ∧
    Below w.heap.size W ((W.setCell ⟨w.heap.size + 1, 0, none⟩ (.int .i64 (n : Int))).setCell ⟨w.heap.size + 1 + 1, 0, none⟩ (.bool b)) ∧ KeepsFrom B W ((W.setCell ⟨w.heap.size + 1, 0, none⟩ (.int .i64 (n : Int))).setCell ⟨w.heap.size + 1 + 1, 0, none⟩ (.bool b)) := by
  have hb : Below w.heap.size W ((W.setCell ⟨w.heap.size + 1, 0, none⟩ (.int .i64 (n : Int))).setCell ⟨w.heap.size + 1 + 1, 0, none⟩ (.bool b)) :=
    ((Below.refl w.heap.size W).setCell (p := ⟨w.heap.size + 1, 0, none⟩) (Nat.le_succ _) _).setCell (p := ⟨w.heap.size + 1 + 1, 0, none⟩) (by show w.heap.size ≤ w.heap.size + 1 + 1; omega) _
  obtain ⟨u1, h1⟩ := h.b1
  obtain ⟨u2, h2⟩ := h.b2
  refine ⟨⟨h.gi.below hg hb, (h1.set _).other (by omega) _, (h2.other (by omega) _).set _, by simpa [World.setCell] using h.sz⟩, hb, ?_⟩
  exact ((KeepsOthers.setCell W ⟨w.heap.size + 1, 0, none⟩ _).from _).trans ((KeepsOthers.setCell _ ⟨w.heap.size + 1 + 1, 0, none⟩ _).from _)
set_option maxRecDepth 100000 in
set_option maxHeartbeats 2000000 in
theorem cut_any (w : World) (g : Nat) (r : Ch.Rule) (S : Nat → Prop) (A : Option Addr) (n c : Nat) (bs : List UInt8) (hT : Grl w g r.seed) (hx : Bs w S A n c bs) (hn : n ≤ 1000000000) (hS : ∀ k, S k → k < w.heap.size ∧ k ≠ g) :
    Calls Tryd.prog 49 #[.agg (knifeV g r), .slice A n c] w fun e w' => e = .returned (.tuple #[.int .i64 ((cutN r bs : Nat) : Int), .bool (Ch.cutS r bs).isSome]) ∧ Gi w g r.seed w' := by
  have hg := hT.lt
  have HT := Lib.hid hT
  have HX := Lib.hid hx
  have HS := Lib.hid hS
  obtain ⟨av, hav⟩ : ∃ av, av = 2 ^ r.k := ⟨_, rfl⟩
  obtain ⟨mask, hmask⟩ : ∃ mask, mask = Gear.maskK r.k := ⟨_, rfl⟩
  have hml : mask < Gear.M := by rw [hmask]; exact maskK_lt r.k (by have := r.hk; omega)
  have HK : Hid (knifeV g r = #[.pointer (some ⟨g, 0, none⟩), .int .u64 (r.seed : Int), .int .i64 (r.mn : Int), .int .i64 (av : Int), .int .i64 (r.mx : Int), .int .u64 (mask : Int)]) := Lib.hid (by rw [hav, hmask]; rfl)
  have HM := Lib.hid hmask
  rw [HK.out]
  clear hT hx hS hav hmask
  refine (callsIn_wide (n := 3)).1 ?_
  refine callsIn_of_wp_marks Tryd.func49 rfl trivial ?_ rfl
  simp only [Tryd.ntmps49, List.size_toArray, List.length_cons, List.length_nil, Nat.reduceAdd, Nat.reduceSub, Array.replicate_succ, Array.replicate_zero, List.push_toArray, List.append_toArray, List.nil_append, List.cons_append]
  gi_wp2_with fail
  refine ⟨trivial, ?_⟩
  refine (callsIn_wide.2 (each_any _ (some ⟨g, 0, none⟩) A n c)).mono ?_
  rintro e w' ⟨rfl, hw'⟩
  obtain ⟨W0, hW0⟩ : ∃ W0, W0 = ((w.alloc (.cells #[.pointer (some ⟨g, 0, none⟩), .int .u64 (r.seed : Int), .int .i64 (r.mn : Int), .int .i64 (av : Int), .int .i64 (r.mx : Int), .int .u64 (mask : Int)] 95)).alloc (.cells #[.int .i64 0] 3)).alloc (.cells #[.bool false] 4) := ⟨_, rfl⟩
  have hs0 : W0.heap.size = w.heap.size + 3 := by rw [hW0]; simp
  have hsz : w'.heap.size = w.heap.size + 5 := by rw [hw']; simp
  have hbk0 : Blk W0 w.heap.size 95 (knifeV g r) := by rw [hW0, HK.out]; exact ((Blk.new w _ _).alloc _).alloc _
  have hb10 : Boxed W0 (w.heap.size + 1) 3 (.int .i64 0) := by rw [hW0]; have h := (Boxed.new (w.alloc (.cells #[.pointer (some ⟨g, 0, none⟩), .int .u64 (r.seed : Int), .int .i64 (r.mn : Int), .int .i64 (av : Int), .int .i64 (r.mx : Int), .int .u64 (mask : Int)] 95)) 3 (.int .i64 0)).alloc (.cells #[.bool false] 4); simpa using h
  have hb20 : Boxed W0 (w.heap.size + 1 + 1) 4 (.bool false) := by rw [hW0]; simpa using Boxed.new ((w.alloc (.cells #[.pointer (some ⟨g, 0, none⟩), .int .u64 (r.seed : Int), .int .i64 (r.mn : Int), .int .i64 (av : Int), .int .i64 (r.mx : Int), .int .u64 (mask : Int)] 95)).alloc (.cells #[.int .i64 0] 3)) 4 (.bool false)
  have hbw0 : Below w.heap.size w W0 := by rw [hW0]; exact (((Below.refl _ w).alloc (Nat.le_refl _) _).alloc (by simp) _).alloc (by simp; omega) _
  rw [← hW0] at hw' ⊢
  have hb01 : Below W0.heap.size W0 w' := by rw [hw']; exact ((Below.refl _ W0).alloc (Nat.le_refl _) _).alloc (by simp) _
  have hc1 : w'.cell? ⟨W0.heap.size, 0, none⟩ = some (.pointer (some ⟨g, 0, none⟩)) := by rw [hw']; exact ((Boxed.new W0 25 (.pointer (some ⟨g, 0, none⟩))).alloc (.cells #[.slice A n c] 23)).cell
  have hc2 : w'.cell? ⟨W0.heap.size + 1, 0, none⟩ = some (.slice A n c) := by rw [hw']; simp
  have hbw : Below w.heap.size w w' := hbw0.trans (hb01.mono hbw0.size)
  have HCv : Hid (Cv w w'.heap.size g r w') := Lib.hid ⟨(Gi.start HT.out).below hg hbw, hbk0.below hb01 (by omega), ⟨_, boxed_below hb10 hb01 (by omega)⟩, ⟨_, boxed_below hb20 hb01 (by omega)⟩, Nat.le_refl _⟩
  have HQ := Lib.hid (each_seq w g r.seed S A n c bs HT.out HX.out hn HS.out w' W0.heap.size (W0.heap.size + 1) hbw (by omega) hc1 hc2)
  have HSZ := Lib.hid hsz
  have hsB : w.heap.size + 2 < w'.heap.size := by omega
  have hgw : g < w'.heap.size := by omega
  have hsl : w.heap.size ≤ w'.heap.size := by omega
  clear hW0 hw' hs0 hsz hbk0 hb10 hb20 hbw0 hb01 hc1 hc2 hbw
  gi_wp2_with fail
  refine range_turns rfl (by omega) (gf := 41) (lb := #[.pointer (some ⟨W0.heap.size, 0, none⟩), .pointer (some ⟨W0.heap.size + 1, 0, none⟩)]) (w0 := w') ?gval trivial (enters_of Tryd.func41 (by kernel_rfl) rfl) (encs := eachV fun k => Gear.hash r.seed (bs.take k)) (Kp := Below w.heap.size) (N := n) (bg := g) (Gd := fun W' => Gr W' g r.seed 1 0 (Gear.row r.seed)) HQ.out
    (fun h k => h.trans k) (fun W l o o' hl h _ => below_put W l o' (by omega) (by have := (Array.getElem?_eq_some_iff.1 h).1; omega)) (Below.refl _ _) hgw (fun _ => rfl)
    (fun k W => Cv w w'.heap.size g r W ∧ ∀ j, 1 ≤ j → j ≤ k → Ch.stopB r bs j = false)
    (fun cd k W => Cx w w'.heap.size g r k true W ∧ cd = .ret ∧ Ch.stopB r bs k = true ∧ ∀ j, 1 ≤ j → j < k → Ch.stopB r bs j = false) ?turns ?marks ?turnsx ?marksx ⟨HCv.out, fun j h1 h2 => absurd h1 (by omega)⟩ ?a1 ?assign ?body ?done ?stop
  case gval => rfl
  case turns => exact fun k W W' h hg' hd => ⟨h.1.turn hg hg' (.inl hd), h.2⟩
  case turnsx => exact fun cd k W W' h hg' hd => ⟨h.1.turn hg hg' (.inl hd), h.2⟩
  case marks => exact marks_of (fun k W W' h hb => ⟨h.1.below hg hsB hb, h.2⟩) (fun k W h => h.1.sz)
  case marksx => exact fun cd => marks_of (fun k W W' h hb => ⟨h.1.below hg hsB hb, h.2⟩) (fun k W h => h.1.sz)
  case assign =>
    intro l x W K hK
    unfold eachV
    gi_wp2_with fail
    exact hK
  case body =>
    rintro l k W ⟨hE, hne⟩ hlt
    have HE := Lib.hid hE
    have HNE := Lib.hid hne
    have hbk := hE.bk
    rw [HK.out] at hbk
    obtain ⟨k0, k1, k2, k3, k4, k5, -⟩ := hbk.six
    obtain ⟨⟨u1, hu1⟩, ⟨u2, hu2⟩⟩ := And.intro hE.b1 hE.b2
    have c1 := hu1.cell
    have c2 := hu2.cell
    have f1 := hu1.frozen
    have f2 := hu2.frozen
    have HL := Lib.hid (hE.laid hg (k + 1) true)
    obtain ⟨h, hh⟩ : ∃ h, h = Gear.hash r.seed (bs.take (k + 1)) := ⟨_, rfl⟩
    have hhl : h < Gear.M := by rw [hh]; exact Gear.hash_lt _ _
    have hand := u64_and_nat h mask hhl hml
    have HST : Hid (Ch.stopB r bs (k + 1) = (k + 1 == r.mx || (decide (r.mn ≤ k + 1) && (h &&& mask == 0)))) := Lib.hid (by rw [hh, HM.out]; rfl)
    rw [← hh]
    clear hE hne hbk hu1 hu2 hh
    have hkw : (k : Int) + 1 ≤ 1000000001 := by omega
    have hcast : ((k + 1 : Nat) : Int) = (k : Int) + 1 := by omega
    rw [hcast] at HL
    rcases (show k + 1 = r.mx ∨ (k + 1 ≠ r.mx ∧ k + 1 < r.mn) ∨ (k + 1 ≠ r.mx ∧ r.mn ≤ k + 1) by omega) with hm | ⟨hm, hm2⟩ | ⟨hm, hm2⟩
    · have hb : ((k : Int) + 1 == (r.mx : Int)) = true := by simp; omega
      have HS1 : Hid (Ch.stopB r bs (k + 1) = true) := Lib.hid (by rw [HST.out, hm]; simp)
      clear hm hcast
      gi_wp2_with fail
      exact ⟨HL.out.2.2, HL.out.1, rfl, HS1.out, fun j h1 h2 => HNE.out j h1 (by omega)⟩
    · have hb : ((k : Int) + 1 == (r.mx : Int)) = false := by simp; omega
      have hb2 : decide ((r.mn : Int) ≤ (k : Int) + 1) = false := by simp; omega
      have HS1 : Hid (Ch.stopB r bs (k + 1) = false) := Lib.hid (by rw [HST.out]; simp [hm, Nat.not_le.2 hm2])
      clear hm hcast hm2
      gi_wp2_with fail
      exact ⟨KeepsFrom.refl _ _, Below.refl _ _, HE.out, fun j h1 h2 => (Nat.lt_succ_iff_lt_or_eq.1 (Nat.lt_succ_of_le h2)).elim (fun h => HNE.out j h1 (by omega)) (fun e => by rw [e]; exact HS1.out)⟩
    · have hb : ((k : Int) + 1 == (r.mx : Int)) = false := by simp; omega
      have hb2 : decide ((r.mn : Int) ≤ (k : Int) + 1) = true := by simp; omega
      obtain ⟨z, hz⟩ : ∃ z, z = h &&& mask := ⟨_, rfl⟩
      rw [← hz] at hand HST
      by_cases h0 : z = 0
      · subst h0
        have HS1 : Hid (Ch.stopB r bs (k + 1) = true) := Lib.hid (by rw [HST.out]; simp [hm2])
        have hand' : bits .and .u64 (h : Int) (mask : Int) = 0 := hand
        clear hm hcast hm2 hz hand
        gi_wp2_with fail
        exact ⟨HL.out.2.2, HL.out.1, rfl, HS1.out, fun j h1 h2 => HNE.out j h1 (by omega)⟩
      · have HS1 : Hid (Ch.stopB r bs (k + 1) = false) := Lib.hid (by rw [HST.out]; simp [hm, h0])
        have hz0 : ((z : Int) == 0) = false := by simp; omega
        clear hm hcast hm2 hz h0
        gi_wp2_with fail
        exact ⟨KeepsFrom.refl _ _, Below.refl _ _, HE.out, fun j h1 h2 => (Nat.lt_succ_iff_lt_or_eq.1 (Nat.lt_succ_of_le h2)).elim (fun h => HNE.out j h1 (by omega)) (fun e => by rw [e]; exact HS1.out)⟩
  case done =>
    rintro D W hD ⟨hE, hne⟩ hK
    have HN : Hid (Ch.cutS r bs = none) := Lib.hid (Ch.cut_none_of fun j h1 h2 => hne j h1 (by rw [← HX.out.len]; exact h2))
    have HL := Lib.hid (hE.laid hg n false)
    obtain ⟨⟨u1, hu1⟩, ⟨u2, hu2⟩⟩ := And.intro hE.b1 hE.b2
    have c1 := hu1.cell
    have c2 := hu2.cell
    have f1 := hu1.frozen
    have f2 := hu2.frozen
    have HKK := Lib.hid hK
    clear hE hne hu1 hu2 hK
    gi_wp2_with fail
    have hK' := HL.out.2.2.same D _ hD HKK.out rfl
    obtain ⟨W9, hW9⟩ : ∃ W9, W9 = ((W.setCell ⟨w.heap.size + 1, 0, none⟩ (.int .i64 (n : Int))).setCell ⟨w.heap.size + 1 + 1, 0, none⟩ (.bool false)) := ⟨_, rfl⟩
    have hX9 := HL.out.1
    rw [← hW9] at hX9 hK' ⊢
    refine ⟨by simp, .inl ⟨_, _, rfl, run_takeDeferred hK', ?_⟩⟩
    have hc5 := cell_kept hX9.b1.cell (grownBy_putObj' _ D (.deferred none)) (fun r e => by cases e; exact ⟨_, hK', rfl⟩)
    have hc6 := cell_kept hX9.b2.cell (grownBy_putObj' _ D (.deferred none)) (fun r e => by cases e; exact ⟨_, hK', rfl⟩)
    refine ⟨.tuple #[.int .i64 (n : Int), .bool false], ?_, by rw [cutN, HN.out, Option.getD_none, HX.out.len]; rfl, hX9.gi.below hg (below_put _ _ _ (by omega) (by have := hX9.sz; omega))⟩
    simp [results, Tryd.f49, go_sem, hc5, hc6]
  case stop =>
    rintro D cd k W hD h0 hN ⟨hX, rfl, hs, hj⟩ hK
    have HN : Hid (Ch.cutS r bs = some k) := Lib.hid (Ch.cut_of h0 (by rw [HX.out.len]; exact hN) hs hj)
    have HXX := Lib.hid hX
    have HKK := Lib.hid hK
    clear hX hs hj hK
    gi_wp2_with fail
    refine ⟨by simp, .inl ⟨_, _, rfl, run_takeDeferred HKK.out, ?_⟩⟩
    have hc5 := cell_kept HXX.out.b1.cell (grownBy_putObj' _ D (.deferred none)) (fun r e => by cases e; exact ⟨_, HKK.out, rfl⟩)
    have hc6 := cell_kept HXX.out.b2.cell (grownBy_putObj' _ D (.deferred none)) (fun r e => by cases e; exact ⟨_, HKK.out, rfl⟩)
    refine ⟨.tuple #[.int .i64 (k : Int), .bool true], ?_, by rw [cutN, HN.out]; rfl, HXX.out.gi.below hg (below_put _ _ _ (by omega) (by have := HXX.out.sz; omega))⟩
    simp [results, Tryd.f49, go_sem, hc5, hc6]
end Go.Proofs.YtognkonncfjneaaDoor
