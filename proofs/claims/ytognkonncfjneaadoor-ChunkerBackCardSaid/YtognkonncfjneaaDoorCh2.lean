/- The walk of knife (chunker). Conditions: each theorem's premises. -/
import Derived.Test.YtognkonncfjneaaDoorCh1
import Derived.Deep.RegionWith
import Derived.Test.YtognkonncfjneaaDoorGearFinds1
namespace Go.Proofs.YtognkonncfjneaaDoor
open Go.RowKit
/-- A rule, a knife, as values. -/
def Ch.Rule.v (r : Ch.Rule) : Array Value := #[.int .u64 (r.seed : Int), .int .i64 (r.mn : Int), .int .i64 ((2 ^ r.k : Nat) : Int), .int .i64 (r.mx : Int)]
def knifeV (g : Nat) (r : Ch.Rule) : Array Value := #[.pointer (some ⟨g, 0, none⟩), .int .u64 (r.seed : Int), .int .i64 (r.mn : Int), .int .i64 ((2 ^ r.k : Nat) : Int), .int .i64 (r.mx : Int), .int .u64 ((Gear.maskK r.k : Nat) : Int)]
theorem next_below {W w1 w2 : World} (h : Hid (Below W.heap.size W w1)) (k : Below w1.heap.size w1 w2) : Hid (Below W.heap.size W w2) := Lib.hid (h.out.trans (k.mono h.out.size))
theorem Blk.six {w : World} {g : Nat} {t : TypeId} {a b c d x y : Value} (h : Blk w g t #[a, b, c, d, x, y]) :
    w.cell? ⟨g, 0, none⟩ = some a ∧ w.cell? ⟨g, 1, none⟩ = some b ∧ w.cell? ⟨g, 2, none⟩ = some c ∧ w.cell? ⟨g, 3, none⟩ = some d ∧ w.cell? ⟨g, 4, none⟩ = some x ∧ w.cell? ⟨g, 5, none⟩ = some y ∧
    w.frozen? ⟨g, 0, none⟩ = false ∧ w.frozen? ⟨g, 1, none⟩ = false ∧ w.frozen? ⟨g, 2, none⟩ = false ∧ w.frozen? ⟨g, 3, none⟩ = false ∧ w.frozen? ⟨g, 4, none⟩ = false ∧ w.frozen? ⟨g, 5, none⟩ = false ∧ g < w.heap.size :=
  ⟨h.cell 0, h.cell 1, h.cell 2, h.cell 3, h.cell 4, h.cell 5, h.frozen 0, h.frozen 1, h.frozen 2, h.frozen 3, h.frozen 4, h.frozen 5, h.lt⟩
theorem hold_four {W w' : World} {g1 t1 : Nat} {a b c d : Value} (h1 : Blk W g1 t1 #[a, b, c, d]) (hB : Hid (Below W.heap.size W w')) :
    w'.cell? ⟨g1, 0, none⟩ = some a ∧ w'.cell? ⟨g1, 1, none⟩ = some b ∧ w'.cell? ⟨g1, 2, none⟩ = some c ∧ w'.cell? ⟨g1, 3, none⟩ = some d := by
  obtain ⟨y0, y1, y2, y3, -⟩ := (h1.after hB.out).four
  exact ⟨y0, y1, y2, y3⟩
theorem set6_other (w : World) (g : Nat) (a b c d x y : Value) (p : Addr) (h : p.block ≠ g) : ((((((w.setCell ⟨g, 0, none⟩ a).setCell ⟨g, 1, none⟩ b).setCell ⟨g, 2, none⟩ c).setCell ⟨g, 3, none⟩ d).setCell ⟨g, 4, none⟩ x).setCell ⟨g, 5, none⟩ y).cell? p = w.cell? p := by
  have ne : ∀ i, (⟨g, i, none⟩ : Addr) ≠ p := fun i e => h (by rw [← e])
  rw [World.cell?_setCell_other _ _ _ _ (ne _), World.cell?_setCell_other _ _ _ _ (ne _), World.cell?_setCell_other _ _ _ _ (ne _), World.cell?_setCell_other _ _ _ _ (ne _), World.cell?_setCell_other _ _ _ _ (ne _), World.cell?_setCell_other _ _ _ _ (ne _)]
theorem set6_blk {w : World} {g : Nat} {t : TypeId} {a b c d x y : Value} (h : Blk w g t #[a, b, c, d, x, y]) (a' b' c' d' x' y' : Value) : Blk ((((((w.setCell ⟨g, 0, none⟩ a').setCell ⟨g, 1, none⟩ b').setCell ⟨g, 2, none⟩ c').setCell ⟨g, 3, none⟩ d').setCell ⟨g, 4, none⟩ x').setCell ⟨g, 5, none⟩ y') g t #[a', b', c', d', x', y'] := by
  have := (((((h.set_ 0 a').set_ 1 b').set_ 2 c').set_ 3 d').set_ 4 x').set_ 5 y'
  simpa using this
theorem set6_below {B : Nat} {w0 w : World} (h : Below B w0 w) (g : Nat) (hg : B ≤ g) (a b c d x y : Value) : Below B w0 ((((((w.setCell ⟨g, 0, none⟩ a).setCell ⟨g, 1, none⟩ b).setCell ⟨g, 2, none⟩ c).setCell ⟨g, 3, none⟩ d).setCell ⟨g, 4, none⟩ x).setCell ⟨g, 5, none⟩ y) :=
  (((((h.setCell (p := ⟨g, 0, none⟩) hg a).setCell (p := ⟨g, 1, none⟩) hg b).setCell (p := ⟨g, 2, none⟩) hg c).setCell (p := ⟨g, 3, none⟩) hg d).setCell (p := ⟨g, 4, none⟩) hg x).setCell (p := ⟨g, 5, none⟩) hg y
theorem set6_only {X : Nat → Prop} {w0 w : World} {g : Nat} (h : Only X w0 w) (hg : X g) (a b c d x y : Value) : Only X w0 ((((((w.setCell ⟨g, 0, none⟩ a).setCell ⟨g, 1, none⟩ b).setCell ⟨g, 2, none⟩ c).setCell ⟨g, 3, none⟩ d).setCell ⟨g, 4, none⟩ x).setCell ⟨g, 5, none⟩ y) :=
  (((((h.setCell (p := ⟨g, 0, none⟩) (.inl hg) a).setCell (p := ⟨g, 1, none⟩) (.inl hg) b).setCell (p := ⟨g, 2, none⟩) (.inl hg) c).setCell (p := ⟨g, 3, none⟩) (.inl hg) d).setCell (p := ⟨g, 4, none⟩) (.inl hg) x).setCell (p := ⟨g, 5, none⟩) (.inl hg) y
theorem hold_set {w1 : World} {h g : Nat} {a b c d a' b' c' d' x' y' : Value} (hne : h ≠ g) (y0 : w1.cell? ⟨h, 0, none⟩ = some a) (y1 : w1.cell? ⟨h, 1, none⟩ = some b) (y2 : w1.cell? ⟨h, 2, none⟩ = some c) (y3 : w1.cell? ⟨h, 3, none⟩ = some d) :
    ((((((w1.setCell ⟨g, 0, none⟩ a').setCell ⟨g, 1, none⟩ b').setCell ⟨g, 2, none⟩ c').setCell ⟨g, 3, none⟩ d').setCell ⟨g, 4, none⟩ x').setCell ⟨g, 5, none⟩ y').cell? ⟨h, 0, none⟩ = some a ∧ ((((((w1.setCell ⟨g, 0, none⟩ a').setCell ⟨g, 1, none⟩ b').setCell ⟨g, 2, none⟩ c').setCell ⟨g, 3, none⟩ d').setCell ⟨g, 4, none⟩ x').setCell ⟨g, 5, none⟩ y').cell? ⟨h, 1, none⟩ = some b ∧
    ((((((w1.setCell ⟨g, 0, none⟩ a').setCell ⟨g, 1, none⟩ b').setCell ⟨g, 2, none⟩ c').setCell ⟨g, 3, none⟩ d').setCell ⟨g, 4, none⟩ x').setCell ⟨g, 5, none⟩ y').cell? ⟨h, 2, none⟩ = some c ∧ ((((((w1.setCell ⟨g, 0, none⟩ a').setCell ⟨g, 1, none⟩ b').setCell ⟨g, 2, none⟩ c').setCell ⟨g, 3, none⟩ d').setCell ⟨g, 4, none⟩ x').setCell ⟨g, 5, none⟩ y').cell? ⟨h, 3, none⟩ = some d := by
  rw [set6_other _ _ _ _ _ _ _ _ _ hne, set6_other _ _ _ _ _ _ _ _ _ hne, set6_other _ _ _ _ _ _ _ _ _ hne, set6_other _ _ _ _ _ _ _ _ _ hne]
  exact ⟨y0, y1, y2, y3⟩
section
variable {fn : Func} {i T j k : Nat} {W : World} {a : Addr} {v : Value} {tmps : Array Value} {P : Program}
theorem results_cell1 (h : fn.results = #[.cell i T]) (ht : tmps.getD i undef = .pointer (some a)) (hl : (loadVar T a).run P W = .ok v W) : (results fn tmps).run P W = .ok v W := by
  simp only [Array.getD_eq_getD_getElem?] at ht
  simp [results, h, ht, asAddr, hl]
theorem results_cell2 (h : fn.results = #[.cell i T, .tmp j]) (ht : tmps.getD i undef = .pointer (some a)) (hl : (loadVar T a).run P W = .ok v W) : (results fn tmps).run P W = .ok (.tuple #[v, tmps.getD j undef]) W := by
  simp only [Array.getD_eq_getD_getElem?] at ht
  simp [results, h, ht, asAddr, hl]
end
theorem load95 {W : World} {g t : Nat} {a b c d x y : Value} (hB : Blk W g t #[a, b, c, d, x, y]) : (loadVar 95 ⟨g, 0, none⟩).run Tryd.prog W = .ok (.agg #[a, b, c, d, x, y]) W := by
  obtain ⟨z0, z1, z2, z3, z4, z5, -⟩ := hB.six
  simp [loadVar, go_sem, z0, z1, z2, z3, z4, z5]
theorem load42 {W : World} {g t : Nat} {v : Value} (hB : Boxed W g t v) : (loadVar 42 ⟨g, 0, none⟩).run Tryd.prog W = .ok v W := by
  have z0 := hB.cell
  simp [loadVar, go_sem, z0]
set_option maxHeartbeats 400000 in
theorem knife_any (w : World) (r : Ch.Rule) (hT : Tab64 w) :
    Calls Tryd.prog 45 #[.agg r.v] w fun e w' => e = .returned (.agg (knifeV (w.heap.size + 2) r)) ∧ Grl w' (w.heap.size + 2) r.seed ∧ Below w.heap.size w w' := by
  obtain ⟨av, hav⟩ : ∃ av, av = 2 ^ r.k := ⟨_, rfl⟩
  have HM : Hid (∀ w', Below w.heap.size w w' → Calls Tryd.prog 15 #[.int .i64 (av : Int)] w' fun e w'' => e = .returned (.int .u64 ((Gear.maskK r.k : Nat) : Int)) ∧ w' = w'') := Lib.hid (by rw [hav]; exact fun w' hb => mask_rule w' r (Tab64.below hT hb))
  have HF := Lib.hid r.few
  unfold Ch.Rule.v knifeV
  rw [← hav]
  clear hav hT
  go_enter Tryd.func45, Tryd.ntmps45
  go_wp2_with fail
  obtain ⟨W, hW⟩ : ∃ W, W = (w.alloc (.cells #[.int .u64 (r.seed : Int), .int .i64 (r.mn : Int), .int .i64 (av : Int), .int .i64 (r.mx : Int)] 46)).alloc (.cells #[.pointer none, .int .u64 0, .int .i64 0, .int .i64 0, .int .i64 0, .int .u64 0] 95) := ⟨_, rfl⟩
  have hsz : W.heap.size = w.heap.size + 2 := by rw [hW]; simp
  have b1 : Hid (Blk W w.heap.size 46 #[.int .u64 (r.seed : Int), .int .i64 (r.mn : Int), .int .i64 (av : Int), .int .i64 (r.mx : Int)]) := Lib.hid (by rw [hW]; exact (Blk.new w _ _).alloc _)
  have b2 : Hid (Blk W (w.heap.size + 1) 95 #[.pointer none, .int .u64 0, .int .i64 0, .int .i64 0, .int .i64 0, .int .u64 0]) := Lib.hid (by rw [hW]; simpa using Blk.new (w.alloc (.cells #[.int .u64 (r.seed : Int), .int .i64 (r.mn : Int), .int .i64 (av : Int), .int .i64 (r.mx : Int)] 46)) 95 #[.pointer none, .int .u64 0, .int .i64 0, .int .i64 0, .int .i64 0, .int .u64 0])
  have HbW : Hid (Below w.heap.size w W) := Lib.hid (by rw [hW]; exact ((Below.refl _ w).alloc (Nat.le_refl _) _).alloc (by simp) _)
  rw [← hW]
  have HSZ := Lib.hid hsz
  clear hW hsz
  obtain ⟨y0, y1, y2, y3⟩ := hold_four b1.out (Lib.hid (Below.refl _ W).drew)
  have hB0 : Hid (Below W.heap.size W W.drew) := Lib.hid (Below.refl _ _).drew
  have HM2 : Hid (∀ w', Hid (Below W.heap.size W w') → Calls Tryd.prog 15 #[.int .i64 (av : Int)] w' fun e w'' => e = .returned (.int .u64 ((Gear.maskK r.k : Nat) : Int)) ∧ w' = w'') := Lib.hid fun w' hb => HM.out w' (HbW.out.trans (hb.out.mono HbW.out.size))
  clear HM
  have HNE : Hid (w.heap.size ≠ w.heap.size + 1) := Lib.hid (by omega)
  go_region_held3 (fun w' => w'.cell? ⟨w.heap.size, 0, none⟩ = some (.int .u64 (r.seed : Int)) ∧ w'.cell? ⟨w.heap.size, 1, none⟩ = some (.int .i64 (r.mn : Int)) ∧ w'.cell? ⟨w.heap.size, 2, none⟩ = some (.int .i64 (av : Int)) ∧ w'.cell? ⟨w.heap.size, 3, none⟩ = some (.int .i64 (r.mx : Int))) (first | (with_reducible exact ⟨y0, y1, y2, y3⟩) | (with_reducible exact hold_set HNE.out y0 y1 y2 y3)) (first | (go_at_call 12; refine (new_any _ r.seed HF.out).mono ?_; rintro e w1 ⟨rfl, hT1, hb1⟩; have HT1 := Lib.hid hT1; have hB1 := next_below (by assumption) hb1; obtain ⟨z0, z1, z2, z3, z4, z5, f0, f1, f2, f3, f4, f5, -⟩ := (b2.out.after hB1.out).six; obtain ⟨y0, y1, y2, y3⟩ := hold_four b1.out hB1; clear hT1 hb1) | (go_at_call 15; refine (HM2.out _ (by assumption)).mono ?_; rintro e w2 ⟨rfl, rfl⟩))
  obtain ⟨W5, hW5⟩ : ∃ W5, W5 = ((((((w1.setCell ⟨w.heap.size + 1, 0, none⟩ (.pointer (some ⟨W.heap.size, 0, none⟩))).setCell ⟨w.heap.size + 1, 1, none⟩ (.int .u64 (r.seed : Int))).setCell ⟨w.heap.size + 1, 2, none⟩ (.int .i64 (r.mn : Int))).setCell ⟨w.heap.size + 1, 3, none⟩ (.int .i64 (av : Int))).setCell ⟨w.heap.size + 1, 4, none⟩ (.int .i64 (r.mx : Int))).setCell ⟨w.heap.size + 1, 5, none⟩ (.int .u64 ((Gear.maskK r.k : Nat) : Int))) := ⟨_, rfl⟩
  have HB5 : Hid (Blk W5 (w.heap.size + 1) 95 #[.pointer (some ⟨W.heap.size, 0, none⟩), .int .u64 (r.seed : Int), .int .i64 (r.mn : Int), .int .i64 (av : Int), .int .i64 (r.mx : Int), .int .u64 ((Gear.maskK r.k : Nat) : Int)]) := Lib.hid (by rw [hW5]; exact set6_blk (b2.out.after hB1.out) _ _ _ _ _ _)
  have HZ5 : Hid (Below w.heap.size w W5) := Lib.hid (by rw [hW5]; exact set6_below (HbW.out.trans (hB1.out.mono HbW.out.size)) _ (by omega) _ _ _ _ _ _)
  have HX5 : Hid (Only (fun k => k = w.heap.size + 1) w1 W5) := Lib.hid (by rw [hW5]; exact set6_only (X := fun k => k = w.heap.size + 1) (Only.refl _ w1) rfl _ _ _ _ _ _)
  rw [← hW5]
  clear hW5 z0 z1 z2 z3 z4 z5 f0 f1 f2 f3 f4 f5 y0 y1 y2 y3
  go_wp2_with fail
  refine bodyPost_ret (results_cell1 rfl rfl (load95 HB5.out)) rfl ⟨by rw [HSZ.out], ?_, HZ5.out⟩
  rw [← HSZ.out]
  exact Grl.but (.inr ⟨_, HT1.out⟩) HX5.out (by have := HSZ.out; show ¬ W.heap.size = _; omega)
end Go.Proofs.YtognkonncfjneaaDoor
