/- A stream in memory; the walks of Open, over, Left, Close (chunker). Conditions: each theorem's premises. -/
import Derived.Test.YtognkonncfjneaaDoorCh10
namespace Go.Proofs.YtognkonncfjneaaDoor
open Go.RowKit
/-- A stream's cells. -/
def strV (g : Nat) (r : Ch.Rule) (lv : Value) (cl : Bool) : Array Value := #[.pointer (some ⟨g, 0, none⟩), .int .u64 (r.seed : Int), .int .i64 (r.mn : Int), .int .i64 ((2 ^ r.k : Nat) : Int), .int .i64 (r.mx : Int), .int .u64 ((Gear.maskK r.k : Nat) : Int), lv, .bool cl]
/-- A stream: its block, its gear, what is left. -/
structure St (w : World) (s g : Nat) (r : Ch.Rule) (lv : Value) (left : List UInt8) (cl : Bool) : Prop where
  bk : Blk w s 105 (strV g r lv cl)
  gr : Grl w g r.seed
  ow : w.ownsRow (s + 1) 5 1 lv left.length (u8s left)
  lt : g < s
theorem own_bs' {w : World} {base n : Nat} {v : Value} {xs : List UInt8} (h : w.ownsRow base 5 1 v n (u8s xs)) : ∃ A c, v = .slice A n c ∧ Bs w (fun k => v.ownBlock = some k) A n c xs := by
  obtain ⟨A, c, rfl, hb⟩ := own_bs h
  refine ⟨A, c, rfl, hb.len, hb.cap, hb.rd.1, fun hn => ?_⟩
  obtain ⟨ad, rfl, _, hc⟩ := hb.rd.2 hn
  exact ⟨ad, rfl, rfl, hc⟩
theorem own_but {w w' : World} {X : Nat → Prop} {base n size : Nat} {e : TypeId} {v : Value} {xs : List Value} (h : w.ownsRow base e size v n xs) (ho : Only X w w') (hX : ∀ k, v.ownBlock = some k → ¬ X k) : w'.ownsRow base e size v n xs := by
  refine ⟨h.1, h.2.imp id ?_⟩
  rintro ⟨g, cap, cur, rfl, hg, hh, r⟩
  exact ⟨g, cap, cur, rfl, hg, (ho.block g (Array.getElem?_eq_some_iff.1 hh).1 (hX g rfl)).trans hh, r⟩
theorem St.but {w w' : World} {s g : Nat} {r : Ch.Rule} {lv : Value} {left : List UInt8} {cl : Bool} {X : Nat → Prop} (h : St w s g r lv left cl) (ho : Only X w w') (h1 : ¬ X s) (h2 : ¬ X g) (h3 : ∀ k, lv.ownBlock = some k → ¬ X k) : St w' s g r lv left cl :=
  ⟨h.bk.but ho h1, h.gr.but ho h2, own_but h.ow ho h3, h.lt⟩
theorem St.after {w w' : World} {s g : Nat} {r : Ch.Rule} {lv : Value} {left : List UInt8} {cl : Bool} (h : St w s g r lv left cl) (hb : Below w.heap.size w w') : St w' s g r lv left cl :=
  h.but (X := fun k => w.heap.size ≤ k) (.of_below hb fun k hk _ => hk) (by have := h.bk.lt; omega) (by have := h.gr.lt; omega) (fun k hk => by have := (h.ow.lt k hk).2; omega)
theorem Blk.eight {w : World} {g : Nat} {t : TypeId} {a b c d x y z u : Value} (h : Blk w g t #[a, b, c, d, x, y, z, u]) :
    w.cell? ⟨g, 0, none⟩ = some a ∧ w.cell? ⟨g, 1, none⟩ = some b ∧ w.cell? ⟨g, 2, none⟩ = some c ∧ w.cell? ⟨g, 3, none⟩ = some d ∧ w.cell? ⟨g, 4, none⟩ = some x ∧ w.cell? ⟨g, 5, none⟩ = some y ∧ w.cell? ⟨g, 6, none⟩ = some z ∧ w.cell? ⟨g, 7, none⟩ = some u ∧
    w.frozen? ⟨g, 6, none⟩ = false ∧ w.frozen? ⟨g, 7, none⟩ = false ∧ g < w.heap.size :=
  ⟨h.cell 0, h.cell 1, h.cell 2, h.cell 3, h.cell 4, h.cell 5, h.cell 6, h.cell 7, h.frozen 6, h.frozen 7, h.lt⟩
theorem over_nil (w : World) : Calls Tryd.prog 52 #[.pointer none] w fun e w' => e = .returned (.int .i64 18) ∧ w = w' := by
  go_enter Tryd.func52, Tryd.ntmps52
  go_wp2_with fail
  go_ret
  exact ⟨rfl, rfl⟩
theorem over_closed (w : World) (s : Nat) (h : w.cell? ⟨s, 7, none⟩ = some (.bool true)) : Calls Tryd.prog 52 #[.pointer (some ⟨s, 0, none⟩)] w fun e w' => e = .returned (.int .i64 13) ∧ w = w' := by
  go_enter Tryd.func52, Tryd.ntmps52
  go_wp2_with fail
  go_ret
  exact ⟨rfl, rfl⟩
theorem over_open (w : World) (s : Nat) (h : w.cell? ⟨s, 7, none⟩ = some (.bool false)) : Calls Tryd.prog 52 #[.pointer (some ⟨s, 0, none⟩)] w fun e w' => e = .returned (.int .i64 0) ∧ w = w' := by
  go_enter Tryd.func52, Tryd.ntmps52
  go_wp2_with fail
  go_ret
  exact ⟨rfl, rfl⟩
theorem left_nil (w : World) : Calls Tryd.prog 37 #[.pointer none] w fun e w' => e = .returned (.int .i64 0) ∧ w = w' := by
  go_enter Tryd.func37, Tryd.ntmps37
  go_wp2_with fail
  go_ret
  exact ⟨rfl, rfl⟩
theorem left_any (w : World) (s : Nat) (A : Option Addr) (n c : Nat) (h : w.cell? ⟨s, 6, none⟩ = some (.slice A n c)) : Calls Tryd.prog 37 #[.pointer (some ⟨s, 0, none⟩)] w fun e w' => e = .returned (.int .i64 (n : Int)) ∧ w = w' := by
  go_enter Tryd.func37, Tryd.ntmps37
  go_wp2_with fail
  go_ret
  exact ⟨rfl, rfl⟩
theorem close_nil (w : World) : Calls Tryd.prog 38 #[.pointer none] w fun e w' => e = .returned (.tuple #[.slice none 0 0, .int .i64 18]) ∧ w = w' := by
  go_enter Tryd.func38, Tryd.ntmps38
  go_wp2_with fail
  refine (over_nil _).mono ?_
  rintro e w' ⟨rfl, rfl⟩
  go_wp2_with fail
  go_ret2
  exact ⟨rfl, rfl⟩
theorem close_closed (w : World) (s : Nat) (h : w.cell? ⟨s, 7, none⟩ = some (.bool true)) : Calls Tryd.prog 38 #[.pointer (some ⟨s, 0, none⟩)] w fun e w' => e = .returned (.tuple #[.slice none 0 0, .int .i64 13]) ∧ w = w' := by
  go_enter Tryd.func38, Tryd.ntmps38
  go_wp2_with fail
  refine (over_closed _ s h).mono ?_
  rintro e w' ⟨rfl, rfl⟩
  go_wp2_with fail
  go_ret2
  exact ⟨rfl, rfl⟩
theorem close_open (w : World) (s g : Nat) (r : Ch.Rule) (lv : Value) (left : List UInt8) (h : St w s g r lv left false) :
    Calls Tryd.prog 38 #[.pointer (some ⟨s, 0, none⟩)] w fun e w' => e = .returned (.tuple #[lv, .int .i64 0]) ∧ Only (fun k => k = s) w w' ∧ St w' s g r (.slice none 0 0) [] true := by
  obtain ⟨A, c, hlv, -⟩ := own_shape h.ow
  subst hlv
  obtain ⟨k0, k1, k2, k3, k4, k5, k6, k7, f6, f7, hs⟩ := h.bk.eight
  have H := Lib.hid h
  clear h
  go_enter Tryd.func38, Tryd.ntmps38
  go_wp2_with fail
  refine (over_open _ s k7).mono ?_
  rintro e w' ⟨rfl, rfl⟩
  go_wp2_with fail
  go_ret2
  have ho : Only (fun k => k = s) w ((w.setCell ⟨s, 6, none⟩ (.slice none 0 0)).setCell ⟨s, 7, none⟩ (.bool true)) := ((Only.refl (fun k => k = s) w).setCell (p := ⟨s, 6, none⟩) (.inl rfl) _).setCell (p := ⟨s, 7, none⟩) (.inl rfl) _
  refine ⟨rfl, ho, ?_, H.out.gr.but ho (by have := H.out.lt; omega), World.ownsRow_nil _ _ _ _, H.out.lt⟩
  have := ((H.out.bk.set_ 6 (.slice none 0 0)).set_ 7 (.bool true))
  simpa [strV] using this
/-- Open. -/
theorem open_no (w : World) (seed : Nat) (mn av mx : Int) (hr : ¬ RRight mn av mx) :
    Calls Tryd.prog 34 #[.agg #[.int .u64 (seed : Int), .int .i64 mn, .int .i64 av, .int .i64 mx]] w fun e w' => e = .returned (.tuple #[.pointer none, .int .i64 1]) ∧ Below w.heap.size w w' := by
  have HC : Hid (∀ w', Calls Tryd.prog 26 #[.agg #[.int .u64 (seed : Int), .int .i64 mn, .int .i64 av, .int .i64 mx]] w' fun e w'' => e = .returned (.bool false) ∧ Below w'.heap.size w' w'') := Lib.hid fun w' => cright_no w' seed mn av mx hr
  have h0 : Hid (∀ o, Below w.heap.size w (w.alloc o)) := Lib.hid fun o => (Below.refl _ w).alloc (Nat.le_refl _) _
  clear hr
  go_enter Tryd.func34, Tryd.ntmps34
  go_wp2_with fail
  refine (HC.out _).mono ?_
  rintro e w1 ⟨rfl, hb1⟩
  have HB1 := Lib.hid ((h0.out _).trans (hb1.mono (h0.out _).size))
  clear hb1
  go_wp2_with fail
  go_ret2
  exact ⟨rfl, HB1.out⟩
def OpenEnd (w : World) (r : Ch.Rule) (e : Ending) (w' : World) : Prop := ∃ s g, e = .returned (.tuple #[.pointer (some ⟨s, 0, none⟩), .int .i64 0]) ∧ St w' s g r (.slice none 0 0) [] false ∧ w.heap.size ≤ g ∧ Below w.heap.size w w'
set_option maxHeartbeats 1000000 in
theorem open_yes (w : World) (r : Ch.Rule) (hT : Tab64 w) : Calls Tryd.prog 34 #[.agg r.v] w (OpenEnd w r) := by
  obtain ⟨av, hav⟩ : ∃ av, av = 2 ^ r.k := ⟨_, rfl⟩
  obtain ⟨mask, hmask⟩ : ∃ mask, mask = Gear.maskK r.k := ⟨_, rfl⟩
  have HV : Hid (r.v = #[.int .u64 (r.seed : Int), .int .i64 (r.mn : Int), .int .i64 (av : Int), .int .i64 (r.mx : Int)]) := Lib.hid (by rw [hav]; rfl)
  have HK : Hid (∀ g, knifeV g r = #[.pointer (some ⟨g, 0, none⟩), .int .u64 (r.seed : Int), .int .i64 (r.mn : Int), .int .i64 (av : Int), .int .i64 (r.mx : Int), .int .u64 (mask : Int)]) := Lib.hid (by rw [hav, hmask]; exact fun g => rfl)
  have HSV : Hid (∀ g lv cl, strV g r lv cl = #[.pointer (some ⟨g, 0, none⟩), .int .u64 (r.seed : Int), .int .i64 (r.mn : Int), .int .i64 (av : Int), .int .i64 (r.mx : Int), .int .u64 (mask : Int), lv, .bool cl]) := Lib.hid (by rw [hav, hmask]; exact fun g lv cl => rfl)
  have HC : Hid (∀ w', Calls Tryd.prog 26 #[.agg r.v] w' fun e w'' => e = .returned (.bool true) ∧ Below w'.heap.size w' w'') := Lib.hid fun w' => cright_yes w' r
  have HN : Hid (∀ w', Below w.heap.size w w' → Calls Tryd.prog 45 #[.agg r.v] w' fun e w'' => e = .returned (.agg (knifeV (w'.heap.size + 2) r)) ∧ Grl w'' (w'.heap.size + 2) r.seed ∧ Below w'.heap.size w' w'') := Lib.hid fun w' hb => knife_any w' r (Tab64.below hT hb)
  have h0 : Hid (Blk (w.alloc (.cells r.v 46)) w.heap.size 46 r.v ∧ Below w.heap.size w (w.alloc (.cells r.v 46))) := Lib.hid ⟨Blk.new w _ _, (Below.refl _ w).alloc (Nat.le_refl _) _⟩
  rw [HV.out] at HC HN h0 ⊢
  clear hT hav hmask HV
  go_enter Tryd.func34, Tryd.ntmps34
  go_wp2_with fail
  refine (HC.out _).mono ?_
  rintro e w1 ⟨rfl, hb1⟩
  have h1 := And.intro (h0.out.1.after hb1) (h0.out.2.trans (hb1.mono h0.out.2.size))
  have H1 := Lib.hid h1
  obtain ⟨k0, k1, k2, k3, hl1⟩ := h1.1.four
  clear hb1 h1 h0
  go_wp2_with fail
  refine (HN.out w1 H1.out.2).mono ?_
  rintro e w2 ⟨rfl, hg2, hb2⟩
  have HG2 := Lib.hid (And.intro hg2 (H1.out.2.trans (hb2.mono H1.out.2.size)))
  have hl2 := hg2.lt
  have hs1 := H1.out.2.size
  clear hg2 hb2 k0 k1 k2 k3
  rw [HK.out]
  go_wp2_with fail
  go_ret2
  refine ⟨w2.heap.size, w1.heap.size + 2, rfl, ⟨?_, HG2.out.1.after ((Below.refl _ _).alloc (Nat.le_refl _) _), World.ownsRow_nil _ _ _ _, hl2⟩, by omega, HG2.out.2.alloc HG2.out.2.size _⟩
  rw [HSV.out]
  exact Blk.new w2 105 _
end Go.Proofs.YtognkonncfjneaaDoor
