/- The walk of GearWindow. Conditions: each theorem's premises. -/
import Derived.Test.YtognkonncfjneaaDoorGearEach1
import Derived.Test.YtognkonncfjneaaDoorGearSpec2
import Derived.Test.YtognkonncfjneaaDoorAppendIn
namespace Go.Proofs.YtognkonncfjneaaDoor
open Go.RowKit Go.Shelf
attribute [local go_sem] Oper.semAt_some
/-- What lies behind the appends of GearWindow. -/
structure Wv (w : World) (g seed : Nat) (A : Option Addr) (n c : Nat) (bs : List UInt8) (W : World) : Prop where
  gr : Grl W g seed
  be : Below w.heap.size w W
  bx : Boxed W w.heap.size 4 (.bool false)
  al : Bs W (fun k => g < k) A n c bs
theorem Wv.gi {w W W' : World} {g seed : Nat} {A : Option Addr} {n c : Nat} {bs : List UInt8} (h : Wv w g seed A n c bs W) (hg : w.heap.size < g) (hi : Gi W g seed W') : Wv w g seed A n c bs W' :=
  ⟨hi.1, h.be.trans (only_below hi.2 (by omega) h.be.size), h.bx.kept hi.2 (by intro e; injection e with e; omega), h.al.only hi.2 (fun k hk _ e => by omega)⟩
theorem Wv.after {w W W' : World} {g seed : Nat} {A : Option Addr} {n c : Nat} {bs : List UInt8} (h : Wv w g seed A n c bs W) (hb : Below W.heap.size W W') : Wv w g seed A n c bs W' :=
  ⟨h.gr.after hb, h.be.trans (hb.mono h.be.size), boxed_below h.bx hb h.bx.lt, h.al.after hb⟩
set_option maxRecDepth 100000 in
set_option maxHeartbeats 2000000 in
theorem gearWindow_any (w : World) (seed : Nat) (hs : seed < Gear.M) (S1 S2 : Nat → Prop) (A1 A2 : Option Addr) (n1 n2 c1 c2 : Nat) (b1 b2 : List UInt8) (hx1 : Bs w S1 A1 n1 c1 b1) (hx2 : Bs w S2 A2 n2 c2 b2) (hT : Tab64 w) :
    Calls Tryd.prog 6 #[.int .u64 (seed : Int), .slice A1 n1 c1, .slice A2 n2 c2] w fun e w' => e = .returned (.bool true) ∧ Below w.heap.size w w' := by
  have HT := Lib.hid hT
  have HX1 := Lib.hid hx1.old
  have HX2 := Lib.hid hx2.old
  clear hT hx1 hx2
  refine (callsIn_wide (n := 3)).1 ?_
  refine callsIn_of_wp_marks Tryd.func6 rfl trivial ?_ rfl
  simp only [Tryd.ntmps6, List.size_toArray, List.length_cons, List.length_nil, Nat.reduceAdd, Nat.reduceSub, Array.replicate_succ, Array.replicate_zero, List.push_toArray, List.append_toArray, List.nil_append, List.cons_append]
  have bR := Boxed.new w 4 (.bool false)
  have hB0 : ∀ o : Obj, Below w.heap.size w (w.alloc o) := fun o => (Below.refl _ w).alloc (Nat.le_refl _) _
  have HB0 := Lib.hid hB0
  have HR := Lib.hid bR
  clear hB0 bR
  rcases (show 300 < n1 ∨ (n1 ≤ 300 ∧ 300 < n2) ∨ (n1 ≤ 300 ∧ n2 ≤ 300) by omega) with h | ⟨h, h'⟩ | ⟨h, h'⟩
  · have h1 : 300 < (n1 : Int) := by omega
    gi_wp2_with fail
    refine ⟨trivial, ?_⟩
    gi_wp2_with fail
    refine ⟨trivial, ?_⟩
    refine (callsIn_wide.2 (gearAlive_any _ (HT.out.below (HB0.out _)))).mono ?_
    rintro e w5 ⟨rfl, hb5⟩
    have hu5 := boxed_below HR.out hb5 HR.out.lt
    have hf5 := hu5.frozen
    have hc5 := hu5.cell
    have HU := Lib.hid hu5
    have HB5 := Lib.hid ((HB0.out _).trans (hb5.mono (by simp)))
    clear hu5 hb5
    gi_wp2_with fail
    have hc6 := (HU.out.set (.bool true)).cell
    refine ⟨.bool true, ?_, rfl, HB5.out.trans ((Below.refl w.heap.size w5).setCell (p := ⟨w.heap.size, 0, none⟩) (Nat.le_refl _) _)⟩
    simp [results, Tryd.f6, go_sem, hc6]
  · have h1 : (n1 : Int) ≤ 300 := by omega
    have h2 : 300 < (n2 : Int) := by omega
    gi_wp2_with fail
    refine ⟨trivial, ?_⟩
    gi_wp2_with fail
    refine ⟨trivial, ?_⟩
    refine (callsIn_wide.2 (gearAlive_any _ (HT.out.below (HB0.out _)))).mono ?_
    rintro e w5 ⟨rfl, hb5⟩
    have hu5 := boxed_below HR.out hb5 HR.out.lt
    have hf5 := hu5.frozen
    have hc5 := hu5.cell
    have HU := Lib.hid hu5
    have HB5 := Lib.hid ((HB0.out _).trans (hb5.mono (by simp)))
    clear hu5 hb5
    gi_wp2_with fail
    have hc6 := (HU.out.set (.bool true)).cell
    refine ⟨.bool true, ?_, rfl, HB5.out.trans ((Below.refl w.heap.size w5).setCell (p := ⟨w.heap.size, 0, none⟩) (Nat.le_refl _) _)⟩
    simp [results, Tryd.f6, go_sem, hc6]
  have h1 : (n1 : Int) ≤ 300 := by omega
  have h2 : (n2 : Int) ≤ 300 := by omega
  gi_wp2_with fail
  refine ⟨trivial, ?_⟩
  refine (callsIn_wide.2 (gearAlive_any _ (HT.out.below (HB0.out _)))).mono ?_
  rintro e w1 ⟨rfl, hb1⟩
  have HR1 := Lib.hid (boxed_below HR.out hb1 HR.out.lt)
  have HB1 := Lib.hid ((HB0.out _).trans (hb1.mono (by simp)))
  clear hb1
  gi_wp2_with fail
  refine ⟨trivial, ?_⟩
  refine (callsIn_wide.2 (new_any w1 seed hs)).mono ?_
  rintro e w2 ⟨rfl, hT2, hb2⟩
  have HR2 := Lib.hid (boxed_below HR1.out hb2 HR1.out.lt)
  have HB2 := Lib.hid (HB1.out.trans (hb2.mono HB1.out.size))
  have HG2 := Lib.hid hT2
  have hl2 := hT2.lt
  have hs1 := HB1.out.size
  have hs0 := HR1.out.lt
  clear hT2 hb2 HR1 HB1
  have hX := HX1.out.under (fun k hk => hk) (HB2.out.trans ((Below.refl w2.heap.size w2).alloc (Nat.le_refl _) (.cells #[] 5) |>.mono HB2.out.size))
  have tok : True := trivial
  have HXX : Hid (∀ w3, Below w.heap.size w w3 → Bs w3 (Lo w.heap.size) A2 n2 c2 b2) := Lib.hid fun w3 hb => HX2.out.under (fun k hk => hk) hb
  have HBB : Hid (∀ w3 row, (w2.alloc (.cells #[] 5)).grownBy w3 (Value.ownBlock row) → row = Value.slice (some ⟨w2.heap.size, 0, none⟩) 0 0 → Below w.heap.size w w3 ∧ w2.heap.size ≤ w3.heap.size) := Lib.hid fun w3 row hg he => by
    subst he
    exact ⟨(HB2.out.alloc HB2.out.size (.cells #[] 5)).trans (only_below (g := w2.heap.size) hg HB2.out.size (by simp; exact Nat.le_succ_of_le HB2.out.size)), by have := hg.size; simp at this; omega⟩
  gi_wp2_with (gi_at_builtin; first | (have _t := tok; refine wpListIn_append_u8 rfl (.tmp 27) (.tmp 28) rfl (base := w2.heap.size) (v := .slice (some ⟨w2.heap.size, 0, none⟩) 0 0) (n := 0) (xs := []) rfl (World.ownsRow_made w2 #[] 0 (Nat.le_refl _) (by simp [maxLen]) rfl) rfl hX (by omega) (by simp) ?_; intro v3 w3 hown3 hg3 hat3; clear tok hX) | (refine wpListIn_append_u8 rfl (.tmp 29) (.tmp 30) rfl (base := w2.heap.size) (v := v3) rfl hown3 rfl (HXX.out w3 (HBB.out _ _ hg3 rfl).1) (by omega) (HBB.out _ _ hg3 rfl).2 ?_; intro v4 w4 hown4 hg4 hat4))
  have hb3 := (HBB.out _ _ hg3 rfl).1
  have hsz3 := (HBB.out _ _ hg3 rfl).2
  simp only [Nat.zero_add, List.nil_append] at hown3 hown4
  obtain ⟨A4, c4, rfl, hal⟩ := own_bs hown4
  have hb34 : Below w2.heap.size w3 w4 := (Below.refl w2.heap.size w3).grown hg4 hsz3 (fun k e => (own_base hown3 k e))
  have hb23 : Below w2.heap.size w2 w3 := ((Below.refl w2.heap.size w2).alloc (Nat.le_refl _) (.cells #[] 5)).trans ((Below.refl w2.heap.size _).grown hg3 (by simp) (fun k e => by cases e; exact Nat.le_refl _))
  have hb24 := hb23.trans hb34
  obtain ⟨n4, hn4⟩ : ∃ n4, n4 = n1 + n2 := ⟨_, rfl⟩
  have hn4' : n4 ≤ 600 := by omega
  rw [← hn4] at hal ⊢
  have HV4 : Hid (Wv w w1.heap.size seed A4 n4 c4 (b1 ++ b2) w4) := Lib.hid ⟨(show Grl w2 w1.heap.size seed from .inr ⟨_, HG2.out⟩).after hb24, HB2.out.trans (hb24.mono HB2.out.size), boxed_below HR2.out hb24 HR2.out.lt, hal.mono (fun k hk => by omega)⟩
  have HN4 := Lib.hid hn4
  clear hb3 hsz3 hown3 hown4 hg3 hg4 hat3 hat4 hal hb34 hb23 hb24 HXX HBB HG2 HB2 HR2 hn4
  refine ⟨trivial, ?_⟩
  refine (callsIn_wide.2 (hash_any w4 w1.heap.size seed _ A1 n1 c1 b1 HV4.out.gr (HX1.out.under (fun k hk => hk) HV4.out.be) (by omega) (fun k hk => ⟨Nat.lt_of_lt_of_le hk HV4.out.be.size, by have : k < w.heap.size := hk; omega⟩))).mono ?_
  rintro e w5 ⟨rfl, hgi5⟩
  have HV5 := Lib.hid (HV4.out.gi hs0 hgi5)
  clear HV4 hgi5
  gi_wp2_with fail
  gi_loopw [9, 10] (fun v9 v10 wr => ∃ k h : Nat, k ≤ n2 ∧ v10 = .int .i64 (k : Int) ∧ v9 = .int .u64 (h : Int) ∧ Hid (h = Gear.hash seed (b1 ++ b2.take k)) ∧ Hid (Wv w w1.heap.size seed A4 n4 c4 (b1 ++ b2) wr)) (fun _ v10 _ => n2 - (intOf v10).toNat)
  case atStart => exact ⟨0, _, by omega, rfl, rfl, Lib.hid (by simp), HV5⟩
  case round =>
    obtain ⟨k, h, hk, rfl, rfl, HH, HV⟩ := hrel
    by_cases hlt : k < n2
    · obtain ⟨ad, b, hA2, Hb, hc⟩ := (HX2.out.under (fun k hk => hk) HV.out.be).at_ hlt
      subst hA2
      have hlt' : (k : Int) < (n2 : Int) := by omega
      gi_wp2_with fail
      refine ⟨trivial, ?_⟩
      refine (callsIn_wide.2 (roll_any wr w1.heap.size seed HV.out.gr h b)).mono ?_
      rintro e w6 ⟨rfl, hT6, hg6⟩
      have HV6 := Lib.hid (HV.out.gi hs0 (⟨.inl hT6, hg6⟩ : Gi wr w1.heap.size seed w6))
      clear hT6 hg6
      gi_wp2_with fail
      go_roundw
      case rel => exact ⟨k + 1, _, by omega, by go_num, rfl, Lib.hid (by rw [take_snoc Hb.out, ← List.append_assoc, Gear.hash_snoc, HH.out]), HV6⟩
      case measure => simp [intOf]; omega
    · obtain rfl : k = n2 := by omega
      have hH := HH.out
      rw [List.take_of_length_le (by rw [HX2.out.len]; omega)] at hH
      have HH2 := Lib.hid hH
      clear hH HH HV5
      obtain rfl := HH2.out
      clear HH2
      have hN4 : n4 = n1 + k := HN4.out
      have HN5 := Lib.hid hN4
      clear hN4 HN4
      by_cases h64 : 64 < n4
      · have h64' : 64 < (n4 : Int) := by omega
        gi_wp2_with fail
        refine ⟨trivial, ?_⟩
        refine (callsIn_wide.2 (hash_any wr w1.heap.size seed _ A4 n4 c4 (b1 ++ b2) HV.out.gr HV.out.al.oldS (by omega) (fun k hk => ⟨hk.2, by omega⟩))).mono ?_
        rintro e w6 ⟨rfl, hgi6⟩
        have HV6 := Lib.hid (HV.out.gi hs0 hgi6)
        clear hgi6 HV
        obtain ⟨A5, c5, hcut, hX5⟩ := HV6.out.al.from_ ((n4 : Int) - 64) (n4 - 64) 64 (by omega) (by omega)
        have HX5 := Lib.hid hX5
        have hhd := Gear.hash_drop seed (b1 ++ b2) (by rw [HV6.out.al.len]; omega)
        rw [HV6.out.al.len] at hhd
        have HHD := Lib.hid hhd
        clear hX5 hhd
        gi_wp2_with fail
        refine ⟨trivial, ?_⟩
        refine (callsIn_wide.2 (hash_any w6 w1.heap.size seed _ A5 64 c5 _ HV6.out.gr HX5.out.oldS (by omega) (fun k hk => ⟨hk.2, by omega⟩))).mono ?_
        rintro e w7 ⟨rfl, hgi7⟩
        rw [HHD.out]
        have HVX := Lib.hid (HV6.out.gi hs0 hgi7)
        clear hgi7 HV6 HX5 HHD hcut
        gi_wp2_with fail
        refine ⟨trivial, ?_⟩
        refine (callsIn_wide.2 (each_any _ none A4 n4 c4)).mono ?_
        rintro e w' ⟨rfl, hw'⟩
        have hb7 : Below w7.heap.size w7 w' := by rw [hw']; exact ((Below.refl _ _).alloc (Nat.le_refl _) _).alloc (by simp) _
        have hsz : w'.heap.size = w7.heap.size + 2 := by rw [hw']; simp
        have hc1' : w'.cell? ⟨w7.heap.size, 0, none⟩ = some (.pointer none) := by rw [hw']; exact ((Boxed.new w7 25 (.pointer none)).alloc (.cells #[.slice A4 n4 c4] 23)).cell
        have HV8 := Lib.hid (HVX.out.after hb7)
        have HQ := Lib.hid (each1_nil 2 w' w7.heap.size (w7.heap.size + 1) w.heap.size w1.heap.size (fun _ => 0) hc1' (fun _ => False))
        have hws := HVX.out.be.size
        have hg1 := Nat.lt_of_lt_of_le HVX.out.gr.lt hb7.size
        clear hw' hc1' hb7 HVX
        gi_wp2_with fail
        refine range_turns rfl (by omega) (gf := 41) (lb := #[.pointer (some ⟨w7.heap.size, 0, none⟩), .pointer (some ⟨w7.heap.size + 1, 0, none⟩)]) (w0 := w') ?gval trivial (enters_of Tryd.func41 (by kernel_rfl) rfl) (encs := eachV (fun _ => 0)) (Kp := Below w.heap.size) (N := 0) (bg := w1.heap.size) (Gd := fun _ => False) HQ.out
          (fun h k => h.trans k) (fun W l o o' hl h _ => below_put W l o' (by omega) (by have := (Array.getElem?_eq_some_iff.1 h).1; omega)) (Below.refl _ _) hg1 (fun _ => rfl)
          (fun _ W => Below w.heap.size w W ∧ Boxed W w.heap.size 4 (.bool false) ∧ w'.heap.size ≤ W.heap.size) (fun _ _ _ => False) (fun _ _ _ _ _ h => h.elim) ?marks (fun _ _ _ _ h _ _ => h) (fun _ => ⟨fun _ _ _ _ _ h _ _ _ => h, fun _ _ _ h => h⟩) ⟨HV8.out.be, HV8.out.bx, Nat.le_refl _⟩ ?a1 ?assign ?body ?done ?stop
        case gval => rfl
        case marks => exact marks_of (fun k W W' h hb => ⟨h.1.trans (hb.mono (by omega)), boxed_below h.2.1 hb (by omega), Nat.le_trans h.2.2 hb.size⟩) (fun k W h => h.2.2)
        case assign =>
          intro l x W K hK
          unfold eachV
          gi_wp2_with fail
          exact hK
        case body => exact fun _ _ _ _ h => absurd h (by omega)
        case stop => exact fun _ _ _ _ _ _ _ h _ => h.elim
        case done =>
          rintro D W hD ⟨hi, hb, hs⟩ hK
          have HI := Lib.hid hi
          have HBx := Lib.hid hb
          have HK := Lib.hid hK
          clear hi hb hK
          gi_wp2_with fail
          refine ⟨trivial, ?_⟩
          refine (callsIn_wide.2 (row_nilg W 1)).mono ?_
          rintro e w'' ⟨rfl, rfl⟩
          gi_wp2_with fail
          refine ⟨trivial, ?_⟩
          refine (callsIn_wide.2 (roll_nilg _ 5 1)).mono ?_
          rintro e w'' ⟨rfl, rfl⟩
          gi_wp2_with fail
          refine ⟨trivial, ?_⟩
          refine (callsIn_wide.2 (hash_nilg _ A4 n4 c4)).mono ?_
          rintro e w10 ⟨rfl, hb10⟩
          have HB10 := Lib.hid hb10
          clear hb10
          gi_wp2_with fail
          refine ⟨trivial, ?_⟩
          refine (callsIn_wide.2 (find_nilg _ A4 n4 c4 0 (by decide))).mono ?_
          rintro e w11 ⟨rfl, hb11⟩
          have HB11 := Lib.hid (HB10.out.trans (hb11.mono HB10.out.size))
          clear hb11 HB10
          gi_wp2_with fail
          refine ⟨trivial, ?_⟩
          refine (callsIn_wide.2 (gearAlive_any _ (HT.out.below (HI.out.trans (HB11.out.mono (by omega)))))).mono ?_
          rintro e w12 ⟨rfl, hb12⟩
          have HB12 := Lib.hid (HB11.out.trans (hb12.mono HB11.out.size))
          have hb13 := boxed_below HBx.out HB12.out HBx.out.lt
          have hf := hb13.frozen
          have hc := hb13.cell
          have HU := Lib.hid hb13
          clear hb12 HB11 hb13
          gi_wp2_with fail
          have hK0 : w12.heap[D]? = some (.deferred (some [])) := (HB12.out.block D (Array.getElem?_eq_some_iff.1 HK.out).1).trans HK.out
          have hK' := (KeepsOthers.setCell w12 ⟨w.heap.size, 0, none⟩ (.bool true)).same D _ hK0 rfl
          refine ⟨by simp, .inl ⟨_, _, rfl, run_takeDeferred hK', ?_⟩⟩
          have hc5 := cell_kept (HU.out.set (.bool true)).cell (grownBy_putObj' _ D (.deferred none)) (fun r e => by cases e; exact ⟨_, hK', rfl⟩)
          have hb14 : Below w.heap.size w12 (w12.setCell ⟨w.heap.size, 0, none⟩ (.bool true)) := (Below.refl w.heap.size w12).setCell (p := ⟨w.heap.size, 0, none⟩) (Nat.le_refl _) _
          have hb15 := HI.out.trans (HB12.out.mono (by omega))
          refine ⟨.bool true, ?_, rfl, hb15.trans (hb14.trans (below_put _ _ _ (by omega) (Nat.le_trans hb15.size hb14.size)))⟩
          simp [results, Tryd.f6, go_sem, hc5]
      · have h64' : (n4 : Int) ≤ 64 := by omega
        gi_wp2_with fail
        refine ⟨trivial, ?_⟩
        refine (callsIn_wide.2 (hash_any wr w1.heap.size seed _ A4 n4 c4 (b1 ++ b2) HV.out.gr HV.out.al.oldS (by omega) (fun k hk => ⟨hk.2, by omega⟩))).mono ?_
        rintro e w6 ⟨rfl, hgi6⟩
        have HV6 := Lib.hid (HV.out.gi hs0 hgi6)
        clear hgi6 HV
        have HVX := HV6
        clear HV6
        gi_wp2_with fail
        refine ⟨trivial, ?_⟩
        gi_wp2_with fail
        refine ⟨trivial, ?_⟩
        refine (callsIn_wide.2 (each_any _ none A4 n4 c4)).mono ?_
        rintro e w' ⟨rfl, hw'⟩
        have hb7 : Below w6.heap.size w6 w' := by rw [hw']; exact ((Below.refl _ _).alloc (Nat.le_refl _) _).alloc (by simp) _
        have hsz : w'.heap.size = w6.heap.size + 2 := by rw [hw']; simp
        have hc1' : w'.cell? ⟨w6.heap.size, 0, none⟩ = some (.pointer none) := by rw [hw']; exact ((Boxed.new w6 25 (.pointer none)).alloc (.cells #[.slice A4 n4 c4] 23)).cell
        have HV8 := Lib.hid (HVX.out.after hb7)
        have HQ := Lib.hid (each1_nil 2 w' w6.heap.size (w6.heap.size + 1) w.heap.size w1.heap.size (fun _ => 0) hc1' (fun _ => False))
        have hws := HVX.out.be.size
        have hg1 := Nat.lt_of_lt_of_le HVX.out.gr.lt hb7.size
        clear hw' hc1' hb7 HVX
        gi_wp2_with fail
        refine range_turns rfl (by omega) (gf := 41) (lb := #[.pointer (some ⟨w6.heap.size, 0, none⟩), .pointer (some ⟨w6.heap.size + 1, 0, none⟩)]) (w0 := w') ?gval trivial (enters_of Tryd.func41 (by kernel_rfl) rfl) (encs := eachV (fun _ => 0)) (Kp := Below w.heap.size) (N := 0) (bg := w1.heap.size) (Gd := fun _ => False) HQ.out
          (fun h k => h.trans k) (fun W l o o' hl h _ => below_put W l o' (by omega) (by have := (Array.getElem?_eq_some_iff.1 h).1; omega)) (Below.refl _ _) hg1 (fun _ => rfl)
          (fun _ W => Below w.heap.size w W ∧ Boxed W w.heap.size 4 (.bool false) ∧ w'.heap.size ≤ W.heap.size) (fun _ _ _ => False) (fun _ _ _ _ _ h => h.elim) ?marks (fun _ _ _ _ h _ _ => h) (fun _ => ⟨fun _ _ _ _ _ h _ _ _ => h, fun _ _ _ h => h⟩) ⟨HV8.out.be, HV8.out.bx, Nat.le_refl _⟩ ?a2 ?assign ?body ?done ?stop
        case gval => rfl
        case marks => exact marks_of (fun k W W' h hb => ⟨h.1.trans (hb.mono (by omega)), boxed_below h.2.1 hb (by omega), Nat.le_trans h.2.2 hb.size⟩) (fun k W h => h.2.2)
        case assign =>
          intro l x W K hK
          unfold eachV
          gi_wp2_with fail
          exact hK
        case body => exact fun _ _ _ _ h => absurd h (by omega)
        case stop => exact fun _ _ _ _ _ _ _ h _ => h.elim
        case done =>
          rintro D W hD ⟨hi, hb, hs⟩ hK
          have HI := Lib.hid hi
          have HBx := Lib.hid hb
          have HK := Lib.hid hK
          clear hi hb hK
          gi_wp2_with fail
          refine ⟨trivial, ?_⟩
          refine (callsIn_wide.2 (row_nilg W 1)).mono ?_
          rintro e w'' ⟨rfl, rfl⟩
          gi_wp2_with fail
          refine ⟨trivial, ?_⟩
          refine (callsIn_wide.2 (roll_nilg _ 5 1)).mono ?_
          rintro e w'' ⟨rfl, rfl⟩
          gi_wp2_with fail
          refine ⟨trivial, ?_⟩
          refine (callsIn_wide.2 (hash_nilg _ A4 n4 c4)).mono ?_
          rintro e w10 ⟨rfl, hb10⟩
          have HB10 := Lib.hid hb10
          clear hb10
          gi_wp2_with fail
          refine ⟨trivial, ?_⟩
          refine (callsIn_wide.2 (find_nilg _ A4 n4 c4 0 (by decide))).mono ?_
          rintro e w11 ⟨rfl, hb11⟩
          have HB11 := Lib.hid (HB10.out.trans (hb11.mono HB10.out.size))
          clear hb11 HB10
          gi_wp2_with fail
          refine ⟨trivial, ?_⟩
          refine (callsIn_wide.2 (gearAlive_any _ (HT.out.below (HI.out.trans (HB11.out.mono (by omega)))))).mono ?_
          rintro e w12 ⟨rfl, hb12⟩
          have HB12 := Lib.hid (HB11.out.trans (hb12.mono HB11.out.size))
          have hb13 := boxed_below HBx.out HB12.out HBx.out.lt
          have hf := hb13.frozen
          have hc := hb13.cell
          have HU := Lib.hid hb13
          clear hb12 HB11 hb13
          gi_wp2_with fail
          have hK0 : w12.heap[D]? = some (.deferred (some [])) := (HB12.out.block D (Array.getElem?_eq_some_iff.1 HK.out).1).trans HK.out
          have hK' := (KeepsOthers.setCell w12 ⟨w.heap.size, 0, none⟩ (.bool true)).same D _ hK0 rfl
          refine ⟨by simp, .inl ⟨_, _, rfl, run_takeDeferred hK', ?_⟩⟩
          have hc5 := cell_kept (HU.out.set (.bool true)).cell (grownBy_putObj' _ D (.deferred none)) (fun r e => by cases e; exact ⟨_, hK', rfl⟩)
          have hb14 : Below w.heap.size w12 (w12.setCell ⟨w.heap.size, 0, none⟩ (.bool true)) := (Below.refl w.heap.size w12).setCell (p := ⟨w.heap.size, 0, none⟩) (Nat.le_refl _) _
          have hb15 := HI.out.trans (HB12.out.mono (by omega))
          refine ⟨.bool true, ?_, rfl, hb15.trans (hb14.trans (below_put _ _ _ (by omega) (Nat.le_trans hb15.size hb14.size)))⟩
          simp [results, Tryd.f6, go_sem, hc5]
end Go.Proofs.YtognkonncfjneaaDoor
