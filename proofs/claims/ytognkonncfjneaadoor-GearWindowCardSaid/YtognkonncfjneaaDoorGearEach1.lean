/- The walk of GearEach. Conditions: each theorem's premises. -/
import Derived.Test.YtognkonncfjneaaDoorGearFinds1
import Derived.Test.YtognkonncfjneaaDoorRound1
namespace Go.Proofs.YtognkonncfjneaaDoor
open Go.RowKit Go.Shelf
attribute [local go_sem] Oper.semAt_some
/-- What lies between two rounds of GearEach's loop. -/
structure Ev (w : World) (B g nb seed : Nat) (A : Option Addr) (m c : Nat) (stop : Int) (k : Nat) (W : World) : Prop where
  gr : Grl W g seed
  be : Below w.heap.size w W
  b0 : Boxed W w.heap.size 22 (.int .u64 (seed : Int))
  b1 : Boxed W (w.heap.size + 1) 23 (.slice A m c)
  b2 : Boxed W (w.heap.size + 1 + 1) 3 (.int .i64 stop)
  b3 : ∃ u, Boxed W (w.heap.size + 1 + 1 + 1) 4 u
  bn : Boxed W nb 3 (.int .i64 (k : Int))
  sz : B ≤ W.heap.size
theorem Ev.below {w W W' : World} {B g nb seed m c k : Nat} {A : Option Addr} {stop : Int} (h : Ev w B g nb seed A m c stop k W) (hb : Below B W W') (h1 : g < B) (h2 : nb < B) (h3 : w.heap.size + 3 < B) : Ev w B g nb seed A m c stop k W' :=
  ⟨h.gr.below hb h1, h.be.trans (hb.mono (by omega)), boxed_below h.b0 hb (by omega), boxed_below h.b1 hb (by omega), boxed_below h.b2 hb (by omega), h.b3.imp fun _ h => boxed_below h hb (by omega), boxed_below h.bn hb h2, Nat.le_trans h.sz hb.size⟩
theorem Ev.turn {w W W' : World} {B g nb seed m c k : Nat} {A : Option Addr} {stop : Int} (h : Ev w B g nb seed A m c stop k W) (hg : W.grownBy W' (some g)) (hd : Grl W' g seed) (h1 : w.heap.size + 3 < g) (h2 : g ≠ nb) : Ev w B g nb seed A m c stop k W' := by
  have ne : ∀ j, j ≠ g → some j ≠ some g := fun j hj e => hj (by injection e)
  exact ⟨hd, h.be.trans (only_below hg (by omega) h.be.size), h.b0.kept hg (ne _ (by omega)), h.b1.kept hg (ne _ (by omega)), h.b2.kept hg (ne _ (by omega)), h.b3.imp fun _ h => h.kept hg (ne _ (by omega)), h.bn.kept hg (ne _ (fun e => h2 e.symm)), Nat.le_trans h.sz hg.size⟩
theorem Bs.drewN {w : World} {S : Nat → Prop} {A : Option Addr} {n c : Nat} {bs : List UInt8} (h : Bs w S A n c bs) (k : Nat) : Bs (w.drewN k) S A n c bs := h.keep (fun _ _ _ => rfl) (fun _ h _ => h)
theorem Ev.drewN {w W : World} {B g nb seed m c k : Nat} {A : Option Addr} {stop : Int} (h : Ev w B g nb seed A m c stop k W) (j : Nat) : Ev w B g nb seed A m c stop k (W.drewN j) := ⟨h.gr.drewN j, ⟨h.be.os, h.be.tape, h.be.output, h.be.size, h.be.block⟩, h.b0, h.b1, h.b2, h.b3, h.bn, h.sz⟩
set_option maxRecDepth 100000 in
set_option maxHeartbeats 2000000 in
theorem gearEach_any (w : World) (seed : Nat) (hs : seed < Gear.M) (S : Nat → Prop) (A : Option Addr) (m c : Nat) (bs : List UInt8) (stop : Int) (hx : Bs w S A m c bs) (hT : Tab64 w) :
    Calls Tryd.prog 3 #[.int .u64 (seed : Int), .slice A m c, .int .i64 stop] w fun e w' => e = .returned (.bool true) ∧ Below w.heap.size w w' := by
  have HT := Lib.hid hT
  have HX := Lib.hid hx.old
  clear hT hx
  refine (callsIn_wide (n := 3)).1 ?_
  refine callsIn_of_wp_marks Tryd.func3 rfl trivial ?_ rfl
  simp only [Tryd.ntmps3, List.size_toArray, List.length_cons, List.length_nil, Nat.reduceAdd, Nat.reduceSub, Array.replicate_succ, Array.replicate_zero, List.push_toArray, List.append_toArray, List.nil_append, List.cons_append]
  have hB0 : ∀ o0 o1 o2 o3 : Obj, Below w.heap.size w ((((w.alloc o0).alloc o1).alloc o2).alloc o3) := fun o0 o1 o2 o3 => ((((Below.refl _ w).alloc (Nat.le_refl _) _).alloc (by simp) _).alloc (by simp; omega) _).alloc (by simp; omega) _
  have HB0 := Lib.hid hB0
  clear hB0
  by_cases hn : 300 < m
  · have hn' : 300 < (m : Int) := by omega
    gi_wp2_with fail
    refine ⟨trivial, ?_⟩
    obtain ⟨W0, hW0⟩ : ∃ W0, W0 = (((w.alloc (.cells #[.int .u64 (seed : Int)] 22)).alloc (.cells #[.slice A m c] 23)).alloc (.cells #[.int .i64 stop] 3)).alloc (.cells #[.bool false] 4) := ⟨_, rfl⟩
    have hbW := HB0.out (.cells #[.int .u64 (seed : Int)] 22) (.cells #[.slice A m c] 23) (.cells #[.int .i64 stop] 3) (.cells #[.bool false] 4)
    have hbx : Boxed W0 (w.heap.size + 1 + 1 + 1) 4 (.bool false) := by rw [hW0]; simpa using Boxed.new (((w.alloc (.cells #[.int .u64 (seed : Int)] 22)).alloc (.cells #[.slice A m c] 23)).alloc (.cells #[.int .i64 stop] 3)) 4 (.bool false)
    rw [← hW0] at hbW ⊢
    have hcs : W0.cell? ⟨w.heap.size + 1, 0, none⟩ = some (.slice A m c) := by rw [hW0]; simpa using (((Boxed.new (w.alloc (.cells #[.int .u64 (seed : Int)] 22)) 23 (.slice A m c)).alloc (.cells #[.int .i64 stop] 3)).alloc (.cells #[.bool false] 4)).cell
    clear hW0
    gi_wp2_with fail
    refine ⟨trivial, ?_⟩
    refine (callsIn_wide.2 (gearAlive_any W0 (HT.out.below hbW))).mono ?_
    rintro e w1 ⟨rfl, hb1⟩
    have hbx1 := boxed_below hbx hb1 hbx.lt
    have hc1 := hbx1.cell
    have hf1 := hbx1.frozen
    have HBX := Lib.hid hbx1
    have HB1 := Lib.hid (hbW.trans (hb1.mono hbW.size))
    clear hb1 hbW hbx hbx1
    gi_wp2_with fail
    have hc5 := (HBX.out.set (.bool true)).cell
    refine ⟨.bool true, ?_, rfl, HB1.out.trans ((Below.refl w.heap.size w1).setCell (p := ⟨w.heap.size + 1 + 1 + 1, 0, none⟩) (by show _ ≤ _ + 1 + 1 + 1; omega) _)⟩
    simp [results, Tryd.f3, go_sem, hc5]
  have hn' : (m : Int) ≤ 300 := by omega
  gi_wp2_with fail
  refine ⟨trivial, ?_⟩
  obtain ⟨W0, hW0⟩ : ∃ W0, W0 = (((w.alloc (.cells #[.int .u64 (seed : Int)] 22)).alloc (.cells #[.slice A m c] 23)).alloc (.cells #[.int .i64 stop] 3)).alloc (.cells #[.bool false] 4) := ⟨_, rfl⟩
  have hbW := HB0.out (.cells #[.int .u64 (seed : Int)] 22) (.cells #[.slice A m c] 23) (.cells #[.int .i64 stop] 3) (.cells #[.bool false] 4)
  have q0 : Boxed W0 w.heap.size 22 (.int .u64 (seed : Int)) := by rw [hW0]; simpa using ((((Boxed.new w 22 (.int .u64 (seed : Int))).alloc (.cells #[.slice A m c] 23)).alloc (.cells #[.int .i64 stop] 3)).alloc (.cells #[.bool false] 4))
  have q1 : Boxed W0 (w.heap.size + 1) 23 (.slice A m c) := by rw [hW0]; simpa using (((Boxed.new (w.alloc (.cells #[.int .u64 (seed : Int)] 22)) 23 (.slice A m c)).alloc (.cells #[.int .i64 stop] 3)).alloc (.cells #[.bool false] 4))
  have q2 : Boxed W0 (w.heap.size + 1 + 1) 3 (.int .i64 stop) := by rw [hW0]; simpa using ((Boxed.new ((w.alloc (.cells #[.int .u64 (seed : Int)] 22)).alloc (.cells #[.slice A m c] 23)) 3 (.int .i64 stop)).alloc (.cells #[.bool false] 4))
  have q3 : Boxed W0 (w.heap.size + 1 + 1 + 1) 4 (.bool false) := by rw [hW0]; simpa using Boxed.new (((w.alloc (.cells #[.int .u64 (seed : Int)] 22)).alloc (.cells #[.slice A m c] 23)).alloc (.cells #[.int .i64 stop] 3)) 4 (.bool false)
  rw [← hW0] at hbW ⊢
  clear hW0
  refine (callsIn_wide.2 (gearAlive_any W0 (HT.out.below hbW))).mono ?_
  rintro e w1 ⟨rfl, hb1⟩
  replace q0 := boxed_below q0 hb1 q0.lt
  replace q1 := boxed_below q1 hb1 q1.lt
  replace q2 := boxed_below q2 hb1 q2.lt
  replace q3 := boxed_below q3 hb1 q3.lt
  have HQ := Lib.hid (And.intro q0 (And.intro q1 (And.intro q2 (And.intro q3 (hbW.trans (hb1.mono hbW.size))))))
  have hc0 := q0.cell
  have hl3 := q3.lt
  clear q0 q1 q2 q3 hb1 hbW
  gi_wp2_with fail
  refine ⟨trivial, ?_⟩
  refine (callsIn_wide.2 (new_any w1 seed hs)).mono ?_
  rintro e w2 ⟨rfl, hT2, hb2⟩
  obtain ⟨q0, q1, q2, q3, hbw⟩ := HQ.out
  replace q0 := boxed_below q0 hb2 q0.lt
  replace q1 := boxed_below q1 hb2 q1.lt
  replace q2 := boxed_below q2 hb2 q2.lt
  replace q3 := boxed_below q3 hb2 q3.lt
  have HQ2 := Lib.hid (And.intro q0 (And.intro q1 (And.intro q2 (And.intro q3 (hbw.trans (hb2.mono hbw.size))))))
  have HG2 := Lib.hid hT2
  have hl2 := hT2.lt
  have hc1 := q1.cell
  have hcn := (q1.alloc (.cells #[.int .i64 0] 3)).cell
  clear q0 q1 q2 q3 hbw hT2 hb2 HQ hc0
  gi_wp2_with fail
  refine ⟨trivial, ?_⟩
  refine (callsIn_wide.2 (each_any _ (some ⟨w1.heap.size, 0, none⟩) A m c)).mono ?_
  rintro e w' ⟨rfl, hw'⟩
  obtain ⟨q0, q1, q2, q3, hbw⟩ := HQ2.out
  have hb3 : Below w2.heap.size w2 w' := by rw [hw']; exact (((Below.refl _ w2).alloc (Nat.le_refl _) _).alloc (by simp) _).alloc (by simp; omega) _
  have hsz : w'.heap.size = w2.heap.size + 3 := by rw [hw']; simp
  have qn : Boxed w' w2.heap.size 3 (.int .i64 0) := by rw [hw']; exact ((Boxed.new w2 3 (.int .i64 0)).alloc _).alloc _
  have hc1' : w'.cell? ⟨w2.heap.size + 1, 0, none⟩ = some (.pointer (some ⟨w1.heap.size, 0, none⟩)) := by rw [hw']; simpa using ((Boxed.new (w2.alloc (.cells #[.int .i64 0] 3)) 25 (.pointer (some ⟨w1.heap.size, 0, none⟩))).alloc (.cells #[.slice A m c] 23)).cell
  have hc2' : w'.cell? ⟨w2.heap.size + 1 + 1, 0, none⟩ = some (.slice A m c) := by rw [hw']; simpa using (Boxed.new ((w2.alloc (.cells #[.int .i64 0] 3)).alloc (.cells #[.pointer (some ⟨w1.heap.size, 0, none⟩)] 25)) 23 (.slice A m c)).cell
  clear hw'
  have hgr : Grl w' w1.heap.size seed := .inr ⟨_, HG2.out.after hb3⟩
  have hbe : Below w.heap.size w w' := hbw.trans (hb3.mono hbw.size)
  have HEv := Lib.hid (show Ev w w'.heap.size w1.heap.size w2.heap.size seed A m c stop 0 w' from ⟨hgr, hbe, boxed_below q0 hb3 q0.lt, boxed_below q1 hb3 q1.lt, boxed_below q2 hb3 q2.lt, ⟨_, boxed_below q3 hb3 q3.lt⟩, qn, Nat.le_refl _⟩)
  have HQ := Lib.hid (each1_hands 2 (by omega) w' w2.heap.size w1.heap.size seed (w2.heap.size + 1) (w2.heap.size + 1 + 1) (Lo w.heap.size) A m c bs hc1' hc2' (by omega) hgr (HX.out.under (fun k hk => hk) hbe) (by omega) (fun k hk => by have : k < w.heap.size := hk; omega) hl2 (by omega))
  clear q0 q1 q2 q3 hbw hb3 qn hc1' hc2' hgr hbe HQ2 HG2 hc1 hcn
  gi_wp2_with fail
  refine range_turns rfl (by omega) (gf := 41) (lb := #[.pointer (some ⟨w2.heap.size + 1, 0, none⟩), .pointer (some ⟨w2.heap.size + 1 + 1, 0, none⟩)]) (w0 := w') ?gval trivial (enters_of Tryd.func41 (by kernel_rfl) rfl) (encs := eachEnc seed bs) (Kp := Below w2.heap.size) (N := m) (bg := w1.heap.size) (Gd := fun W' => Gr W' w1.heap.size seed 1 0 (Gear.row seed)) HQ.out
    (fun h k => h.trans k) (fun W l o o' hl h _ => below_put W l o' (by omega) (by have := (Array.getElem?_eq_some_iff.1 h).1; omega)) (Below.refl _ _) (by omega) (fun _ => rfl)
    (fun k W => Ev w w'.heap.size w1.heap.size w2.heap.size seed A m c stop k W ∧ ∀ j : Nat, j < k → (j : Int) ≠ stop)
    (fun cd k W => Ev w w'.heap.size w1.heap.size w2.heap.size seed A m c stop k W ∧ cd = .exit 0 ∧ stop + 1 = (k : Int)) ?turns ?marks ?turnsx ?marksx ?start
    (fun k => { tmps := #[.int .u64 (seed : Int), .slice A m c, .int .i64 stop, .pointer (some ⟨w.heap.size, 0, none⟩), .pointer (some ⟨w.heap.size + 1, 0, none⟩), .pointer (some ⟨w.heap.size + 1 + 1, 0, none⟩), .pointer (some ⟨w.heap.size + 1 + 1 + 1, 0, none⟩), .pointer (some ⟨w1.heap.size, 0, none⟩), .pointer (some ⟨w2.heap.size, 0, none⟩), .int .i64 (k : Int), .int .u64 ((Gear.hash seed (bs.take (k + 1)) : Nat) : Int), undef, .slice A m c, .int .i64 (m : Int), .bool (decide (300 < (m : Int))), .bool (decide (300 < (m : Int))), .bool true, .bool false, .bool (decide (300 < (m : Int))), undef, .int .u64 (seed : Int), .pointer (some ⟨w1.heap.size, 0, none⟩), .pointer (some ⟨w1.heap.size, 0, none⟩), .slice A m c, .func (.func 41) #[] #[.pointer (some ⟨w2.heap.size + 1, 0, none⟩), .pointer (some ⟨w2.heap.size + 1 + 1, 0, none⟩)], .int .i64 (k : Int), .int .u64 ((Gear.hash seed (bs.take (k + 1)) : Nat) : Int), undef, undef, undef, undef, undef, undef, undef, undef, undef, undef, undef, undef, undef, undef, undef, undef, undef, undef, undef, undef, undef, undef, undef, undef, undef, undef, undef, undef, undef, undef, undef, undef, undef, undef, undef, undef], defers := [] }) ?assign ?body ?done ?stop
  case gval => rfl
  case turns => exact fun k W W' h hg hd => ⟨h.1.turn hg (.inl hd) (by omega) (by omega), h.2⟩
  case turnsx => exact fun cd k W W' h hg hd => ⟨h.1.turn hg (.inl hd) (by omega) (by omega), h.2⟩
  case marks => exact marks_of (fun k W W' h hb => ⟨h.1.below hb (by omega) (by omega) (by omega), h.2⟩) (fun k W h => h.1.sz)
  case marksx => exact fun cd => marks_of (fun k W W' h hb => ⟨h.1.below hb (by omega) (by omega) (by omega), h.2⟩) (fun k W h => h.1.sz)
  case start => exact ⟨HEv.out, fun j hj => absurd hj (by omega)⟩
  case assign =>
    intro l k W K hK
    unfold eachEnc
    gi_wp2_with fail
    exact hK
  case body =>
    rintro l k W ⟨hE, hne⟩ hlt
    have HE := Lib.hid hE
    have HNE := Lib.hid hne
    have c0 := hE.b0.cell
    have c1 := hE.b1.cell
    have c2 := hE.b2.cell
    have cn := hE.bn.cell
    have fn := hE.bn.frozen
    have hlt' : (k : Int) < (m : Int) := by omega
    obtain ⟨A', c', hcut, hX3⟩ := (HX.out.under (fun k hk => hk) hE.be).upto ((k : Int) + 1) (k + 1) (by omega) (by omega)
    have HR := Lib.hid (rhash_any W.drew seed _ A' (k + 1) c' _ hX3.drew (by omega))
    have hmx : Tryd.prog.follows .mixedOrders = true := by kernel_rfl
    have HX3 := Lib.hid hX3
    clear hE hne hX3
    have hd : 1 ≤ 3 - 1 - 1 := by omega
    have hw1 : IntKind.i64.wrap ((k : Int) + 1) = (k : Int) + 1 := by rw [IntKind.wrap_i64]; omega
    have hw2 : wrap64 ((k : Int) + 1) = (k : Int) + 1 := by unfold wrap64; omega
    gi_wp2_with fail
    refine quiet_round (F := Fence.wide) rfl hmx (by kernel_rfl) (by kernel_rfl) ?_
    repeat (gi_big_quiet_step (fail))
    refine BigFrame.wpQuietIn_want (fun _ _ _ _ => trivial) rfl ?_
    intro K hK
    gi_big_quiet_op
    gi_big_quiet_call (exact (callsIn_wide.2 (rhash_any (W.drewN _) seed _ A' (k + 1) c' _ (HX3.out.drewN _) (by omega))).mono fun e w'' h => ⟨h.1, _, h.2.symm⟩)
    repeat (gi_big_quiet_step (fail))
    refine wpQuietIn_nil ?_
    rintro _ ⟨nq, rfl⟩
    obtain ⟨W2, hW2⟩ : ∃ W2, W2 = W.drewN nq := ⟨_, rfl⟩
    have HE2 : Hid (Ev w w'.heap.size w1.heap.size w2.heap.size seed A m c stop k W2) := Lib.hid (by rw [hW2]; exact HE.out.drewN nq)
    have HK2 : Hid (∀ B, KeepsFrom B W W2 ∧ Below B W W2) := Lib.hid (by rw [hW2]; exact fun B => ⟨⟨Nat.le_refl _, fun _ _ _ h _ => h⟩, ⟨rfl, rfl, rfl, Nat.le_refl _, fun _ _ => rfl⟩⟩)
    rw [← hW2]
    clear hW2 c0 c1 c2 cn fn
    have c2 := HE2.out.b2.cell
    have cn := HE2.out.bn.cell
    have fn := HE2.out.bn.frozen
    have hsz2 := HE.out.sz
    by_cases he : (k : Int) = stop
    · have hb : ((k : Int) == stop) = true := by simpa using he
      have HHE := Lib.hid he
      clear he
      gi_wp2_with fail
      have hb4 : Below w2.heap.size W2 (W2.setCell ⟨w2.heap.size, 0, none⟩ (.int .i64 ((k : Int) + 1))) := (Below.refl _ _).setCell (p := ⟨w2.heap.size, 0, none⟩) (Nat.le_refl _) _
      have hEv : Ev w w'.heap.size w1.heap.size w2.heap.size seed A m c stop (k + 1) (W2.setCell ⟨w2.heap.size, 0, none⟩ (.int .i64 ((k : Int) + 1))) :=
        have h := HE2.out
        have hne : w.heap.size + 3 < w2.heap.size := by omega
        ⟨h.gr.below hb4 hl2, h.be.trans (hb4.mono (by omega)), boxed_below h.b0 hb4 (by omega), boxed_below h.b1 hb4 (by omega), boxed_below h.b2 hb4 (by omega), h.b3.imp fun _ h => boxed_below h hb4 (by omega), h.bn.set _, Nat.le_trans h.sz hb4.size⟩
      have hkf : KeepsFrom w'.heap.size W (W2.setCell ⟨w2.heap.size, 0, none⟩ (.int .i64 ((k : Int) + 1))) := (HK2.out _).1.trans ((KeepsOthers.setCell _ _ _).from _)
      have hkb : Below w2.heap.size W (W2.setCell ⟨w2.heap.size, 0, none⟩ (.int .i64 ((k : Int) + 1))) := (HK2.out _).2.trans hb4
      exact ⟨hkf, hEv, rfl, by have := HHE.out; omega⟩
    · have hb : ((k : Int) == stop) = false := by simpa using he
      have HHE := Lib.hid he
      clear he
      gi_wp2_with fail
      have hb4 : Below w2.heap.size W2 (W2.setCell ⟨w2.heap.size, 0, none⟩ (.int .i64 ((k : Int) + 1))) := (Below.refl _ _).setCell (p := ⟨w2.heap.size, 0, none⟩) (Nat.le_refl _) _
      have hEv : Ev w w'.heap.size w1.heap.size w2.heap.size seed A m c stop (k + 1) (W2.setCell ⟨w2.heap.size, 0, none⟩ (.int .i64 ((k : Int) + 1))) :=
        have h := HE2.out
        have hne : w.heap.size + 3 < w2.heap.size := by omega
        ⟨h.gr.below hb4 hl2, h.be.trans (hb4.mono (by omega)), boxed_below h.b0 hb4 (by omega), boxed_below h.b1 hb4 (by omega), boxed_below h.b2 hb4 (by omega), h.b3.imp fun _ h => boxed_below h hb4 (by omega), h.bn.set _, Nat.le_trans h.sz hb4.size⟩
      have hkf : KeepsFrom w'.heap.size W (W2.setCell ⟨w2.heap.size, 0, none⟩ (.int .i64 ((k : Int) + 1))) := (HK2.out _).1.trans ((KeepsOthers.setCell _ _ _).from _)
      have hkb : Below w2.heap.size W (W2.setCell ⟨w2.heap.size, 0, none⟩ (.int .i64 ((k : Int) + 1))) := (HK2.out _).2.trans hb4
      exact ⟨hkf, hkb, hEv, fun j hj => (Nat.lt_succ_iff_lt_or_eq.1 hj).elim (HNE.out j) (fun e => by rw [e]; exact HHE.out)⟩
  case done =>
    rintro D W hD ⟨hE, hne⟩ hK
    have HE := Lib.hid hE
    have HK := Lib.hid hK
    have c1 := hE.b1.cell
    have c2 := hE.b2.cell
    have cn := hE.bn.cell
    have hst : stop < 0 ∨ (0 ≤ stop ∧ (m : Int) ≤ stop) := by
      rcases Int.lt_or_le stop 0 with h | h
      · exact .inl h
      · refine .inr ⟨h, ?_⟩
        rcases Int.lt_or_le stop (m : Int) with h2 | h2
        · exact absurd (show ((stop.toNat : Nat) : Int) = stop by omega) (hne stop.toNat (by omega))
        · exact h2
    clear hE hne hK
    rcases hst with hst | ⟨hst, hst2⟩
    all_goals
    · have hTb := HT.out.below HE.out.be
      have hb3 := HE.out.b3
      obtain ⟨u, hu⟩ := hb3
      have hWs := HE.out.be.size
      have hDl := (Array.getElem?_eq_some_iff.1 HK.out).1
      gi_wp2_with fail
      refine ⟨trivial, ?_⟩
      refine (callsIn_wide.2 (gearAlive_any W hTb)).mono ?_
      rintro e w5 ⟨rfl, hb5⟩
      have hu5 := boxed_below hu hb5 hu.lt
      have hf5 := hu5.frozen
      have hc5 := hu5.cell
      have HU := Lib.hid hu5
      have HB5 := Lib.hid hb5
      clear hu hu5 hb5
      gi_wp2_with fail
      have hK5 : w5.heap[D]? = some (.deferred (some [])) := (HB5.out.block D hDl).trans HK.out
      have hK' := (KeepsOthers.setCell w5 ⟨w.heap.size + 1 + 1 + 1, 0, none⟩ (.bool true)).same D _ hK5 rfl
      refine ⟨by simp, .inl ⟨_, _, rfl, run_takeDeferred hK', ?_⟩⟩
      have hc6 := cell_kept (HU.out.set (.bool true)).cell (grownBy_putObj' _ D (.deferred none)) (fun r e => by cases e; exact ⟨_, hK', rfl⟩)
      have hbb : Below w.heap.size w (w5.setCell ⟨w.heap.size + 1 + 1 + 1, 0, none⟩ (.bool true)) := HE.out.be.trans ((HB5.out.mono hWs).trans ((Below.refl w.heap.size w5).setCell (p := ⟨w.heap.size + 1 + 1 + 1, 0, none⟩) (by show _ ≤ _ + 1 + 1 + 1; omega) _))
      refine ⟨.bool true, ?_, rfl, hbb.trans (below_put _ _ _ (by omega) hbb.size)⟩
      simp [results, Tryd.f3, go_sem, hc6]
  case stop =>
    rintro D cd k W hD h0 hN ⟨hE, rfl, hs⟩ hK
    obtain ⟨i, rfl⟩ : ∃ i, k = i + 1 := ⟨k - 1, by omega⟩
    obtain rfl : stop = (i : Int) := by omega
    have HE := Lib.hid hE
    have HK := Lib.hid hK
    have c1 := hE.b1.cell
    have c2 := hE.b2.cell
    have cn := hE.bn.cell
    rw [show ((i + 1 : Nat) : Int) = (i : Int) + 1 by omega] at cn
    have hlt' : (i : Int) < (m : Int) := by omega
    have hi0 : (0 : Int) ≤ (i : Int) := by omega
    have hi3 : (i : Int) ≤ 300 := by omega
    clear hE hK hs
    have hTb := HT.out.below HE.out.be
    have hb3 := HE.out.b3
    obtain ⟨u, hu⟩ := hb3
    have hWs := HE.out.be.size
    have hDl := (Array.getElem?_eq_some_iff.1 HK.out).1
    gi_wp2_with fail
    refine ⟨trivial, ?_⟩
    refine (callsIn_wide.2 (gearAlive_any W hTb)).mono ?_
    rintro e w5 ⟨rfl, hb5⟩
    have hu5 := boxed_below hu hb5 hu.lt
    have hf5 := hu5.frozen
    have hc5 := hu5.cell
    have HU := Lib.hid hu5
    have HB5 := Lib.hid hb5
    clear hu hu5 hb5
    gi_wp2_with fail
    have hK5 : w5.heap[D]? = some (.deferred (some [])) := (HB5.out.block D hDl).trans HK.out
    have hK' := (KeepsOthers.setCell w5 ⟨w.heap.size + 1 + 1 + 1, 0, none⟩ (.bool true)).same D _ hK5 rfl
    refine ⟨by simp, .inl ⟨_, _, rfl, run_takeDeferred hK', ?_⟩⟩
    have hc6 := cell_kept (HU.out.set (.bool true)).cell (grownBy_putObj' _ D (.deferred none)) (fun r e => by cases e; exact ⟨_, hK', rfl⟩)
    have hbb : Below w.heap.size w (w5.setCell ⟨w.heap.size + 1 + 1 + 1, 0, none⟩ (.bool true)) := HE.out.be.trans ((HB5.out.mono hWs).trans ((Below.refl w.heap.size w5).setCell (p := ⟨w.heap.size + 1 + 1 + 1, 0, none⟩) (by show _ ≤ _ + 1 + 1 + 1; omega) _))
    refine ⟨.bool true, ?_, rfl, hbb.trans (below_put _ _ _ (by omega) hbb.size)⟩
    simp [results, Tryd.f3, go_sem, hc6]
end Go.Proofs.YtognkonncfjneaaDoor
