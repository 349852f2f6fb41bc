/- The walk of round (sha). Conditions: each theorem's premises. -/
import Derived.Test.YtepcbnkhfiphdaaSha5
namespace Go.Proofs.Ytepcbnkhfiphdaa
open Go.RowKit
theorem swapC {F : FuncId} {args : Array Value} {W : World} {v : Value} (h : Calls Try.prog F args W fun e w' => e = .returned v ∧ W = w') : Calls Try.prog F args W fun e w' => e = .returned v ∧ w' = W :=
  h.mono fun _ _ ⟨he, hw⟩ => ⟨he, hw.symm⟩
theorem rot_q (c : Int) (x : Nat) (w : World) (hc : c = -2 ∨ c = -6 ∨ c = -11 ∨ c = -13 ∨ c = -22 ∨ c = -25) : Calls Try.prog 41 #[.int .u32 (x : Int), .int .i64 c] w fun e w' => e = .returned (.int .u32 ((Sha.ror c.natAbs x : Nat) : Int)) ∧ w' = w := by
  rcases hc with rfl | rfl | rfl | rfl | rfl | rfl
  · exact swapC (rot2 x w)
  · exact swapC (rot6 x w)
  · exact swapC (rot11 x w)
  · exact swapC (rot13 x w)
  · exact swapC (rot22 x w)
  · exact swapC (rot25 x w)
theorem SV.cells {w : World} {g : Nat} {s : Sha.St} (h : Blk w g 74 (SV s)) : w.cell? ⟨g, 0, none⟩ = some (.int .u32 (s.a : Int)) ∧ w.cell? ⟨g, 1, none⟩ = some (.int .u32 (s.b : Int)) ∧ w.cell? ⟨g, 2, none⟩ = some (.int .u32 (s.c : Int)) ∧ w.cell? ⟨g, 3, none⟩ = some (.int .u32 (s.d : Int)) ∧
    w.cell? ⟨g, 4, none⟩ = some (.int .u32 (s.e : Int)) ∧ w.cell? ⟨g, 5, none⟩ = some (.int .u32 (s.f : Int)) ∧ w.cell? ⟨g, 6, none⟩ = some (.int .u32 (s.g : Int)) ∧ w.cell? ⟨g, 7, none⟩ = some (.int .u32 (s.h : Int)) :=
  ⟨h.cell 0, h.cell 1, h.cell 2, h.cell 3, h.cell 4, h.cell 5, h.cell 6, h.cell 7⟩
/-- Another block, where only a new one was written. -/
theorem Blk.others {w1 w2 : World} {o : Obj} {g t : Nat} {cs : Array Value} (h : Blk w1 g t cs) (hg : (w1.alloc o).grownBy w2 (some w1.heap.size)) : Blk w2 g t cs :=
  (h.alloc o).grown hg (fun e => by injection e with e; have := h.lt; omega)
theorem wl_build {ops : Array Oper} {rest : List Oper} {o : Oper} {a : Act} {Q : Exit → Act → World → Prop} {w : World} (hg : o.guard = none) (ty : TypeId) (parts : Array (Nat × Operand)) (ho : o.op = .build ty parts) {cs : Array Value} (hb : Try.prog.built ty (parts.map fun (i, x) => (i, a.eval x)).toList = some cs)
    (hk : wpList Try.prog ops Q rest (a.put o.dst (.agg cs)) w) : wpList Try.prog ops Q (o :: rest) a w :=
  wpList_build hg ty parts ho (by rw [hb]; rfl) (by rw [hb]; exact hk)
theorem built74 (a b c d e f g h : Nat) : Try.prog.built 74 [(0, .int .u32 (a : Int)), (1, .int .u32 (b : Int)), (2, .int .u32 (c : Int)), (3, .int .u32 (d : Int)), (4, .int .u32 (e : Int)), (5, .int .u32 (f : Int)), (6, .int .u32 (g : Int)), (7, .int .u32 (h : Int))] = some (SV ⟨a, b, c, d, e, f, g, h⟩) := by kernel_rfl
theorem only_of_alloc {w w1 : World} {o : Obj} (h : (w.alloc o).grownBy w1 (some w.heap.size)) : w.grownBy w1 (some w.heap.size) :=
  only_trans (only_of_below ((Below.refl _ _).alloc (Nat.le_refl _) _) _) h
def Z8 : Array Value := #[.int .u32 0, .int .u32 0, .int .u32 0, .int .u32 0, .int .u32 0, .int .u32 0, .int .u32 0, .int .u32 0]
/-- What stands in a round: the copy, the result's block, the words, the state; the engine. -/
structure Rnd (w wr : World) (g b7 b8 : Nat) (nb : Int) (s t : Sha.St) (bs : List UInt8) : Prop where
  four : Blk wr w.heap.size 74 (SV s)
  six : Blk wr (w.heap.size + 1) 74 Z8
  seven : Blk wr b7 63 (UA 64 (Sha.S bs))
  eight : Blk wr b8 74 (SV t)
  eng : En wr g 1 0 fillF nb
  bel : Below w.heap.size w wr
  n0 : g < w.heap.size
  n1 : w.heap.size + 1 < b7
  n2 : b7 < b8
theorem Rnd.drewN {w wr : World} {g b7 b8 : Nat} {nb : Int} {s t : Sha.St} {bs : List UInt8} (h : Rnd w wr g b7 b8 nb s t bs) (n : Nat) : Rnd w (wr.drewN n) g b7 b8 nb s t bs :=
  ⟨h.four.drewN n, h.six.drewN n, h.seven.drewN n, h.eight.drewN n, h.eng.drewN n, below_drewN h.bel n, h.n0, h.n1, h.n2⟩
theorem Rnd.store {w wr wr' : World} {g b7 b8 : Nat} {nb : Int} {s t t' : Sha.St} {bs : List UInt8} (h : Rnd w wr g b7 b8 nb s t bs) (h' : Blk wr' b8 74 (SV t')) (hg : wr.grownBy wr' (some b8)) : Rnd w wr' g b7 b8 nb s t' bs := by
  have a0 := h.n0
  have a1 := h.n1
  have a2 := h.n2
  exact ⟨h.four.grown hg (fun e => by injection e with e; omega), h.six.grown hg (fun e => by injection e with e; omega), h.seven.grown hg (fun e => by injection e with e; omega), h', h.eng.grown hg (fun e => by injection e with e; omega),
    h.bel.trans (only_below hg (by omega) (h.bel.size)), a0, a1, a2⟩
theorem rounds_next (W : List Nat) (s : Sha.St) (k : Nat) : Sha.rounds W s (k + 1) = Sha.step (Sha.rounds W s k) (Sha.K.getD k 0) (W.getD k 0) := by rw [Sha.rounds]
theorem SV.at_ (s : Sha.St) {k : Nat} (h : k < 8) : (SV s)[k]? = some (.int .u32 ((s.list.getD k 0 : Nat) : Int)) := by
  unfold SV
  rw [List.getElem?_toArray]
  exact U32.at_ _ _ h
/-- A state of eight words, read off a function. -/
def stOf (f : Nat → Nat) : Sha.St := ⟨f 0, f 1, f 2, f 3, f 4, f 5, f 6, f 7⟩
theorem stOf_at (f : Nat → Nat) {k : Nat} (h : k < 8) : (stOf f).list.getD k 0 = f k := by
  rcases k with _ | _ | _ | _ | _ | _ | _ | _ | k
  all_goals first | rfl | omega
theorem stOf_congr {f f' : Nat → Nat} (h : ∀ i, i < 8 → f i = f' i) : stOf f = stOf f' := by
  unfold stOf
  rw [h 0 (by omega), h 1 (by omega), h 2 (by omega), h 3 (by omega), h 4 (by omega), h 5 (by omega), h 6 (by omega), h 7 (by omega)]
/-- The sum of two states, behind k words. -/
def Pl (t s : Sha.St) (k : Nat) : Sha.St := stOf fun i => if i < k then Sha.add (t.list.getD i 0) (s.list.getD i 0) else t.list.getD i 0
def Pl' (t : Sha.St) (k v : Nat) : Sha.St := stOf fun i => if i = k then v else t.list.getD i 0
theorem Pl_zero (t s : Sha.St) : Pl t s 0 = t := by
  unfold Pl stOf
  simp [Sha.St.list]
theorem Pl_all (t s : Sha.St) : Pl t s 8 = Sha.plus t s := by
  unfold Pl stOf Sha.plus
  simp [Sha.St.list]
theorem Pl_at (t s : Sha.St) (k : Nat) (h : k < 8) : (Pl t s k).list.getD k 0 = t.list.getD k 0 := by
  unfold Pl
  rw [stOf_at _ h, if_neg (by omega)]
theorem Pl_succ (t s : Sha.St) (k : Nat) (h : k < 8) : Pl t s (k + 1) = Pl' (Pl t s k) k (Sha.add (t.list.getD k 0) (s.list.getD k 0)) := by
  have key : ∀ i, i < 8 → (if i < k + 1 then Sha.add (t.list.getD i 0) (s.list.getD i 0) else t.list.getD i 0) = (if i = k then Sha.add (t.list.getD k 0) (s.list.getD k 0) else (Pl t s k).list.getD i 0) := fun i hi => by
    by_cases e : i = k
    · subst e
      rw [if_pos (by omega), if_pos rfl]
    · rw [if_neg e]
      unfold Pl
      rw [stOf_at _ hi]
      by_cases h2 : i < k
      · rw [if_pos h2, if_pos (by omega)]
      · rw [if_neg h2, if_neg (by omega)]
  exact stOf_congr key
theorem SV.set (t : Sha.St) (k v : Nat) (h : k < 8) : (SV t).setIfInBounds k (.int .u32 (v : Int)) = SV (Pl' t k v) := by
  rcases k with _ | _ | _ | _ | _ | _ | _ | _ | k
  all_goals first | rfl | omega
set_option maxRecDepth 100000 in
set_option maxHeartbeats 1000000 in
theorem round_any (w : World) (g : Nat) (nb : Int) (hE : En w g 1 0 fillF nb) (s : Sha.St) (S : Nat → Prop) (A : Option Addr) (c : Nat) (bs : List UInt8) (hx : Bs w S A 64 c bs) (hnb : 0 ≤ nb ∧ nb ≤ 100000000000000000) :
    Calls Try.prog 29 #[.pointer (some ⟨g, 0, none⟩), .agg (SV s), .slice A 64 c] w fun e w' => e = .returned (.agg (SV (Sha.block s bs))) ∧ En w' g 1 0 fillF (nb + 1) ∧ w.grownBy w' (some g) := by
  have HX := Lib.hid hx
  have HE := Lib.hid hE
  obtain ⟨hn1, hn2⟩ := hnb
  clear hx hE
  go_enter Try.func29, Try.ntmps29
  go_wp2_with fail
  obtain ⟨W0, hW0⟩ : ∃ W0, W0 = (w.alloc (.cells (SV s) 74)).alloc (.cells Z8 74) := ⟨_, rfl⟩
  have hW0' := hW0
  unfold Z8 at hW0'
  rw [← hW0']
  have HS4 := Lib.hid (show Blk W0 w.heap.size 74 (SV s) by rw [hW0]; exact (Blk.new w 74 (SV s)).alloc _)
  have HS6 := Lib.hid (show Blk W0 (w.heap.size + 1) 74 Z8 by rw [hW0]; exact blk_new (by simp))
  have HW0 := Lib.hid (show Below w.heap.size w W0 by rw [hW0]; exact ((Below.refl _ _).alloc (Nat.le_refl _) _).alloc (by simp) _)
  clear hW0 hW0'
  have HX0 := Lib.hid (HX.out.after HW0.out)
  refine (spread_any W0 _ A c bs HX0.out).mono ?_
  rintro e w1 ⟨rfl, hb1⟩
  have HB1 := Lib.hid hb1
  clear hb1
  have HS41 := Lib.hid (HS4.out.after HB1.out)
  have HS61 := Lib.hid (HS6.out.after HB1.out)
  have HW1 := Lib.hid (HW0.out.trans (HB1.out.mono HW0.out.size))
  go_wp2_with (first
    | (refine wl_st63 rfl (.tmp 7) (.tmp 16) rfl rfl rfl (Blk.new w1 63 _) rfl ?_; intro w2 hb2 hg2; have hS42 := HS41.out.others hg2)
    | (refine wl_st rfl (.tmp 4) rfl rfl hS42 ?_)
    | (refine wl_stStore rfl (.tmp 8) (.tmp 17) rfl rfl rfl (Blk.new w2 74 _) rfl ?_; intro w3 hb3 hg3))
  have HR := Lib.hid (show Rnd w w3 g w1.heap.size w2.heap.size nb s s bs by
    have hS43 := hS42.others hg3
    have hz1 := HB1.out.size
    have hz2 : w1.heap.size < w2.heap.size := hb2.lt
    have hl6 := HS6.out.lt
    have hb12 : Below w.heap.size w w2 := HW1.out.trans (only_below (only_of_alloc hg2) HW1.out.size HW1.out.size)
    have hb13 : Below w.heap.size w w3 := hb12.trans (only_below (only_of_alloc hg3) hb12.size hb12.size)
    exact ⟨hS43, (HS61.out.others hg2).others hg3, hb2.others hg3, hb3, HE.out.after hb13, hb13, HE.out.lt, by omega, hz2⟩)
  clear hS42 hb2 hg2 hb3 hg3 HS4 HS6 HS41 HS61 HX0 HB1 HW0 HW1 HX HE
  obtain ⟨b7, hb7⟩ : ∃ b, b = w1.heap.size := ⟨_, rfl⟩
  obtain ⟨b8, hb8⟩ : ∃ b, b = w2.heap.size := ⟨_, rfl⟩
  rw [← hb7, ← hb8] at HR
  rw [← hb7, ← hb8]
  clear hb7 hb8
  go_loopw [18] (fun v18 wr => ∃ k : Nat, k ≤ 64 ∧ v18 = .int .i64 (k : Int) ∧ Hid (Rnd w wr g b7 b8 nb s (Sha.rounds (Sha.sched bs) s k) bs)) (fun v18 _ => 64 - (intOf v18).toNat)
  case atStart => exact ⟨0, by omega, rfl, HR⟩
  case round =>
    obtain ⟨k, hk, rfl, HR⟩ := hrel
    by_cases hlt : k < 64
    · have hlt' : (k : Int) < 64 := by omega
      obtain ⟨t, ht⟩ : ∃ t, t = Sha.rounds (Sha.sched bs) s k := ⟨_, rfl⟩
      rw [← ht] at HR
      have HT := Lib.hid ht
      obtain ⟨q0, q1, q2, q3, q4, q5, q6, q7⟩ := SV.cells HR.out.eight
      obtain ⟨x, hx⟩ : ∃ x, x = Sha.S bs k := ⟨_, rfl⟩
      obtain ⟨y, hy⟩ : ∃ y, y = Sha.K.getD k 0 := ⟨_, rfl⟩
      have c7 : wr.cell? ⟨b7, k, none⟩ = some (.int .u32 (x : Int)) := by rw [HR.out.seven.cell, UA.at_ hlt, hx]
      have ck : wr.cell? ⟨g, 11 + k, none⟩ = some (.int .u32 (y : Int)) := by
        have := HR.out.eng.row (8 + k) (by omega)
        rw [show 3 + (8 + k) = 11 + k by omega] at this
        rw [this, hy]
        unfold fillF
        rw [if_neg (by omega), show 8 + k - 8 = k by omega]
      have c0 := HR.out.eng.c0
      have HXY := Lib.hid (And.intro hx hy)
      clear hx hy ht
      have rx : ∀ a b : Nat, bits .xor .u32 (a : Int) (b : Int) = ((Sha.xo a b : Nat) : Int) := r_xor
      have ro : ∀ a b : Nat, bits .or .u32 (a : Int) (b : Int) = ((Sha.orr a b : Nat) : Int) := r_or
      have rn : ∀ a b : Nat, bits .and .u32 (a : Int) (b : Int) = ((Sha.an a b : Nat) : Int) := r_and
      have ra : ∀ a b : Nat, ((a : Int) + (b : Int)) % 4294967296 = ((Sha.add a b : Nat) : Int) := r_add
      have raw : ∀ a b : Nat, IntKind.u32.wrap ((a : Int) + (b : Int)) = ((Sha.add a b : Nat) : Int) := r_addw
      go_wp2_with fail
      go_quiet ((go_at_call 41; exact Calls.quiet_of_same (rot_q _ _ _ (by decide))))
      go_wp2_with fail
      obtain ⟨W2, hW2⟩ : ∃ W2, W2 = wr.drewN nq := ⟨_, rfl⟩
      rw [← hW2]
      have HR2 := Lib.hid (show Rnd w W2 g b7 b8 nb s t bs by rw [hW2]; exact HR.out.drewN nq)
      clear hW2 q0 q1 q2 q3 q4 q5 q6 q7 c7 ck c0
      obtain ⟨X, hX⟩ : ∃ X, X = Sha.add (Sha.add (Sha.add (Sha.add t.h (Sha.xo (Sha.xo (Sha.ror 6 t.e) (Sha.ror 11 t.e)) (Sha.ror 25 t.e))) (Sha.xo t.g (Sha.an t.e (Sha.xo t.f t.g)))) y) x := ⟨_, rfl⟩
      rw [← hX]
      have HXX := Lib.hid hX
      clear hX
      obtain ⟨q0, q1, q2, q3, q4, q5, q6, q7⟩ := SV.cells HR2.out.eight
      go_quiet ((go_at_call 41; exact Calls.quiet_of_same (rot_q _ _ _ (by decide))))
      obtain ⟨W3, hW3⟩ : ∃ W3, W3 = W2.drewN nq := ⟨_, rfl⟩
      rw [← hW3]
      have HR3 := Lib.hid (show Rnd w W3 g b7 b8 nb s t bs by rw [hW3]; exact HR2.out.drewN nq)
      clear hW3 q0 q1 q2 q3 q4 q5 q6 q7
      obtain ⟨q0, q1, q2, q3, q4, q5, q6, q7⟩ := SV.cells HR3.out.eight
      obtain ⟨Y, hY⟩ : ∃ Y, Y = Sha.add (Sha.xo (Sha.xo (Sha.ror 2 t.a) (Sha.ror 13 t.a)) (Sha.ror 22 t.a)) (Sha.orr (Sha.an t.a t.b) (Sha.an t.c (Sha.orr t.a t.b))) := ⟨_, rfl⟩
      rw [← hY]
      have HYY := Lib.hid hY
      clear hY
      go_wp2_with (first
        | ((with_reducible show wpList Try.prog _ _ ({ dst := _, op := Op.build 74 _, type := _, pos := _, after := _, guard := none } :: _) _ _); refine wl_build rfl 74 _ rfl (cs := SV ⟨Sha.add X Y, t.a, t.b, t.c, Sha.add t.d X, t.e, t.f, t.g⟩) (by simp [Act.eval]; exact built74 _ _ _ _ _ _ _ _) ?_)
        | (refine wl_stStore rfl (.tmp 8) (.tmp 96) rfl rfl rfl HR3.out.eight rfl ?_; intro w4 hb4 hg4; have HR4 := Lib.hid (HR3.out.store hb4 hg4); clear hb4 hg4 q0 q1 q2 q3 q4 q5 q6 q7))
      have HR5 : Hid (Rnd w w4 g b7 b8 nb s (Sha.rounds (Sha.sched bs) s (k + 1)) bs) := Lib.hid (by
        have e : (⟨Sha.add X Y, t.a, t.b, t.c, Sha.add t.d X, t.e, t.f, t.g⟩ : Sha.St) = Sha.rounds (Sha.sched bs) s (k + 1) := by
          rw [rounds_next, ← HT.out, HXX.out, HYY.out, HXY.out.1, HXY.out.2]
          unfold Sha.step Sha.S1 Sha.S0 Sha.ch Sha.maj Sha.S
          with_reducible rfl
        rw [← e]
        exact HR4.out)
      exact ⟨⟨k + 1, by omega, by go_num, HR5⟩, by simp [intOf]; omega⟩
    · obtain rfl : k = 64 := by omega
      clear hlt
      rw [show ((64 : Nat) : Int) = 64 from rfl]
      go_wp2_with fail
      obtain ⟨t, ht⟩ : ∃ t, t = Sha.rounds (Sha.sched bs) s 64 := ⟨_, rfl⟩
      rw [← ht] at HR
      have HT := Lib.hid ht
      clear ht
      go_loopw [98] (fun v98 wr => ∃ k : Nat, k ≤ 8 ∧ v98 = .int .i64 (k : Int) ∧ Hid (Rnd w wr g b7 b8 nb s (Pl t s k) bs)) (fun v98 _ => 8 - (intOf v98).toNat)
      case atStart => exact ⟨0, by omega, rfl, Lib.hid (by rw [Pl_zero]; exact HR.out)⟩
      case round =>
        obtain ⟨k, hk, rfl, HR⟩ := hrel
        by_cases hlt : k < 8
        · have hlt' : (k : Int) < 8 := by omega
          obtain ⟨x, hx⟩ : ∃ x, x = t.list.getD k 0 := ⟨_, rfl⟩
          obtain ⟨y, hy⟩ : ∃ y, y = s.list.getD k 0 := ⟨_, rfl⟩
          go_wp2_with fail
          refine wp_region_still_tail 8 (by kernel_rfl) (by kernel_rfl) ?_
          simp only [List.take_succ_cons, List.take_zero, List.drop_succ_cons, List.drop_zero]
          change wpStill _ _ wr.drew (fun a' => wpList _ _ _ _ a' wr.drew) _ _
          obtain ⟨W2, hW2⟩ : ∃ W2, W2 = wr.drew := ⟨_, rfl⟩
          rw [← hW2]
          have HR2 := Lib.hid (show Rnd w W2 g b7 b8 nb s (Pl t s k) bs by rw [hW2]; exact HR.out.drewN 1)
          have c8 : W2.cell? ⟨b8, k, none⟩ = some (.int .u32 (x : Int)) := by rw [HR2.out.eight.cell, SV.at_ _ hlt, Pl_at _ _ _ hlt, hx]
          have c4 : W2.cell? ⟨w.heap.size, k, none⟩ = some (.int .u32 (y : Int)) := by rw [HR2.out.four.cell, SV.at_ _ hlt, hy]
          have f8 := HR2.out.eight.frozen k
          have HP := Lib.hid (show Pl t s (k + 1) = Pl' (Pl t s k) k (Sha.add x y) by rw [hx, hy]; exact Pl_succ t s k hlt)
          clear hW2 hx hy
          have ra : ∀ a b : Nat, ((a : Int) + (b : Int)) % 4294967296 = ((Sha.add a b : Nat) : Int) := r_add
          have raw : ∀ a b : Nat, IntKind.u32.wrap ((a : Int) + (b : Int)) = ((Sha.add a b : Nat) : Int) := r_addw
          repeat still_step
          refine wpStill_nil ?_
          go_wp2_with fail
          have HR3 : Hid (Rnd w (W2.setCell ⟨b8, k, none⟩ (.int .u32 ((Sha.add x y : Nat) : Int))) g b7 b8 nb s (Pl t s (k + 1)) bs) := Lib.hid (by
            rw [HP.out]
            exact HR2.out.store (by rw [← SV.set _ _ _ hlt]; exact HR2.out.eight.set_ _ _) (only_setCell (p := ⟨b8, k, none⟩) (World.grownBy.refl _ _) (.inl rfl) _))
          exact ⟨⟨k + 1, by omega, by go_num, HR3⟩, by simp [intOf]; omega⟩
        · obtain rfl : k = 8 := by omega
          clear hlt
          rw [show ((8 : Nat) : Int) = 8 from rfl]
          rw [Pl_all] at HR
          have hb : Sha.plus t s = Sha.block s bs := by rw [HT.out]; rfl
          rw [hb] at HR
          have HR' := Lib.hid HR.out
          have c0 := HR'.out.eng.c0
          clear hb HR
          go_wp2_with fail
          refine (add_any _ ⟨g, 75, none⟩ nb 1 HR'.out.eng.cb (HR'.out.eng.free _) (by omega) (by omega)).mono ?_
          rintro e w2 ⟨rfl, hw2⟩
          have H1 := Lib.hid (show En w2 g 1 0 fillF (nb + 1) by rw [hw2]; exact HR'.out.eng.setCnt _)
          have hG1 : wr.grownBy w2 (some g) := by rw [hw2]; exact only_setCell (p := ⟨g, 75, none⟩) (World.grownBy.refl _ _) (.inl rfl) _
          have a0 := HR'.out.n0
          have a1 := HR'.out.n1
          have a2 := HR'.out.n2
          have H8 := Lib.hid (HR'.out.eight.grown hG1 (fun e => by injection e with e; omega))
          have H6 := Lib.hid (HR'.out.six.grown hG1 (fun e => by injection e with e; omega))
          have HG2 := Lib.hid (only_trans (only_of_below HR'.out.bel (some g)) hG1)
          clear hw2 hG1 c0
          go_wp2_with (first
            | (refine wl_st rfl (.tmp 8) rfl rfl H8.out ?_)
            | (refine wl_stStore rfl (.tmp 6) (.tmp 114) rfl rfl rfl H6.out rfl ?_; intro w3 hb3 hg3))
          refine bodyPost_ret (results_cell_row rfl _ _ (w.heap.size + 1) 74 (SV (Sha.block s bs)) (0, 0) _ rfl hb3 Try.underlying74 rfl (by rw [size74]; rfl)) rfl ⟨rfl, ?_, ?_⟩
          · exact H1.out.grown hg3 (fun e => by injection e with e; omega)
          · exact only_new HG2.out hg3 (by omega)
end Go.Proofs.Ytepcbnkhfiphdaa
