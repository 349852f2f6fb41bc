/- The walks of slices.Grow at nil, slices.Concat and Join. Conditions: each theorem's premises. -/
import Derived.Test.YtognkonncfjneaaDoorCh10
import Derived.Lib.AppendZerosOnto
namespace Go.Proofs.YtognkonncfjneaaDoor
open Go.RowKit
theorem zeroCells_size (z : Value) (n : Nat) : (Builtin.zeroCells #[z] n).size = n := by simp [Builtin.zeroCells]
theorem wpList_append_zeros {ops : Array Oper} {rest : List Oper} {o : Oper} {a : Act} {Q : Exit → Act → World → Prop} {w w' : World} {v u v' : Value} (hgd : o.guard = none) (s x : Operand)
    (ho : o.op = .call { callee := .builtin .append, args := #[s, x], argTypes := #[23, 3] }) (hs : a.eval s = v) (hx : a.eval x = u) (hr : ∀ ty, (Builtin.append_ #[23, 3] ty #[v, u]).run Tryd.prog w = .ok v' w')
    (h : wpList Tryd.prog ops Q rest (a.put o.dst v') w') : wpList Tryd.prog ops Q (o :: rest) a w :=
  wpList_plain hgd fun _ hK => by
    unfold Oper.wp execOp
    simp only [ho, resolve, invoke, builtin, Sem.run_bind, Sem.run_pure, Result.andThen_ok, List.map_toArray, List.map_cons, List.map_nil, hs, hx, hr]
    exact hK _ _ h
set_option maxHeartbeats 1000000 in
theorem grow_any (w : World) (n : Nat) (hn : n ≤ 100000000) :
    Calls Tryd.prog 60 #[.slice none 0 0, .int .i64 (n : Int)] w fun e w' => ∃ A c, e = .returned (.slice A 0 c) ∧ w'.ownsRow w.heap.size 5 1 (.slice A 0 c) 0 [] ∧ Below w.heap.size w w' := by
  rcases Nat.eq_zero_or_pos n with h0 | hpos
  · subst h0
    go_enter Tryd.func60, Tryd.ntmps60
    go_wp2_with fail
    go_ret
    exact ⟨none, 0, rfl, World.ownsRow_nil _ _ _ _, Below.refl _ _⟩
  · obtain ⟨i0, hi0, hz0, hz1, hz2⟩ := info_parts Tryd.info5
    obtain ⟨G, hG⟩ : ∃ G, G = grownCap w (0 + n) 0 5 := ⟨_, rfl⟩
    have hGn : n ≤ G := by rw [hG]; have := grownCap_ge w (0 + n) 0 5; omega
    have hGm : G ≤ maxLen := by rw [hG]; exact grownCap_le_maxLen w _ _ _ (by simp only [maxLen]; omega)
    obtain ⟨cs, hcs⟩ : ∃ cs, cs = (([] : List Value).toArray ++ Builtin.zeroCells #[.int .u8 0] n ++ Builtin.zeroCells #[.int .u8 0] (G - (0 + n))) := ⟨_, rfl⟩
    have hcz : cs.size = G := by
      rw [hcs, Array.size_append, Array.size_append, zeroCells_size, zeroCells_size]
      simp
      omega
    have hrz : ∀ ty, (Builtin.append_ #[23, 3] ty #[.slice none 0 0, .int .i64 (n : Int)]).run Tryd.prog w = .ok (.slice (some ⟨w.heap.size, 0, none⟩) n G) (w.drew.alloc (.cells cs 5)) := fun ty => by
      have h := Lib.run_append_grow_zeros w 23 3 ty 5 i0 _ .i64 .i64 Tryd.underlying23 Tryd.underlying3 hi0 hz0 none 0 0 [] (run_firstCells_none w.drew i0.size 0 0 0) n (by omega) (by omega) (by omega) (by omega) (by rw [hz2]; omega) (growslice_fits (by omega) (by rw [hz2]; omega))
      rw [← hG] at h
      rw [h, hcs, Nat.zero_add]
      rfl
    have hc1 : ∀ W, (Instr.sliceAt 23 (.slice (some ⟨w.heap.size, 0, none⟩) n G) none (some (.int .i64 0)) none).run Tryd.prog W = .ok (.slice (some ⟨w.heap.size, 0, none⟩) 0 G) W := fun W => by
      have := run_cut_upto Tryd.underlying23 hi0 hz1 (some ⟨w.heap.size, 0, none⟩) n G 0 0 rfl (Nat.zero_le _) W
      rw [this]
      by_cases e : G = 0
      · rw [if_pos e]
      · rw [if_neg e]; simp [Addr.add]
    have hown : Hid ((w.drew.alloc (.cells cs 5)).ownsRow w.heap.size 5 1 (.slice (some ⟨w.heap.size, 0, none⟩) 0 G) 0 []) := Lib.hid ⟨rfl, .inr ⟨w.heap.size, G, cs, rfl, Nat.le_refl _, heap_alloc_new w.drew _, Nat.zero_le _, hGm, by omega, by simp⟩⟩
    have hpos' : 0 < (n : Int) := by omega
    have HRZ := Lib.hid hrz
    clear hcs hcz hG hGn hGm hi0 hz0 hz1 hz2 hrz
    go_enter Tryd.func60, Tryd.ntmps60
    go_wp2_with (at_builtin; refine wpList_append_zeros rfl (.tmp 20) (.tmp 21) rfl rfl rfl HRZ.out ?_)
    go_ret
    exact ⟨_, G, rfl, hown.out, (Below.refl _ w).drew.alloc (Nat.le_refl _) _⟩
set_option maxHeartbeats 2000000 in
theorem concat_any (w : World) (S : Nat → Prop) (A : Option Addr) (n c : Nat) (l : List (List UInt8)) (hx : RR w S A n c l) (hn : n ≤ 100000000) (hf : l.flatten.length ≤ 100000000) :
    Calls Tryd.prog 51 #[.slice A n c] w fun e w' => ∃ A' c', e = .returned (.slice A' l.flatten.length c') ∧ w'.ownsRow w.heap.size 5 1 (.slice A' l.flatten.length c') l.flatten.length (u8s l.flatten) ∧ Below w.heap.size w w' := by
  have HX := Lib.hid hx
  have HN := Lib.hid hx.len
  clear hx
  go_enter Tryd.func51, Tryd.ntmps51
  go_wp2_with fail
  go_loopw [3, 11] (fun v3 v11 wr => w = wr ∧ ∃ k : Nat, k ≤ n ∧ v3 = .int .i64 ((endsF l k : Nat) : Int) ∧ v11 = .int .i64 (k : Int)) (fun _ v11 _ => n - (intOf v11).toNat)
  case atStart => exact ⟨rfl, 0, Nat.zero_le _, rfl, rfl⟩
  case round =>
    obtain ⟨rfl, k, hk, rfl, rfl⟩ := hrel
    by_cases hlt : k < n
    · obtain ⟨ad, A', n', c', x, rfl, -, hx, hcell, hbx⟩ := HX.out.at_ k hlt
      have hes := endsF_succ hx.out
      have hel := endsF_le l (k + 1)
      rw [hbx.len] at hes
      obtain ⟨e0, he0⟩ : ∃ e0, e0 = endsF l k := ⟨_, rfl⟩
      have HES : Hid (endsF l (k + 1) = e0 + n') := Lib.hid (by rw [he0]; exact hes)
      have hle : e0 + n' ≤ 100000000 := by rw [HES.out] at hel; omega
      rw [← he0]
      have hlt' : (k : Int) < (n : Int) := by omega
      have hneg : ¬ ((e0 : Int) + (n' : Int) < 0) := by omega
      clear hbx hes hel he0
      go_wp2_with fail
      go_roundw
      case rel => exact ⟨trivial, k + 1, by omega, by rw [HES.out]; go_num, by go_num⟩
      case measure => simp [intOf]; omega
    · obtain rfl : k = n := by omega
      have HE : Hid (endsF l k = l.flatten.length) := Lib.hid (by unfold endsF; rw [List.take_of_length_le (by rw [HN.out]; exact Nat.le_refl _)])
      have hel := endsF_le l k
      obtain ⟨e0, he0⟩ : ∃ e0, e0 = endsF l k := ⟨_, rfl⟩
      rw [← he0] at HE hel ⊢
      clear he0
      go_wp2_with fail
      refine (grow_any _ e0 (by omega)).mono ?_
      rintro e w1 ⟨A1, c1, rfl, hown1, hb1⟩
      have HO1 := Lib.hid hown1
      have HB1 := Lib.hid hb1
      clear hown1 hb1
      go_wp2_with fail
      go_loopw [6, 27] (fun v6 v27 wr => ∃ k' : Nat, k' ≤ k ∧ v27 = .int .i64 (k' : Int) ∧ Hid (wr.ownsRow w.heap.size 5 1 v6 (endsF l k') (u8s (l.take k').flatten)) ∧ Hid (Below w.heap.size w wr)) (fun _ v27 _ => k - (intOf v27).toNat)
      case atStart => exact ⟨0, Nat.zero_le _, rfl, HO1, HB1⟩
      case round =>
        obtain ⟨j, hj, rfl, HO, HB⟩ := hrel
        clear HO1 HB1
        by_cases hlt : j < k
        · obtain ⟨ad, A', n', c', x, rfl, -, hx, hcell, hbx⟩ := (HX.out.after HB.out).at_ j hlt
          have hes := endsF_succ hx.out
          have hel2 := endsF_le l (j + 1)
          rw [hbx.len] at hes
          obtain ⟨A6, c6, hv6, -⟩ := own_shape HO.out
          subst hv6
          have hlt' : (j : Int) < (k : Int) := by omega
          have hwr := HB.out.size
          have HBX := Lib.hid hbx
          have hsum : endsF l j + n' ≤ 100000000 := by omega
          have HES := Lib.hid hes
          obtain ⟨e1, he1⟩ : ∃ e1, e1 = endsF l j := ⟨_, rfl⟩
          rw [← he1] at HO HES hsum ⊢
          clear hbx hes hel2 he1
          go_wp2_with (at_builtin; go_must ((refine wpList_append_u8 rfl (.tmp 31) (.tmp 32) rfl (base := w.heap.size) (v := .slice A6 e1 c6) (n := e1) (xs := (l.take j).flatten) rfl HO.out rfl HBX.out (by omega) hwr ?_; intro v7 w7 hown7 hg7 hat7)))
          have HO7 : Hid (w7.ownsRow w.heap.size 5 1 v7 (endsF l (j + 1)) (u8s (l.take (j + 1)).flatten)) := Lib.hid (by rw [HES.out, take_snoc hx.out]; simpa using hown7)
          have HB7 : Hid (Below w.heap.size w w7) := Lib.hid (HB.out.trans ((Below.refl _ _).grown hg7 hwr (fun i e => own_base HO.out i e)))
          clear hown7 hg7 hat7
          go_roundw
          case rel => exact ⟨j + 1, by omega, by go_num, HO7, HB7⟩
          case measure => simp [intOf]; omega
        · obtain rfl : j = k := by omega
          obtain ⟨A6, c6, hv6, -⟩ := own_shape HO.out
          subst hv6
          have HF : Hid (endsF l j = l.flatten.length ∧ (l.take j).flatten = l.flatten) := Lib.hid (by unfold endsF; rw [List.take_of_length_le (by rw [HN.out]; exact Nat.le_refl _)]; exact ⟨rfl, rfl⟩)
          go_wp2_with fail
          go_ret
          have ho := HO.out
          rw [HF.out.1, HF.out.2] at ho
          rw [HF.out.1]
          exact ⟨_, _, rfl, ho, HB.out⟩
theorem join_any (w : World) (S : Nat → Prop) (A : Option Addr) (n c : Nat) (l : List (List UInt8)) (hx : RR w S A n c l) (hn : n ≤ 100000000) (hf : l.flatten.length ≤ 100000000) :
    Calls Tryd.prog 33 #[.slice A n c] w fun e w' => ∃ A' c', e = .returned (.slice A' l.flatten.length c') ∧ w'.ownsRow w.heap.size 5 1 (.slice A' l.flatten.length c') l.flatten.length (u8s l.flatten) ∧ Below w.heap.size w w' := by
  have HC := Lib.hid (concat_any w S A n c l hx hn hf)
  obtain ⟨N, hN⟩ : ∃ N, N = l.flatten.length := ⟨_, rfl⟩
  rw [← hN] at HC ⊢
  clear hx hN
  go_enter Tryd.func33, Tryd.ntmps33
  go_wp2_with fail
  refine (HC.out).mono ?_
  rintro e w1 ⟨A1, c1, rfl, ho, hb⟩
  have HO := Lib.hid (And.intro ho hb)
  clear ho hb
  go_wp2_with fail
  go_ret
  exact ⟨A1, c1, rfl, HO.out⟩
end Go.Proofs.YtognkonncfjneaaDoor
