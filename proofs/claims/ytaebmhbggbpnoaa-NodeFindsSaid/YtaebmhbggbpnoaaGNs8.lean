/- The walk of symMergeCmpFunc (slices), where the second part is one element. Conditions: each theorem's premises. -/
import Derived.Test.YtaebmhbggbpnoaaGNs7
namespace Go.Proofs.Ytaebmhbggbpnoaa
open Go.RowKit
set_option maxRecDepth 100000 in
set_option maxHeartbeats 4000000 in
theorem sm_right (w : World) (g : Nat) (A : Option Addr) (n c : Nat) (L : List EV) (a m b : Nat) (h : ML w g A n c L) (h0 : a + 1 < m) (h1 : m + 1 = b) (h3 : b ≤ n) (hn : n ≤ 1000000) (ht : Srt a m L) :
    Calls Try.prog 142 #[.slice A n c, .int .i64 (a : Int), .int .i64 (m : Int), .int .i64 (b : Int), cmpV] w (MergePost w g A n c L a b) := by
  obtain ⟨ad, hA0⟩ : ∃ ad, A = some ad := by
    obtain ⟨ad, p, x, hA, -⟩ := h.at_ (i := a) (by omega)
    exact ⟨ad, hA⟩
  subst hA0
  have HM := Lib.hid h
  have HT := Lib.hid ht
  have HX : Hid (∃ x, L[m]? = some x) := Lib.hid (by
    obtain ⟨ad, p, x, hA, -, -, hl, -⟩ := h.at_ (i := m) (by omega)
    exact ⟨x, hl.out⟩)
  clear h ht
  have e0 : ((m : Int) - (a : Int) == 1) = false := by simp; omega
  obtain ⟨ma, hma⟩ : ∃ k, m - a = k := ⟨_, rfl⟩
  have e00 : (m : Int) - (a : Int) = (ma : Int) := by omega
  have e01 : ((ma : Int) == 1) = false := by simp; omega
  have w0 : IntKind.i64.wrap (ma : Int) = (ma : Int) := by unfold IntKind.wrap; simp [IntKind.bits, IntKind.signed]; omega
  clear hma e0
  have e1 : (b : Int) - (m : Int) = 1 := by omega
  obtain ⟨x, hx⟩ := HX.out
  have HX0 := Lib.hid hx
  clear hx HX
  have la : (m : Int) < (n : Int) := by omega
  go_enter Try.func142, Try.ntmps142
  go_wp2_with fail
  go_loopw [14, 15] (fun v10 v11 wr => ∃ (i j : Nat), v10 = .int .i64 (i : Int) ∧ v11 = .int .i64 (j : Int) ∧ a ≤ i ∧ i ≤ j ∧ j ≤ m ∧ Hid (Below w.heap.size w wr) ∧ Hid (∀ q y, a ≤ q → q < i → L[q]? = some y → ¬ kl x y) ∧ Hid (∀ q y, j ≤ q → q < m → L[q]? = some y → kl x y)) (fun v10 v11 _ => (intOf v11).toNat - (intOf v10).toNat)
  case atStart => exact ⟨a, m, rfl, rfl, Nat.le_refl _, by omega, Nat.le_refl _, Lib.hid (Below.refl _ _), Lib.hid (fun q y q1 q2 => by omega), Lib.hid (fun q y q1 q2 => by omega)⟩
  case round =>
    obtain ⟨i, j, rfl, rfl, hi, hij, hj, HB, HL, HR⟩ := hrel
    by_cases hlt : i < j
    · have hlt' : (i : Int) < (j : Int) := by omega
      obtain ⟨hh, hhe⟩ : ∃ k, (i + j) / 2 = k := ⟨_, rfl⟩
      have eh : ((i : Int) + (j : Int)) / 2 = (hh : Int) := by omega
      have hb1 : i ≤ hh ∧ hh < j := by omega
      have HH := Lib.hid hb1
      have lh : (hh : Int) < (n : Int) := by omega
      have lhn : hh < n := by omega
      clear hhe hb1
      obtain ⟨p, p2, x', y, RX, RY, z, hp, hp2, -, -, hl, hl2, HATX, HATY, HSX, HSY, HCMP, HZ, -, -⟩ := HM.out.two (i := m) (j := hh) (by omega) lhn
      have hxx : x' = x := by have := hl.out; rw [HX0.out] at this; injection this with this; exact this.symm
      subst hxx
      clear lhn
      go_wp2_with fail
      refine wp_region_held_drew (S := fun w' => Hid (Below w.heap.size w w')) (by kernel_rfl) (Lib.hid HB.out.drew) (fun hHeld => ?_)
      refine wpAnyH_take (i := 0) (oi := { dst := some 92, op := Op.move (Operand.tmp 4), type := 204, pos := "zsortanyfunc.go:414", after := #[], guard := none }) (v := ?vA0) rfl (by kernel_rfl) (by kernel_rfl) (by kernel_rfl) (fun _ _ _ h => h) (Or.inl ⟨by rfl, ?hyA0⟩) hHeld ?restA0
      case hyA0 => (intro w hSw; go_simp; try with_reducible rfl)
      try simp only [Act.put, List.setIfInBounds_toArray, List.set_cons_zero, List.set_cons_succ]
      refine wpAnyH_take (i := 1) (oi := { dst := some 93, op := Op.move (Operand.tmp 0), type := 96, pos := "zsortanyfunc.go:414", after := #[], guard := none }) (v := ?vA1) rfl (by kernel_rfl) (by kernel_rfl) (by kernel_rfl) (fun _ _ _ h => h) (Or.inl ⟨by rfl, ?hyA1⟩) hHeld ?restA1
      case hyA1 => (intro w hSw; go_simp; try with_reducible rfl)
      try simp only [Act.put, List.setIfInBounds_toArray, List.set_cons_zero, List.set_cons_succ]
      refine wpAnyH_take (i := 2) (oi := { dst := some 94, op := Op.move (Operand.tmp 2), type := 3, pos := "zsortanyfunc.go:414", after := #[], guard := none }) (v := ?vA2) rfl (by kernel_rfl) (by kernel_rfl) (by kernel_rfl) (fun _ _ _ h => h) (Or.inl ⟨by rfl, ?hyA2⟩) hHeld ?restA2
      case hyA2 => (intro w hSw; go_simp; try with_reducible rfl)
      try simp only [Act.put, List.setIfInBounds_toArray, List.set_cons_zero, List.set_cons_succ]
      refine wpAnyH_take (i := 3) (oi := { dst := some 95, op := Op.indexAddr 96 (Operand.tmp 93) (Operand.tmp 94), type := 0, pos := "zsortanyfunc.go:414", after := #[{ on := 1, ground := Ground.data }, { on := 2, ground := Ground.data }], guard := none }) (v := ?vA3) rfl (by kernel_rfl) (by kernel_rfl) (by kernel_rfl) (fun _ _ _ h => h) (Or.inl ⟨by rfl, ?hyA3⟩) hHeld ?restA3
      case hyA3 => (intro w hSw; go_simp; try with_reducible rfl)
      try simp only [Act.put, List.setIfInBounds_toArray, List.set_cons_zero, List.set_cons_succ]
      refine wpAnyH_take (i := 4) (oi := { dst := some 96, op := Op.load 144 (Operand.tmp 95), type := 144, pos := "zsortanyfunc.go:414", after := #[{ on := 3, ground := Ground.data }], guard := none }) (v := _) rfl (by kernel_rfl) (by kernel_rfl) (by kernel_rfl) (fun _ _ _ h => h) (yields_A rfl (by rfl) rfl (by rw [HSX.out]; exact wide144) (fun w' hs => HATX.out w' (Hid.out hs))) hHeld ?_
      try simp only [Act.put, List.setIfInBounds_toArray, List.set_cons_zero, List.set_cons_succ]
      refine wpAnyH_take (i := 5) (oi := { dst := some 97, op := Op.move (Operand.tmp 0), type := 96, pos := "zsortanyfunc.go:414", after := #[], guard := none }) (v := ?vA5) rfl (by kernel_rfl) (by kernel_rfl) (by kernel_rfl) (fun _ _ _ h => h) (Or.inl ⟨by rfl, ?hyA5⟩) hHeld ?restA5
      case hyA5 => (intro w hSw; go_simp; try with_reducible rfl)
      try simp only [Act.put, List.setIfInBounds_toArray, List.set_cons_zero, List.set_cons_succ]
      refine wpAnyH_take (i := 6) (oi := { dst := some 98, op := Op.move (Operand.tmp 16), type := 3, pos := "zsortanyfunc.go:414", after := #[], guard := none }) (v := ?vA6) rfl (by kernel_rfl) (by kernel_rfl) (by kernel_rfl) (fun _ _ _ h => h) (Or.inl ⟨by rfl, ?hyA6⟩) hHeld ?restA6
      case hyA6 => (intro w hSw; go_simp; try with_reducible rfl)
      try simp only [Act.put, List.setIfInBounds_toArray, List.set_cons_zero, List.set_cons_succ]
      refine wpAnyH_take (i := 7) (oi := { dst := some 99, op := Op.indexAddr 96 (Operand.tmp 97) (Operand.tmp 98), type := 0, pos := "zsortanyfunc.go:414", after := #[{ on := 5, ground := Ground.data }, { on := 6, ground := Ground.data }], guard := none }) (v := ?vA7) rfl (by kernel_rfl) (by kernel_rfl) (by kernel_rfl) (fun _ _ _ h => h) (Or.inl ⟨by rfl, ?hyA7⟩) hHeld ?restA7
      case hyA7 => (intro w hSw; go_simp; try with_reducible rfl)
      try simp only [Act.put, List.setIfInBounds_toArray, List.set_cons_zero, List.set_cons_succ]
      refine wpAnyH_take (i := 8) (oi := { dst := some 100, op := Op.load 144 (Operand.tmp 99), type := 144, pos := "zsortanyfunc.go:414", after := #[{ on := 7, ground := Ground.data }], guard := none }) (v := _) rfl (by kernel_rfl) (by kernel_rfl) (by kernel_rfl) (fun _ _ _ h => h) (yields_A rfl (by rfl) rfl (by rw [HSY.out]; exact wide144) (fun w' hs => HATY.out w' (Hid.out hs))) hHeld ?_
      try simp only [Act.put, List.setIfInBounds_toArray, List.set_cons_zero, List.set_cons_succ]
      refine wpAnyH_ready (rs := [9]) (by kernel_rfl) (by simp) ?_
      refine AllReadyH.cons (o := { dst := some 101, op := Op.call { callee := Callee.value (Operand.tmp 92), args := #[Operand.tmp 96, Operand.tmp 100], argTypes := #[144, 144] }, type := 3, pos := "zsortanyfunc.go:414", after := #[{ on := 0, ground := Ground.data }, { on := 4, ground := Ground.data }, { on := 8, ground := Ground.data }], guard := none }) rfl (fun K hK => ?_) AllReadyH.nil
      go_simp
      refine (HCMP.out _).mono ?_; rintro e wq9 ⟨rfl, hq9⟩; have HQ9 := Lib.hid hq9; clear hq9
      refine hK.out _ _ ((Lib.hid ((Hid.out hHeld).trans (HQ9.out.mono (Hid.out hHeld).size)))) (fun hHeld => ?_)
      clear hK K
      try simp only [Act.put, List.setIfInBounds_toArray, List.set_cons_zero, List.set_cons_succ]
      refine wpAnyH_take (i := 10) (oi := { dst := some 102, op := Op.binOp BinOp.lss 3 (Operand.tmp 101) (Operand.const (Value.int IntKind.i64 0)) 3, type := 4, pos := "zsortanyfunc.go:414", after := #[{ on := 9, ground := Ground.data }], guard := none }) (v := ?vA10) rfl (by kernel_rfl) (by kernel_rfl) (by kernel_rfl) (fun _ _ _ h => h) (Or.inl ⟨by rfl, ?hyA10⟩) hHeld ?restA10
      case hyA10 => (intro w hSw; go_simp; try with_reducible rfl)
      try simp only [Act.put, List.setIfInBounds_toArray, List.set_cons_zero, List.set_cons_succ]
      refine wpAnyH_take (i := 11) (oi := { dst := some 103, op := Op.unOp UnOp.not 4 (Operand.tmp 102), type := 4, pos := "zsortanyfunc.go:414", after := #[{ on := 10, ground := Ground.data }], guard := none }) (v := ?vA11) rfl (by kernel_rfl) (by kernel_rfl) (by kernel_rfl) (fun _ _ _ h => h) (Or.inl ⟨by rfl, ?hyA11⟩) hHeld ?restA11
      case hyA11 => (intro w hSw; go_simp; try with_reducible rfl)
      try simp only [Act.put, List.setIfInBounds_toArray, List.set_cons_zero, List.set_cons_succ]
      refine wpAnyH_done (by kernel_rfl) ?_ _
      by_cases hz0 : z < 0
      · have HK := Lib.hid (HZ.out.1 hz0)
        rw [show decide (z < 0) = true from by simp [hz0], Bool.not_true]
        go_wp2_with fail
        exact ⟨⟨i, hh, rfl, rfl, hi, by have := HH.out; omega, by have := HH.out; omega, hHeld, HL, Lib.hid (fun q u q1 q2 hq => kl_kle HK.out (HT.out.le (by have := HH.out; omega) q1 q2 hl2.out hq))⟩, by simp [intOf]; have := HH.out; omega⟩
      · have HK := Lib.hid (fun h => hz0 (HZ.out.2 h))
        rw [show decide (z < 0) = false from by simp [hz0], Bool.not_false]
        go_wp2_with fail
        exact ⟨⟨hh + 1, j, by go_num, rfl, by have := HH.out; omega, by have := HH.out; omega, hj, hHeld, Lib.hid (fun q u q1 q2 hq => kle_trans (HT.out.le q1 (by omega) (by have := HH.out; omega) hq hl2.out) HK.out), HR⟩, by simp [intOf]; have := HH.out; omega⟩
    · obtain rfl : i = j := by omega
      go_wp2_with fail
      go_loopw [17] (fun v17 wq => ∃ (k : Nat) (C : List EV), v17 = .int .i64 (k : Int) ∧ i ≤ k ∧ k ≤ m ∧ Hid (ML wq g (some ad) n c C) ∧ Hid (Sb a b L C) ∧ Hid (SrtL a b k C) ∧ Hid (C[k]? = some x) ∧ Hid (∀ q, q < k → C[q]? = L[q]?) ∧ Hid (w.grownBy wq (some g))) (fun v17 _ => (intOf v17).toNat)
      case atStart => exact ⟨m, L, rfl, hj, Nat.le_refl _, Lib.hid (HM.out.after HB.out), Lib.hid (Sb.refl _ _ _), Lib.hid (SrtL.of HT.out (by omega)), HX0, Lib.hid (fun _ _ => rfl), Lib.hid (gb_below HB.out)⟩
      case round =>
        obtain ⟨k, C, rfl, hk1, hk2, HMC, HSC, HTC, HXC, HTL, HGC⟩ := hrel
        by_cases hlt : i < k
        · have hlt' : (i : Int) < (k : Int) := by omega
          obtain ⟨kp, hkp⟩ : ∃ j, k - 1 = j := ⟨_, rfl⟩
          have e3 : (k : Int) - 1 = (kp : Int) := by omega
          have w3 : IntKind.i64.wrap (kp : Int) = (kp : Int) := by unfold IntKind.wrap; simp [IntKind.bits, IntKind.signed]; omega
          have l1 : (k : Int) < (n : Int) := by omega
          have l2 : (kp : Int) < (n : Int) := by omega
          have hb2 : kp + 1 = k ∧ a ≤ kp ∧ i ≤ kp ∧ k < n := by omega
          have HKP := Lib.hid hb2.1
          have HK2 := Lib.hid hb2.2
          clear hkp hb2
          obtain ⟨p, p2, x', y, RX, RY, z, hp, hp2, Hp, Hp2, hl, hl2, HATX, HATY, HSX, HSY, HCMP, HZ, HRX, HRY⟩ := HMC.out.two (i := k) (j := kp) (by have := HK2.out; omega) (by have := HK2.out; have := HKP.out; omega)
          have hxx : x' = x := by have := hl.out; rw [HXC.out] at this; injection this with this; exact this.symm
          subst hxx
          have HKL : Hid (kl x' y) := Lib.hid (HR.out kp y (by have := HK2.out; omega) (by have := HKP.out; have := HK2.out; omega) (by rw [← HTL.out kp (by have := HKP.out; omega)]; exact hl2.out))
          go_wp2_with fail
          have HB6 : Hid (Below wr.heap.size wr wr.drew) := Lib.hid (Below.refl _ _).drew
          have HM6 := Lib.hid (HMC.out.after HB6.out)
          refine wp_region_held_drew (S := fun _ => True) (by kernel_rfl) trivial (fun hHeld => ?_)
          refine wpAnyH_take (i := 0) (oi := { dst := some 113, op := Op.move (Operand.tmp 0), type := 96, pos := "zsortanyfunc.go:422", after := #[], guard := none }) (v := ?vB0) rfl (by kernel_rfl) (by kernel_rfl) (by kernel_rfl) (fun _ _ _ h => h) (Or.inl ⟨by rfl, ?hyB0⟩) hHeld ?restB0
          case hyB0 => (intro w hSw; go_simp; try with_reducible rfl)
          try simp only [Act.put, List.setIfInBounds_toArray, List.set_cons_zero, List.set_cons_succ]
          refine wpAnyH_take (i := 1) (oi := { dst := some 114, op := Op.move (Operand.tmp 17), type := 3, pos := "zsortanyfunc.go:422", after := #[], guard := none }) (v := ?vB1) rfl (by kernel_rfl) (by kernel_rfl) (by kernel_rfl) (fun _ _ _ h => h) (Or.inl ⟨by rfl, ?hyB1⟩) hHeld ?restB1
          case hyB1 => (intro w hSw; go_simp; try with_reducible rfl)
          try simp only [Act.put, List.setIfInBounds_toArray, List.set_cons_zero, List.set_cons_succ]
          refine wpAnyH_take (i := 2) (oi := { dst := some 115, op := Op.move (Operand.tmp 0), type := 96, pos := "zsortanyfunc.go:422", after := #[{ on := 15, ground := Ground.gcOnly Departure.lateStores }], guard := none }) (v := ?vB2) rfl (by kernel_rfl) (by kernel_rfl) (by kernel_rfl) (fun _ _ _ h => h) (Or.inl ⟨by rfl, ?hyB2⟩) hHeld ?restB2
          case hyB2 => (intro w hSw; go_simp; try with_reducible rfl)
          try simp only [Act.put, List.setIfInBounds_toArray, List.set_cons_zero, List.set_cons_succ]
          refine wpAnyH_take (i := 3) (oi := { dst := some 116, op := Op.move (Operand.tmp 17), type := 3, pos := "zsortanyfunc.go:422", after := #[{ on := 15, ground := Ground.gcOnly Departure.lateStores }], guard := none }) (v := ?vB3) rfl (by kernel_rfl) (by kernel_rfl) (by kernel_rfl) (fun _ _ _ h => h) (Or.inl ⟨by rfl, ?hyB3⟩) hHeld ?restB3
          case hyB3 => (intro w hSw; go_simp; try with_reducible rfl)
          try simp only [Act.put, List.setIfInBounds_toArray, List.set_cons_zero, List.set_cons_succ]
          refine wpAnyH_take (i := 4) (oi := { dst := some 117, op := Op.binOp BinOp.sub 3 (Operand.tmp 116) (Operand.const (Value.int IntKind.i64 1)) 3, type := 3, pos := "zsortanyfunc.go:422", after := #[{ on := 3, ground := Ground.data }, { on := 15, ground := Ground.gcOnly Departure.lateStores }], guard := none }) (v := ?vB4) rfl (by kernel_rfl) (by kernel_rfl) (by kernel_rfl) (fun _ _ _ h => h) (Or.inl ⟨by rfl, ?hyB4⟩) hHeld ?restB4
          case hyB4 => (intro w hSw; go_simp; try with_reducible rfl)
          try simp only [Act.put, List.setIfInBounds_toArray, List.set_cons_zero, List.set_cons_succ]
          refine wpAnyH_take (i := 5) (oi := { dst := some 118, op := Op.move (Operand.tmp 0), type := 96, pos := "zsortanyfunc.go:422", after := #[], guard := none }) (v := ?vB5) rfl (by kernel_rfl) (by kernel_rfl) (by kernel_rfl) (fun _ _ _ h => h) (Or.inl ⟨by rfl, ?hyB5⟩) hHeld ?restB5
          case hyB5 => (intro w hSw; go_simp; try with_reducible rfl)
          try simp only [Act.put, List.setIfInBounds_toArray, List.set_cons_zero, List.set_cons_succ]
          refine wpAnyH_take (i := 6) (oi := { dst := some 119, op := Op.move (Operand.tmp 17), type := 3, pos := "zsortanyfunc.go:422", after := #[], guard := none }) (v := ?vB6) rfl (by kernel_rfl) (by kernel_rfl) (by kernel_rfl) (fun _ _ _ h => h) (Or.inl ⟨by rfl, ?hyB6⟩) hHeld ?restB6
          case hyB6 => (intro w hSw; go_simp; try with_reducible rfl)
          try simp only [Act.put, List.setIfInBounds_toArray, List.set_cons_zero, List.set_cons_succ]
          refine wpAnyH_take (i := 7) (oi := { dst := some 120, op := Op.binOp BinOp.sub 3 (Operand.tmp 119) (Operand.const (Value.int IntKind.i64 1)) 3, type := 3, pos := "zsortanyfunc.go:422", after := #[{ on := 6, ground := Ground.data }], guard := none }) (v := ?vB7) rfl (by kernel_rfl) (by kernel_rfl) (by kernel_rfl) (fun _ _ _ h => h) (Or.inl ⟨by rfl, ?hyB7⟩) hHeld ?restB7
          case hyB7 => (intro w hSw; go_simp; try with_reducible rfl)
          try simp only [Act.put, List.setIfInBounds_toArray, List.set_cons_zero, List.set_cons_succ]
          refine wpAnyH_take (i := 8) (oi := { dst := some 121, op := Op.indexAddr 96 (Operand.tmp 118) (Operand.tmp 120), type := 0, pos := "zsortanyfunc.go:422", after := #[{ on := 5, ground := Ground.data }, { on := 7, ground := Ground.data }], guard := none }) (v := ?vB8) rfl (by kernel_rfl) (by kernel_rfl) (by kernel_rfl) (fun _ _ _ h => h) (Or.inl ⟨by rfl, ?hyB8⟩) hHeld ?restB8
          case hyB8 => (intro w hSw; go_simp; try with_reducible rfl)
          try simp only [Act.put, List.setIfInBounds_toArray, List.set_cons_zero, List.set_cons_succ]
          refine wpAnyH_take (i := 10) (oi := { dst := some 123, op := Op.move (Operand.tmp 0), type := 96, pos := "zsortanyfunc.go:422", after := #[], guard := none }) (v := ?vB10) rfl (by kernel_rfl) (by kernel_rfl) (by kernel_rfl) (fun _ _ _ h => h) (Or.inl ⟨by rfl, ?hyB10⟩) hHeld ?restB10
          case hyB10 => (intro w hSw; go_simp; try with_reducible rfl)
          try simp only [Act.put, List.setIfInBounds_toArray, List.set_cons_zero, List.set_cons_succ]
          refine wpAnyH_take (i := 11) (oi := { dst := some 124, op := Op.move (Operand.tmp 17), type := 3, pos := "zsortanyfunc.go:422", after := #[], guard := none }) (v := ?vB11) rfl (by kernel_rfl) (by kernel_rfl) (by kernel_rfl) (fun _ _ _ h => h) (Or.inl ⟨by rfl, ?hyB11⟩) hHeld ?restB11
          case hyB11 => (intro w hSw; go_simp; try with_reducible rfl)
          try simp only [Act.put, List.setIfInBounds_toArray, List.set_cons_zero, List.set_cons_succ]
          refine wpAnyH_take (i := 12) (oi := { dst := some 125, op := Op.indexAddr 96 (Operand.tmp 123) (Operand.tmp 124), type := 0, pos := "zsortanyfunc.go:422", after := #[{ on := 10, ground := Ground.data }, { on := 11, ground := Ground.data }], guard := none }) (v := ?vB12) rfl (by kernel_rfl) (by kernel_rfl) (by kernel_rfl) (fun _ _ _ h => h) (Or.inl ⟨by rfl, ?hyB12⟩) hHeld ?restB12
          case hyB12 => (intro w hSw; go_simp; try with_reducible rfl)
          try simp only [Act.put, List.setIfInBounds_toArray, List.set_cons_zero, List.set_cons_succ]
          refine wpAnyH_ready (rs := [9, 13]) (by kernel_rfl) (by simp) ?_
          refine AllReadyH.cons (o := { dst := some 122, op := Op.load 144 (Operand.tmp 121), type := 144, pos := "zsortanyfunc.go:422", after := #[{ on := 8, ground := Ground.data }], guard := none }) rfl (fun K hK => ?_) (AllReadyH.cons (o := { dst := some 126, op := Op.load 144 (Operand.tmp 125), type := 144, pos := "zsortanyfunc.go:422", after := #[{ on := 12, ground := Ground.data }], guard := none }) rfl (fun K hK => ?_) AllReadyH.nil)
          · refine step_ldA (cs := RY) rfl 144 (.tmp 121) rfl (by rw [HSY.out]; exact wide144) rfl (HATY.out _ HB6.out) ?_
            refine hK.out _ _ (trivial) (fun hHeld => ?_)
            clear hK K
            try simp only [Act.put, List.setIfInBounds_toArray, List.set_cons_zero, List.set_cons_succ]
            refine wpAnyH_ready (rs := [13]) (by kernel_rfl) (by simp) ?_
            refine AllReadyH.cons (o := { dst := some 126, op := Op.load 144 (Operand.tmp 125), type := 144, pos := "zsortanyfunc.go:422", after := #[{ on := 12, ground := Ground.data }], guard := none }) rfl (fun K hK => ?_) AllReadyH.nil
            refine step_ldA (cs := RX) rfl 144 (.tmp 125) rfl (by rw [HSX.out]; exact wide144) rfl (HATX.out _ HB6.out) ?_
            refine hK.out _ _ (trivial) (fun hHeld => ?_)
            clear hK K
            try simp only [Act.put, List.setIfInBounds_toArray, List.set_cons_zero, List.set_cons_succ]
            refine wpAnyH_take (i := 14) (oi := { dst := some 127, op := Op.indexAddr 96 (Operand.tmp 113) (Operand.tmp 114), type := 0, pos := "zsortanyfunc.go:422", after := #[{ on := 0, ground := Ground.data }, { on := 1, ground := Ground.data }, { on := 0, ground := Ground.phase }, { on := 1, ground := Ground.phase }, { on := 2, ground := Ground.textOnly Departure.lateStores }, { on := 3, ground := Ground.textOnly Departure.lateStores }, { on := 4, ground := Ground.textOnly Departure.lateStores }, { on := 5, ground := Ground.phase }, { on := 6, ground := Ground.phase }, { on := 7, ground := Ground.phase }, { on := 8, ground := Ground.phase }, { on := 9, ground := Ground.phase }, { on := 10, ground := Ground.textOnly Departure.lateStores }, { on := 11, ground := Ground.textOnly Departure.lateStores }, { on := 12, ground := Ground.textOnly Departure.lateStoresUnsure }, { on := 13, ground := Ground.phase }], guard := none }) (v := ?vBa14) rfl (by kernel_rfl) (by kernel_rfl) (by kernel_rfl) (fun _ _ _ h => h) (Or.inl ⟨by rfl, ?hyBa14⟩) hHeld ?restBa14
            case hyBa14 => (intro w hSw; go_simp; try with_reducible rfl)
            try simp only [Act.put, List.setIfInBounds_toArray, List.set_cons_zero, List.set_cons_succ]
            refine wpAnyH_ready (rs := [15]) (by kernel_rfl) (by simp) ?_
            refine AllReadyH.cons (o := { dst := none, op := Op.store 144 (Operand.tmp 127) (Operand.tmp 122), type := 0, pos := "zsortanyfunc.go:422", after := #[{ on := 14, ground := Ground.data }, { on := 9, ground := Ground.data }, { on := 0, ground := Ground.phase }, { on := 1, ground := Ground.phase }, { on := 2, ground := Ground.textOnly Departure.lateStores }, { on := 3, ground := Ground.textOnly Departure.lateStores }, { on := 4, ground := Ground.textOnly Departure.lateStores }, { on := 5, ground := Ground.phase }, { on := 6, ground := Ground.phase }, { on := 7, ground := Ground.phase }, { on := 8, ground := Ground.phase }, { on := 9, ground := Ground.phase }, { on := 10, ground := Ground.textOnly Departure.lateStores }, { on := 11, ground := Ground.textOnly Departure.lateStores }, { on := 12, ground := Ground.textOnly Departure.lateStoresUnsure }, { on := 13, ground := Ground.phase }], guard := none }) rfl (fun K hK => ?_) AllReadyH.nil
            refine step_stM (i := k) rfl (.tmp 127) (.tmp 122) rfl rfl Hp.out rfl HRY.out.1 HRY.out.2 HM6.out (by have := HK2.out; omega) ?_; intro w7 hm7 hg7; have HM7 := Lib.hid hm7; have HG7 := Lib.hid hg7; clear hm7 hg7
            refine hK.out _ _ (trivial) (fun hHeld => ?_)
            clear hK K
            try simp only [Act.put]
            refine wpAnyH_take (i := 16) (oi := { dst := some 128, op := Op.indexAddr 96 (Operand.tmp 115) (Operand.tmp 117), type := 0, pos := "zsortanyfunc.go:422", after := #[{ on := 2, ground := Ground.data }, { on := 4, ground := Ground.data }, { on := 0, ground := Ground.phase }, { on := 1, ground := Ground.phase }, { on := 2, ground := Ground.phase }, { on := 3, ground := Ground.phase }, { on := 4, ground := Ground.phase }, { on := 5, ground := Ground.phase }, { on := 6, ground := Ground.phase }, { on := 7, ground := Ground.phase }, { on := 8, ground := Ground.phase }, { on := 9, ground := Ground.phase }, { on := 10, ground := Ground.phase }, { on := 11, ground := Ground.phase }, { on := 12, ground := Ground.phase }, { on := 13, ground := Ground.phase }, { on := 14, ground := Ground.phase }, { on := 15, ground := Ground.phase }], guard := none }) (v := ?vBa16) rfl (by kernel_rfl) (by kernel_rfl) (by kernel_rfl) (fun _ _ _ h => h) (Or.inl ⟨by rfl, ?hyBa16⟩) hHeld ?restBa16
            case hyBa16 => (intro w hSw; go_simp; try with_reducible rfl)
            try simp only [Act.put, List.setIfInBounds_toArray, List.set_cons_zero, List.set_cons_succ]
            refine wpAnyH_ready (rs := [17]) (by kernel_rfl) (by simp) ?_
            refine AllReadyH.cons (o := { dst := none, op := Op.store 144 (Operand.tmp 128) (Operand.tmp 126), type := 0, pos := "zsortanyfunc.go:422", after := #[{ on := 16, ground := Ground.data }, { on := 13, ground := Ground.data }, { on := 15, ground := Ground.chain }, { on := 0, ground := Ground.phase }, { on := 1, ground := Ground.phase }, { on := 2, ground := Ground.phase }, { on := 3, ground := Ground.phase }, { on := 4, ground := Ground.phase }, { on := 5, ground := Ground.phase }, { on := 6, ground := Ground.phase }, { on := 7, ground := Ground.phase }, { on := 8, ground := Ground.phase }, { on := 9, ground := Ground.phase }, { on := 10, ground := Ground.phase }, { on := 11, ground := Ground.phase }, { on := 12, ground := Ground.phase }, { on := 13, ground := Ground.phase }, { on := 14, ground := Ground.phase }, { on := 15, ground := Ground.phase }], guard := none }) rfl (fun K hK => ?_) AllReadyH.nil
            refine step_stM (i := kp) rfl (.tmp 128) (.tmp 126) rfl rfl Hp2.out rfl HRX.out.1 HRX.out.2 HM7.out (by have := HKP.out; have := HK2.out; omega) ?_; intro w8 hm8 hg8; have HM8 := Lib.hid hm8; have HG8 := Lib.hid hg8; clear hm8 hg8
            refine hK.out _ _ (trivial) (fun hHeld => ?_)
            clear hK K
            try simp only [Act.put]
            refine wpAnyH_done (by kernel_rfl) ?_ _
            go_wp2_with fail
            have hsw := fun q => get_swap (j := q) hl2.out (HKP.out.symm ▸ hl.out)
            rw [HKP.out] at hsw
            have e8 : (C.set k y).set kp x' = (C.set kp x').set k y := List.set_comm _ _ (by have := HKP.out; omega)
            have HM9 := Lib.hid HM8.out
            rw [e8] at HM9
            exact ⟨⟨kp, _, by go_num, by have := HK2.out; omega, by have := HKP.out; omega, HM9, Lib.hid (HSC.out.trans (HKP.out ▸ Sb.swap hl2.out (HKP.out.symm ▸ hl.out) (fun e => kl_ne HKL.out e.symm) (by have := HK2.out; omega) (by have := HKP.out; omega))), Lib.hid (HKP.out ▸ SrtL.swap (HKP.out.symm ▸ HTC.out) hl2.out (HKP.out.symm ▸ hl.out) HKL.out (by have := HK2.out; omega) (by have := HKP.out; omega)), Lib.hid (by rw [hsw, if_pos rfl]), Lib.hid (fun q hq => by rw [hsw, if_neg (by omega), if_neg (by have := HKP.out; omega)]; exact HTL.out q (by have := HKP.out; omega)), Lib.hid (gb_trans HGC.out (gb_trans (gb_below HB6.out) (gb_trans HG7.out HG8.out)))⟩, by simp [intOf]; have := HKP.out; omega⟩
          · refine step_ldA (cs := RX) rfl 144 (.tmp 125) rfl (by rw [HSX.out]; exact wide144) rfl (HATX.out _ HB6.out) ?_
            refine hK.out _ _ (trivial) (fun hHeld => ?_)
            clear hK K
            try simp only [Act.put, List.setIfInBounds_toArray, List.set_cons_zero, List.set_cons_succ]
            refine wpAnyH_ready (rs := [9]) (by kernel_rfl) (by simp) ?_
            refine AllReadyH.cons (o := { dst := some 122, op := Op.load 144 (Operand.tmp 121), type := 144, pos := "zsortanyfunc.go:422", after := #[{ on := 8, ground := Ground.data }], guard := none }) rfl (fun K hK => ?_) AllReadyH.nil
            refine step_ldA (cs := RY) rfl 144 (.tmp 121) rfl (by rw [HSY.out]; exact wide144) rfl (HATY.out _ HB6.out) ?_
            refine hK.out _ _ (trivial) (fun hHeld => ?_)
            clear hK K
            try simp only [Act.put, List.setIfInBounds_toArray, List.set_cons_zero, List.set_cons_succ]
            refine wpAnyH_take (i := 14) (oi := { dst := some 127, op := Op.indexAddr 96 (Operand.tmp 113) (Operand.tmp 114), type := 0, pos := "zsortanyfunc.go:422", after := #[{ on := 0, ground := Ground.data }, { on := 1, ground := Ground.data }, { on := 0, ground := Ground.phase }, { on := 1, ground := Ground.phase }, { on := 2, ground := Ground.textOnly Departure.lateStores }, { on := 3, ground := Ground.textOnly Departure.lateStores }, { on := 4, ground := Ground.textOnly Departure.lateStores }, { on := 5, ground := Ground.phase }, { on := 6, ground := Ground.phase }, { on := 7, ground := Ground.phase }, { on := 8, ground := Ground.phase }, { on := 9, ground := Ground.phase }, { on := 10, ground := Ground.textOnly Departure.lateStores }, { on := 11, ground := Ground.textOnly Departure.lateStores }, { on := 12, ground := Ground.textOnly Departure.lateStoresUnsure }, { on := 13, ground := Ground.phase }], guard := none }) (v := ?vBb14) rfl (by kernel_rfl) (by kernel_rfl) (by kernel_rfl) (fun _ _ _ h => h) (Or.inl ⟨by rfl, ?hyBb14⟩) hHeld ?restBb14
            case hyBb14 => (intro w hSw; go_simp; try with_reducible rfl)
            try simp only [Act.put, List.setIfInBounds_toArray, List.set_cons_zero, List.set_cons_succ]
            refine wpAnyH_ready (rs := [15]) (by kernel_rfl) (by simp) ?_
            refine AllReadyH.cons (o := { dst := none, op := Op.store 144 (Operand.tmp 127) (Operand.tmp 122), type := 0, pos := "zsortanyfunc.go:422", after := #[{ on := 14, ground := Ground.data }, { on := 9, ground := Ground.data }, { on := 0, ground := Ground.phase }, { on := 1, ground := Ground.phase }, { on := 2, ground := Ground.textOnly Departure.lateStores }, { on := 3, ground := Ground.textOnly Departure.lateStores }, { on := 4, ground := Ground.textOnly Departure.lateStores }, { on := 5, ground := Ground.phase }, { on := 6, ground := Ground.phase }, { on := 7, ground := Ground.phase }, { on := 8, ground := Ground.phase }, { on := 9, ground := Ground.phase }, { on := 10, ground := Ground.textOnly Departure.lateStores }, { on := 11, ground := Ground.textOnly Departure.lateStores }, { on := 12, ground := Ground.textOnly Departure.lateStoresUnsure }, { on := 13, ground := Ground.phase }], guard := none }) rfl (fun K hK => ?_) AllReadyH.nil
            refine step_stM (i := k) rfl (.tmp 127) (.tmp 122) rfl rfl Hp.out rfl HRY.out.1 HRY.out.2 HM6.out (by have := HK2.out; omega) ?_; intro w7 hm7 hg7; have HM7 := Lib.hid hm7; have HG7 := Lib.hid hg7; clear hm7 hg7
            refine hK.out _ _ (trivial) (fun hHeld => ?_)
            clear hK K
            try simp only [Act.put]
            refine wpAnyH_take (i := 16) (oi := { dst := some 128, op := Op.indexAddr 96 (Operand.tmp 115) (Operand.tmp 117), type := 0, pos := "zsortanyfunc.go:422", after := #[{ on := 2, ground := Ground.data }, { on := 4, ground := Ground.data }, { on := 0, ground := Ground.phase }, { on := 1, ground := Ground.phase }, { on := 2, ground := Ground.phase }, { on := 3, ground := Ground.phase }, { on := 4, ground := Ground.phase }, { on := 5, ground := Ground.phase }, { on := 6, ground := Ground.phase }, { on := 7, ground := Ground.phase }, { on := 8, ground := Ground.phase }, { on := 9, ground := Ground.phase }, { on := 10, ground := Ground.phase }, { on := 11, ground := Ground.phase }, { on := 12, ground := Ground.phase }, { on := 13, ground := Ground.phase }, { on := 14, ground := Ground.phase }, { on := 15, ground := Ground.phase }], guard := none }) (v := ?vBb16) rfl (by kernel_rfl) (by kernel_rfl) (by kernel_rfl) (fun _ _ _ h => h) (Or.inl ⟨by rfl, ?hyBb16⟩) hHeld ?restBb16
            case hyBb16 => (intro w hSw; go_simp; try with_reducible rfl)
            try simp only [Act.put, List.setIfInBounds_toArray, List.set_cons_zero, List.set_cons_succ]
            refine wpAnyH_ready (rs := [17]) (by kernel_rfl) (by simp) ?_
            refine AllReadyH.cons (o := { dst := none, op := Op.store 144 (Operand.tmp 128) (Operand.tmp 126), type := 0, pos := "zsortanyfunc.go:422", after := #[{ on := 16, ground := Ground.data }, { on := 13, ground := Ground.data }, { on := 15, ground := Ground.chain }, { on := 0, ground := Ground.phase }, { on := 1, ground := Ground.phase }, { on := 2, ground := Ground.phase }, { on := 3, ground := Ground.phase }, { on := 4, ground := Ground.phase }, { on := 5, ground := Ground.phase }, { on := 6, ground := Ground.phase }, { on := 7, ground := Ground.phase }, { on := 8, ground := Ground.phase }, { on := 9, ground := Ground.phase }, { on := 10, ground := Ground.phase }, { on := 11, ground := Ground.phase }, { on := 12, ground := Ground.phase }, { on := 13, ground := Ground.phase }, { on := 14, ground := Ground.phase }, { on := 15, ground := Ground.phase }], guard := none }) rfl (fun K hK => ?_) AllReadyH.nil
            refine step_stM (i := kp) rfl (.tmp 128) (.tmp 126) rfl rfl Hp2.out rfl HRX.out.1 HRX.out.2 HM7.out (by have := HKP.out; have := HK2.out; omega) ?_; intro w8 hm8 hg8; have HM8 := Lib.hid hm8; have HG8 := Lib.hid hg8; clear hm8 hg8
            refine hK.out _ _ (trivial) (fun hHeld => ?_)
            clear hK K
            try simp only [Act.put]
            refine wpAnyH_done (by kernel_rfl) ?_ _
            go_wp2_with fail
            have hsw := fun q => get_swap (j := q) hl2.out (HKP.out.symm ▸ hl.out)
            rw [HKP.out] at hsw
            have e8 : (C.set k y).set kp x' = (C.set kp x').set k y := List.set_comm _ _ (by have := HKP.out; omega)
            have HM9 := Lib.hid HM8.out
            rw [e8] at HM9
            exact ⟨⟨kp, _, by go_num, by have := HK2.out; omega, by have := HKP.out; omega, HM9, Lib.hid (HSC.out.trans (HKP.out ▸ Sb.swap hl2.out (HKP.out.symm ▸ hl.out) (fun e => kl_ne HKL.out e.symm) (by have := HK2.out; omega) (by have := HKP.out; omega))), Lib.hid (HKP.out ▸ SrtL.swap (HKP.out.symm ▸ HTC.out) hl2.out (HKP.out.symm ▸ hl.out) HKL.out (by have := HK2.out; omega) (by have := HKP.out; omega)), Lib.hid (by rw [hsw, if_pos rfl]), Lib.hid (fun q hq => by rw [hsw, if_neg (by omega), if_neg (by have := HKP.out; omega)]; exact HTL.out q (by have := HKP.out; omega)), Lib.hid (gb_trans HGC.out (gb_trans (gb_below HB6.out) (gb_trans HG7.out HG8.out)))⟩, by simp [intOf]; have := HKP.out; omega⟩
        · obtain rfl : i = k := by omega
          go_wp2_with fail
          go_end0
          exact ⟨rfl, C, HMC.out, HSC.out, HTC.out.done' HXC.out (fun q y q1 q2 hq => HL.out q y q1 q2 (by rw [← HTL.out q q2]; exact hq)), HGC.out⟩
end Go.Proofs.Ytaebmhbggbpnoaa
