/- The walk of symMergeCmpFunc (slices), where the first part is one element. Conditions: each theorem's premises. -/
import Derived.Test.YtaebmhbggbpnoaaGNs6
namespace Go.Proofs.Ytaebmhbggbpnoaa
open Go.RowKit
/-- Two entries of a slice, what lies in memory of them, and how their names stand. -/
theorem ML.two {w : World} {g n c : Nat} {ad : Addr} {L : List EV} (h : ML w g (some ad) n c L) {i j : Nat} (hi : i < n) (hj : j < n) :
    ∃ p p2 x y RX RY z, ad.add (i * 34) = p ∧ ad.add (j * 34) = p2 ∧ Hid (p = ⟨g, i * 34, none⟩) ∧ Hid (p2 = ⟨g, j * 34, none⟩) ∧ Hid (L[i]? = some x) ∧ Hid (L[j]? = some y) ∧
      Hid (∀ w', Below w.heap.size w w' → At w' p RX) ∧ Hid (∀ w', Below w.heap.size w w' → At w' p2 RY) ∧ Hid (RX.size = 34) ∧ Hid (RY.size = 34) ∧
      Hid (∀ W, Calls Try.prog 116 #[.agg RX, .agg RY] W fun e w' => e = .returned (.int .i64 z) ∧ Below W.heap.size W w') ∧ Hid (z < 0 ↔ kl x y) ∧ Hid (RX = EC x ∧ x.ok) ∧ Hid (RY = EC y ∧ y.ok) := by
  obtain ⟨a1, p, x, hA, hp, Hp, hl, hat, -, hxo⟩ := h.at_ hi
  obtain ⟨a2, p2, y, hA2, hp2, Hp2, hl2, hat2, -, hyo⟩ := h.at_ hj
  injection hA with hA
  subst hA
  injection hA2 with hA2
  subst hA2
  exact ⟨p, p2, x, y, EC x, EC y, cmpS x.name y.name, hp, hp2, Hp, Hp2, hl, hl2, Lib.hid fun w' hb => hat.out.after hb (hat.out.lt (by rw [EC_size hxo]; omega)), Lib.hid fun w' hb => hat2.out.after hb (hat2.out.lt (by rw [EC_size hyo]; omega)), Lib.hid (EC_size hxo), Lib.hid (EC_size hyo), Lib.hid fun W => nd_compare W x y, Lib.hid (kl_cmp x y), Lib.hid ⟨rfl, hxo⟩, Lib.hid ⟨rfl, hyo⟩⟩
def MergePost (w : World) (g : Nat) (A : Option Addr) (n c : Nat) (L : List EV) (a b : Nat) (e : Ending) (w' : World) : Prop := e = .returned (.tuple #[]) ∧ ∃ L', ML w' g A n c L' ∧ Sb a b L L' ∧ Srt a b L' ∧ w.grownBy w' (some g)
set_option maxRecDepth 100000 in
set_option maxHeartbeats 4000000 in
theorem sm_left (w : World) (g : Nat) (A : Option Addr) (n c : Nat) (L : List EV) (a m b : Nat) (h : ML w g A n c L) (h1 : a + 1 = m) (h2 : m < b) (h3 : b ≤ n) (hn : n ≤ 1000000) (ht : Srt m b L) :
    Calls Try.prog 142 #[.slice A n c, .int .i64 (a : Int), .int .i64 (m : Int), .int .i64 (b : Int), cmpV] w (MergePost w g A n c L a b) := by
  obtain ⟨ad, hA0⟩ : ∃ ad, A = some ad := by
    obtain ⟨ad, p, x, hA, -⟩ := h.at_ (i := a) (by omega)
    exact ⟨ad, hA⟩
  subst hA0
  have HM := Lib.hid h
  have HT := Lib.hid ht
  have HX : Hid (∃ x, L[a]? = some x) := Lib.hid (by
    obtain ⟨ad, p, x, hA, -, -, hl, -⟩ := h.at_ (i := a) (by omega)
    exact ⟨x, hl.out⟩)
  clear h ht
  have e1 : (m : Int) - (a : Int) = 1 := by omega
  obtain ⟨x, hx⟩ := HX.out
  have HX0 := Lib.hid hx
  clear hx HX
  have la : (a : Int) < (n : Int) := by omega
  go_enter Try.func142, Try.ntmps142
  go_wp2_with fail
  go_loopw [10, 11] (fun v10 v11 wr => ∃ (i j : Nat), v10 = .int .i64 (i : Int) ∧ v11 = .int .i64 (j : Int) ∧ m ≤ i ∧ i ≤ j ∧ j ≤ b ∧ Hid (Below w.heap.size w wr) ∧ Hid (∀ q y, m ≤ q → q < i → L[q]? = some y → kl y x) ∧ Hid (∀ q y, j ≤ q → q < b → L[q]? = some y → ¬ kl y x)) (fun v10 v11 _ => (intOf v11).toNat - (intOf v10).toNat)
  case atStart => exact ⟨m, b, rfl, rfl, Nat.le_refl _, by omega, Nat.le_refl _, Lib.hid (Below.refl _ _), Lib.hid (fun q y q1 q2 => by omega), Lib.hid (fun q y q1 q2 => by omega)⟩
  case round =>
    obtain ⟨i, j, rfl, rfl, hi, hij, hj, HB, HL, HR⟩ := hrel
    by_cases hlt : i < j
    · have hlt' : (i : Int) < (j : Int) := by omega
      obtain ⟨hh, hhe⟩ : ∃ k, (i + j) / 2 = k := ⟨_, rfl⟩
      have eh : ((i : Int) + (j : Int)) / 2 = (hh : Int) := by omega
      have hb1 : i ≤ hh ∧ hh < j := by omega
      have HH := Lib.hid hb1
      have lh : (hh : Int) < (n : Int) := by omega
      have lhn : hh < n := by omega
      clear hhe hb1
      obtain ⟨p, p2, y, x', RY, RX, z, hp, hp2, -, -, hl, hl2, HATY, HATX, HSY, HSX, HCMP, HZ, -, -⟩ := HM.out.two (i := hh) (j := a) lhn (by omega)
      have hxx : x' = x := by have := hl2.out; rw [HX0.out] at this; injection this with this; exact this.symm
      subst hxx
      clear lhn
      go_wp2_with fail
      refine wp_region_held_drew (S := fun w' => Hid (Below w.heap.size w w')) (by kernel_rfl) (Lib.hid HB.out.drew) (fun hHeld => ?_)
      refine wpAnyH_take (i := 0) (oi := { dst := some 40, op := Op.move (Operand.tmp 4), type := 204, pos := "zsortanyfunc.go:390", after := #[], guard := none }) (v := ?vA0) rfl (by kernel_rfl) (by kernel_rfl) (by kernel_rfl) (fun _ _ _ h => h) (Or.inl ⟨by rfl, ?hyA0⟩) hHeld ?restA0
      case hyA0 => (intro w hSw; go_simp; try with_reducible rfl)
      try simp only [Act.put, List.setIfInBounds_toArray, List.set_cons_zero, List.set_cons_succ]
      refine wpAnyH_take (i := 1) (oi := { dst := some 41, op := Op.move (Operand.tmp 0), type := 96, pos := "zsortanyfunc.go:390", after := #[], guard := none }) (v := ?vA1) rfl (by kernel_rfl) (by kernel_rfl) (by kernel_rfl) (fun _ _ _ h => h) (Or.inl ⟨by rfl, ?hyA1⟩) hHeld ?restA1
      case hyA1 => (intro w hSw; go_simp; try with_reducible rfl)
      try simp only [Act.put, List.setIfInBounds_toArray, List.set_cons_zero, List.set_cons_succ]
      refine wpAnyH_take (i := 2) (oi := { dst := some 42, op := Op.move (Operand.tmp 12), type := 3, pos := "zsortanyfunc.go:390", after := #[], guard := none }) (v := ?vA2) rfl (by kernel_rfl) (by kernel_rfl) (by kernel_rfl) (fun _ _ _ h => h) (Or.inl ⟨by rfl, ?hyA2⟩) hHeld ?restA2
      case hyA2 => (intro w hSw; go_simp; try with_reducible rfl)
      try simp only [Act.put, List.setIfInBounds_toArray, List.set_cons_zero, List.set_cons_succ]
      refine wpAnyH_take (i := 3) (oi := { dst := some 43, op := Op.indexAddr 96 (Operand.tmp 41) (Operand.tmp 42), type := 0, pos := "zsortanyfunc.go:390", after := #[{ on := 1, ground := Ground.data }, { on := 2, ground := Ground.data }], guard := none }) (v := ?vA3) rfl (by kernel_rfl) (by kernel_rfl) (by kernel_rfl) (fun _ _ _ h => h) (Or.inl ⟨by rfl, ?hyA3⟩) hHeld ?restA3
      case hyA3 => (intro w hSw; go_simp; try with_reducible rfl)
      try simp only [Act.put, List.setIfInBounds_toArray, List.set_cons_zero, List.set_cons_succ]
      refine wpAnyH_take (i := 4) (oi := { dst := some 44, op := Op.load 144 (Operand.tmp 43), type := 144, pos := "zsortanyfunc.go:390", after := #[{ on := 3, ground := Ground.data }], guard := none }) (v := _) rfl (by kernel_rfl) (by kernel_rfl) (by kernel_rfl) (fun _ _ _ h => h) (yields_A rfl (by rfl) rfl (by rw [HSY.out]; exact wide144) (fun w' hs => HATY.out w' (Hid.out hs))) hHeld ?_
      try simp only [Act.put, List.setIfInBounds_toArray, List.set_cons_zero, List.set_cons_succ]
      refine wpAnyH_take (i := 5) (oi := { dst := some 45, op := Op.move (Operand.tmp 0), type := 96, pos := "zsortanyfunc.go:390", after := #[], guard := none }) (v := ?vA5) rfl (by kernel_rfl) (by kernel_rfl) (by kernel_rfl) (fun _ _ _ h => h) (Or.inl ⟨by rfl, ?hyA5⟩) hHeld ?restA5
      case hyA5 => (intro w hSw; go_simp; try with_reducible rfl)
      try simp only [Act.put, List.setIfInBounds_toArray, List.set_cons_zero, List.set_cons_succ]
      refine wpAnyH_take (i := 6) (oi := { dst := some 46, op := Op.move (Operand.tmp 1), type := 3, pos := "zsortanyfunc.go:390", after := #[], guard := none }) (v := ?vA6) rfl (by kernel_rfl) (by kernel_rfl) (by kernel_rfl) (fun _ _ _ h => h) (Or.inl ⟨by rfl, ?hyA6⟩) hHeld ?restA6
      case hyA6 => (intro w hSw; go_simp; try with_reducible rfl)
      try simp only [Act.put, List.setIfInBounds_toArray, List.set_cons_zero, List.set_cons_succ]
      refine wpAnyH_take (i := 7) (oi := { dst := some 47, op := Op.indexAddr 96 (Operand.tmp 45) (Operand.tmp 46), type := 0, pos := "zsortanyfunc.go:390", after := #[{ on := 5, ground := Ground.data }, { on := 6, ground := Ground.data }], guard := none }) (v := ?vA7) rfl (by kernel_rfl) (by kernel_rfl) (by kernel_rfl) (fun _ _ _ h => h) (Or.inl ⟨by rfl, ?hyA7⟩) hHeld ?restA7
      case hyA7 => (intro w hSw; go_simp; try with_reducible rfl)
      try simp only [Act.put, List.setIfInBounds_toArray, List.set_cons_zero, List.set_cons_succ]
      refine wpAnyH_take (i := 8) (oi := { dst := some 48, op := Op.load 144 (Operand.tmp 47), type := 144, pos := "zsortanyfunc.go:390", after := #[{ on := 7, ground := Ground.data }], guard := none }) (v := _) rfl (by kernel_rfl) (by kernel_rfl) (by kernel_rfl) (fun _ _ _ h => h) (yields_A rfl (by rfl) rfl (by rw [HSX.out]; exact wide144) (fun w' hs => HATX.out w' (Hid.out hs))) hHeld ?_
      try simp only [Act.put, List.setIfInBounds_toArray, List.set_cons_zero, List.set_cons_succ]
      refine wpAnyH_ready (rs := [9]) (by kernel_rfl) (by simp) ?_
      refine AllReadyH.cons (o := { dst := some 49, op := Op.call { callee := Callee.value (Operand.tmp 40), args := #[Operand.tmp 44, Operand.tmp 48], argTypes := #[144, 144] }, type := 3, pos := "zsortanyfunc.go:390", after := #[{ on := 0, ground := Ground.data }, { on := 4, ground := Ground.data }, { on := 8, ground := Ground.data }], guard := none }) rfl (fun K hK => ?_) AllReadyH.nil
      go_simp
      refine (HCMP.out _).mono ?_; rintro e wq9 ⟨rfl, hq9⟩; have HQ9 := Lib.hid hq9; clear hq9
      refine hK.out _ _ ((Lib.hid ((Hid.out hHeld).trans (HQ9.out.mono (Hid.out hHeld).size)))) (fun hHeld => ?_)
      clear hK K
      try simp only [Act.put, List.setIfInBounds_toArray, List.set_cons_zero, List.set_cons_succ]
      refine wpAnyH_take (i := 10) (oi := { dst := some 50, op := Op.binOp BinOp.lss 3 (Operand.tmp 49) (Operand.const (Value.int IntKind.i64 0)) 3, type := 4, pos := "zsortanyfunc.go:390", after := #[{ on := 9, ground := Ground.data }], guard := none }) (v := ?vA10) rfl (by kernel_rfl) (by kernel_rfl) (by kernel_rfl) (fun _ _ _ h => h) (Or.inl ⟨by rfl, ?hyA10⟩) hHeld ?restA10
      case hyA10 => (intro w hSw; go_simp; try with_reducible rfl)
      try simp only [Act.put, List.setIfInBounds_toArray, List.set_cons_zero, List.set_cons_succ]
      refine wpAnyH_done (by kernel_rfl) ?_ _
      by_cases hz0 : z < 0
      · have HK := Lib.hid (HZ.out.1 hz0)
        go_wp2_with fail
        exact ⟨⟨hh + 1, j, by go_num, rfl, by have := HH.out; omega, by have := HH.out; omega, hj, hHeld, Lib.hid (fun q u q1 q2 hq => kle_kl (HT.out.le q1 (by omega) (by have := HH.out; omega) hq hl.out) HK.out), HR⟩, by simp [intOf]; have := HH.out; omega⟩
      · have HK := Lib.hid (fun h => hz0 (HZ.out.2 h))
        go_wp2_with fail
        exact ⟨⟨i, hh, rfl, rfl, hi, by have := HH.out; omega, by have := HH.out; omega, hHeld, HL, Lib.hid (fun q u q1 q2 hq => kle_trans HK.out (HT.out.le (by have := HH.out; omega) q1 q2 hl.out hq))⟩, by simp [intOf]; have := HH.out; omega⟩
    · obtain rfl : i = j := by omega
      obtain ⟨im, him⟩ : ∃ k, i - 1 = k := ⟨_, rfl⟩
      have e2 : (i : Int) - 1 = (im : Int) := by omega
      have w2 : IntKind.i64.wrap (im : Int) = (im : Int) := by unfold IntKind.wrap; simp [IntKind.bits, IntKind.signed]; omega
      have HI := Lib.hid him
      clear him
      go_wp2_with fail
      go_loopw [13] (fun v13 wq => ∃ (k : Nat) (C : List EV), v13 = .int .i64 (k : Int) ∧ a ≤ k ∧ k ≤ im ∧ Hid (ML wq g (some ad) n c C) ∧ Hid (Sb a b L C) ∧ Hid (SrtR a b k C) ∧ Hid (C[k]? = some x) ∧ Hid (∀ q, k < q → C[q]? = L[q]?) ∧ Hid (w.grownBy wq (some g))) (fun v13 _ => im - (intOf v13).toNat)
      case atStart => exact ⟨a, L, rfl, Nat.le_refl _, by have := HI.out; omega, Lib.hid (HM.out.after HB.out), Lib.hid (Sb.refl _ _ _), Lib.hid (fun p q u v p1 p2 p3 p4 => HT.out p q u v (by omega) p2 p3), HX0, Lib.hid (fun _ _ => rfl), Lib.hid (gb_below HB.out)⟩
      case round =>
        obtain ⟨k, C, rfl, hk1, hk2, HMC, HSC, HTC, HXC, HTL, HGC⟩ := hrel
        by_cases hlt : k < im
        · have hlt' : (k : Int) < (im : Int) := by omega
          obtain ⟨kp, hkp⟩ : ∃ j, k + 1 = j := ⟨_, rfl⟩
          have e3 : (k : Int) + 1 = (kp : Int) := by omega
          have w3 : IntKind.i64.wrap (kp : Int) = (kp : Int) := by unfold IntKind.wrap; simp [IntKind.bits, IntKind.signed]; omega
          have l1 : (k : Int) < (n : Int) := by have := HI.out; omega
          have l2 : (kp : Int) < (n : Int) := by have := HI.out; omega
          have HKP := Lib.hid hkp
          have hb2 : k + 1 < i ∧ i ≤ b := by have := HI.out; omega
          have HK2 := Lib.hid hb2
          clear hkp hb2
          obtain ⟨p, p2, x', y, RX, RY, z, hp, hp2, Hp, Hp2, hl, hl2, HATX, HATY, HSX, HSY, HCMP, HZ, HRX, HRY⟩ := HMC.out.two (i := k) (j := kp) (by have := HK2.out; omega) (by have := HK2.out; have := HKP.out; omega)
          have hxx : x' = x := by have := hl.out; rw [HXC.out] at this; injection this with this; exact this.symm
          subst hxx
          have HKL : Hid (kl y x') := Lib.hid (HL.out kp y (by have := HKP.out; omega) (by have := HKP.out; have := HK2.out; omega) (by rw [← HTL.out kp (by have := HKP.out; omega)]; exact hl2.out))
          go_wp2_with fail
          have HB6 : Hid (Below wr.heap.size wr wr.drew) := Lib.hid (Below.refl _ _).drew
          have HM6 := Lib.hid (HMC.out.after HB6.out)
          refine wp_region_held_drew (S := fun _ => True) (by kernel_rfl) trivial (fun hHeld => ?_)
          refine wpAnyH_take (i := 0) (oi := { dst := some 61, op := Op.move (Operand.tmp 0), type := 96, pos := "zsortanyfunc.go:398", after := #[], guard := none }) (v := ?vB0) rfl (by kernel_rfl) (by kernel_rfl) (by kernel_rfl) (fun _ _ _ h => h) (Or.inl ⟨by rfl, ?hyB0⟩) hHeld ?restB0
          case hyB0 => (intro w hSw; go_simp; try with_reducible rfl)
          try simp only [Act.put, List.setIfInBounds_toArray, List.set_cons_zero, List.set_cons_succ]
          refine wpAnyH_take (i := 1) (oi := { dst := some 62, op := Op.move (Operand.tmp 13), type := 3, pos := "zsortanyfunc.go:398", after := #[], guard := none }) (v := ?vB1) rfl (by kernel_rfl) (by kernel_rfl) (by kernel_rfl) (fun _ _ _ h => h) (Or.inl ⟨by rfl, ?hyB1⟩) hHeld ?restB1
          case hyB1 => (intro w hSw; go_simp; try with_reducible rfl)
          try simp only [Act.put, List.setIfInBounds_toArray, List.set_cons_zero, List.set_cons_succ]
          refine wpAnyH_take (i := 2) (oi := { dst := some 63, op := Op.move (Operand.tmp 0), type := 96, pos := "zsortanyfunc.go:398", after := #[{ on := 15, ground := Ground.gcOnly Departure.lateStores }], guard := none }) (v := ?vB2) rfl (by kernel_rfl) (by kernel_rfl) (by kernel_rfl) (fun _ _ _ h => h) (Or.inl ⟨by rfl, ?hyB2⟩) hHeld ?restB2
          case hyB2 => (intro w hSw; go_simp; try with_reducible rfl)
          try simp only [Act.put, List.setIfInBounds_toArray, List.set_cons_zero, List.set_cons_succ]
          refine wpAnyH_take (i := 3) (oi := { dst := some 64, op := Op.move (Operand.tmp 13), type := 3, pos := "zsortanyfunc.go:398", after := #[{ on := 15, ground := Ground.gcOnly Departure.lateStores }], guard := none }) (v := ?vB3) rfl (by kernel_rfl) (by kernel_rfl) (by kernel_rfl) (fun _ _ _ h => h) (Or.inl ⟨by rfl, ?hyB3⟩) hHeld ?restB3
          case hyB3 => (intro w hSw; go_simp; try with_reducible rfl)
          try simp only [Act.put, List.setIfInBounds_toArray, List.set_cons_zero, List.set_cons_succ]
          refine wpAnyH_take (i := 4) (oi := { dst := some 65, op := Op.binOp BinOp.add 3 (Operand.tmp 64) (Operand.const (Value.int IntKind.i64 1)) 3, type := 3, pos := "zsortanyfunc.go:398", after := #[{ on := 3, ground := Ground.data }, { on := 15, ground := Ground.gcOnly Departure.lateStores }], guard := none }) (v := ?vB4) rfl (by kernel_rfl) (by kernel_rfl) (by kernel_rfl) (fun _ _ _ h => h) (Or.inl ⟨by rfl, ?hyB4⟩) hHeld ?restB4
          case hyB4 => (intro w hSw; go_simp; try with_reducible rfl)
          try simp only [Act.put, List.setIfInBounds_toArray, List.set_cons_zero, List.set_cons_succ]
          refine wpAnyH_take (i := 5) (oi := { dst := some 66, op := Op.move (Operand.tmp 0), type := 96, pos := "zsortanyfunc.go:398", after := #[], guard := none }) (v := ?vB5) rfl (by kernel_rfl) (by kernel_rfl) (by kernel_rfl) (fun _ _ _ h => h) (Or.inl ⟨by rfl, ?hyB5⟩) hHeld ?restB5
          case hyB5 => (intro w hSw; go_simp; try with_reducible rfl)
          try simp only [Act.put, List.setIfInBounds_toArray, List.set_cons_zero, List.set_cons_succ]
          refine wpAnyH_take (i := 6) (oi := { dst := some 67, op := Op.move (Operand.tmp 13), type := 3, pos := "zsortanyfunc.go:398", after := #[], guard := none }) (v := ?vB6) rfl (by kernel_rfl) (by kernel_rfl) (by kernel_rfl) (fun _ _ _ h => h) (Or.inl ⟨by rfl, ?hyB6⟩) hHeld ?restB6
          case hyB6 => (intro w hSw; go_simp; try with_reducible rfl)
          try simp only [Act.put, List.setIfInBounds_toArray, List.set_cons_zero, List.set_cons_succ]
          refine wpAnyH_take (i := 7) (oi := { dst := some 68, op := Op.binOp BinOp.add 3 (Operand.tmp 67) (Operand.const (Value.int IntKind.i64 1)) 3, type := 3, pos := "zsortanyfunc.go:398", after := #[{ on := 6, ground := Ground.data }], guard := none }) (v := ?vB7) rfl (by kernel_rfl) (by kernel_rfl) (by kernel_rfl) (fun _ _ _ h => h) (Or.inl ⟨by rfl, ?hyB7⟩) hHeld ?restB7
          case hyB7 => (intro w hSw; go_simp; try with_reducible rfl)
          try simp only [Act.put, List.setIfInBounds_toArray, List.set_cons_zero, List.set_cons_succ]
          refine wpAnyH_take (i := 8) (oi := { dst := some 69, op := Op.indexAddr 96 (Operand.tmp 66) (Operand.tmp 68), type := 0, pos := "zsortanyfunc.go:398", after := #[{ on := 5, ground := Ground.data }, { on := 7, ground := Ground.data }], guard := none }) (v := ?vB8) rfl (by kernel_rfl) (by kernel_rfl) (by kernel_rfl) (fun _ _ _ h => h) (Or.inl ⟨by rfl, ?hyB8⟩) hHeld ?restB8
          case hyB8 => (intro w hSw; go_simp; try with_reducible rfl)
          try simp only [Act.put, List.setIfInBounds_toArray, List.set_cons_zero, List.set_cons_succ]
          refine wpAnyH_take (i := 10) (oi := { dst := some 71, op := Op.move (Operand.tmp 0), type := 96, pos := "zsortanyfunc.go:398", after := #[], guard := none }) (v := ?vB10) rfl (by kernel_rfl) (by kernel_rfl) (by kernel_rfl) (fun _ _ _ h => h) (Or.inl ⟨by rfl, ?hyB10⟩) hHeld ?restB10
          case hyB10 => (intro w hSw; go_simp; try with_reducible rfl)
          try simp only [Act.put, List.setIfInBounds_toArray, List.set_cons_zero, List.set_cons_succ]
          refine wpAnyH_take (i := 11) (oi := { dst := some 72, op := Op.move (Operand.tmp 13), type := 3, pos := "zsortanyfunc.go:398", after := #[], guard := none }) (v := ?vB11) rfl (by kernel_rfl) (by kernel_rfl) (by kernel_rfl) (fun _ _ _ h => h) (Or.inl ⟨by rfl, ?hyB11⟩) hHeld ?restB11
          case hyB11 => (intro w hSw; go_simp; try with_reducible rfl)
          try simp only [Act.put, List.setIfInBounds_toArray, List.set_cons_zero, List.set_cons_succ]
          refine wpAnyH_take (i := 12) (oi := { dst := some 73, op := Op.indexAddr 96 (Operand.tmp 71) (Operand.tmp 72), type := 0, pos := "zsortanyfunc.go:398", after := #[{ on := 10, ground := Ground.data }, { on := 11, ground := Ground.data }], guard := none }) (v := ?vB12) rfl (by kernel_rfl) (by kernel_rfl) (by kernel_rfl) (fun _ _ _ h => h) (Or.inl ⟨by rfl, ?hyB12⟩) hHeld ?restB12
          case hyB12 => (intro w hSw; go_simp; try with_reducible rfl)
          try simp only [Act.put, List.setIfInBounds_toArray, List.set_cons_zero, List.set_cons_succ]
          refine wpAnyH_ready (rs := [9, 13]) (by kernel_rfl) (by simp) ?_
          refine AllReadyH.cons (o := { dst := some 70, op := Op.load 144 (Operand.tmp 69), type := 144, pos := "zsortanyfunc.go:398", after := #[{ on := 8, ground := Ground.data }], guard := none }) rfl (fun K hK => ?_) (AllReadyH.cons (o := { dst := some 74, op := Op.load 144 (Operand.tmp 73), type := 144, pos := "zsortanyfunc.go:398", after := #[{ on := 12, ground := Ground.data }], guard := none }) rfl (fun K hK => ?_) AllReadyH.nil)
          · refine step_ldA (cs := RY) rfl 144 (.tmp 69) rfl (by rw [HSY.out]; exact wide144) rfl (HATY.out _ HB6.out) ?_
            refine hK.out _ _ (trivial) (fun hHeld => ?_)
            clear hK K
            try simp only [Act.put, List.setIfInBounds_toArray, List.set_cons_zero, List.set_cons_succ]
            refine wpAnyH_ready (rs := [13]) (by kernel_rfl) (by simp) ?_
            refine AllReadyH.cons (o := { dst := some 74, op := Op.load 144 (Operand.tmp 73), type := 144, pos := "zsortanyfunc.go:398", after := #[{ on := 12, ground := Ground.data }], guard := none }) rfl (fun K hK => ?_) AllReadyH.nil
            refine step_ldA (cs := RX) rfl 144 (.tmp 73) rfl (by rw [HSX.out]; exact wide144) rfl (HATX.out _ HB6.out) ?_
            refine hK.out _ _ (trivial) (fun hHeld => ?_)
            clear hK K
            try simp only [Act.put, List.setIfInBounds_toArray, List.set_cons_zero, List.set_cons_succ]
            refine wpAnyH_take (i := 14) (oi := { dst := some 75, op := Op.indexAddr 96 (Operand.tmp 61) (Operand.tmp 62), type := 0, pos := "zsortanyfunc.go:398", after := #[{ on := 0, ground := Ground.data }, { on := 1, ground := Ground.data }, { on := 0, ground := Ground.phase }, { on := 1, ground := Ground.phase }, { on := 2, ground := Ground.textOnly Departure.lateStores }, { on := 3, ground := Ground.textOnly Departure.lateStores }, { on := 4, ground := Ground.textOnly Departure.lateStores }, { on := 5, ground := Ground.phase }, { on := 6, ground := Ground.phase }, { on := 7, ground := Ground.phase }, { on := 8, ground := Ground.phase }, { on := 9, ground := Ground.phase }, { on := 10, ground := Ground.textOnly Departure.lateStores }, { on := 11, ground := Ground.textOnly Departure.lateStores }, { on := 12, ground := Ground.textOnly Departure.lateStoresUnsure }, { on := 13, ground := Ground.phase }], guard := none }) (v := ?vBa14) rfl (by kernel_rfl) (by kernel_rfl) (by kernel_rfl) (fun _ _ _ h => h) (Or.inl ⟨by rfl, ?hyBa14⟩) hHeld ?restBa14
            case hyBa14 => (intro w hSw; go_simp; try with_reducible rfl)
            try simp only [Act.put, List.setIfInBounds_toArray, List.set_cons_zero, List.set_cons_succ]
            refine wpAnyH_ready (rs := [15]) (by kernel_rfl) (by simp) ?_
            refine AllReadyH.cons (o := { dst := none, op := Op.store 144 (Operand.tmp 75) (Operand.tmp 70), type := 0, pos := "zsortanyfunc.go:398", after := #[{ on := 14, ground := Ground.data }, { on := 9, ground := Ground.data }, { on := 0, ground := Ground.phase }, { on := 1, ground := Ground.phase }, { on := 2, ground := Ground.textOnly Departure.lateStores }, { on := 3, ground := Ground.textOnly Departure.lateStores }, { on := 4, ground := Ground.textOnly Departure.lateStores }, { on := 5, ground := Ground.phase }, { on := 6, ground := Ground.phase }, { on := 7, ground := Ground.phase }, { on := 8, ground := Ground.phase }, { on := 9, ground := Ground.phase }, { on := 10, ground := Ground.textOnly Departure.lateStores }, { on := 11, ground := Ground.textOnly Departure.lateStores }, { on := 12, ground := Ground.textOnly Departure.lateStoresUnsure }, { on := 13, ground := Ground.phase }], guard := none }) rfl (fun K hK => ?_) AllReadyH.nil
            refine step_stM (i := k) rfl (.tmp 75) (.tmp 70) rfl rfl Hp.out rfl HRY.out.1 HRY.out.2 HM6.out (by have := HK2.out; omega) ?_; intro w7 hm7 hg7; have HM7 := Lib.hid hm7; have HG7 := Lib.hid hg7; clear hm7 hg7
            refine hK.out _ _ (trivial) (fun hHeld => ?_)
            clear hK K
            try simp only [Act.put]
            refine wpAnyH_take (i := 16) (oi := { dst := some 76, op := Op.indexAddr 96 (Operand.tmp 63) (Operand.tmp 65), type := 0, pos := "zsortanyfunc.go:398", after := #[{ on := 2, ground := Ground.data }, { on := 4, ground := Ground.data }, { on := 0, ground := Ground.phase }, { on := 1, ground := Ground.phase }, { on := 2, ground := Ground.phase }, { on := 3, ground := Ground.phase }, { on := 4, ground := Ground.phase }, { on := 5, ground := Ground.phase }, { on := 6, ground := Ground.phase }, { on := 7, ground := Ground.phase }, { on := 8, ground := Ground.phase }, { on := 9, ground := Ground.phase }, { on := 10, ground := Ground.phase }, { on := 11, ground := Ground.phase }, { on := 12, ground := Ground.phase }, { on := 13, ground := Ground.phase }, { on := 14, ground := Ground.phase }, { on := 15, ground := Ground.phase }], guard := none }) (v := ?vBa16) rfl (by kernel_rfl) (by kernel_rfl) (by kernel_rfl) (fun _ _ _ h => h) (Or.inl ⟨by rfl, ?hyBa16⟩) hHeld ?restBa16
            case hyBa16 => (intro w hSw; go_simp; try with_reducible rfl)
            try simp only [Act.put, List.setIfInBounds_toArray, List.set_cons_zero, List.set_cons_succ]
            refine wpAnyH_ready (rs := [17]) (by kernel_rfl) (by simp) ?_
            refine AllReadyH.cons (o := { dst := none, op := Op.store 144 (Operand.tmp 76) (Operand.tmp 74), type := 0, pos := "zsortanyfunc.go:398", after := #[{ on := 16, ground := Ground.data }, { on := 13, ground := Ground.data }, { on := 15, ground := Ground.chain }, { on := 0, ground := Ground.phase }, { on := 1, ground := Ground.phase }, { on := 2, ground := Ground.phase }, { on := 3, ground := Ground.phase }, { on := 4, ground := Ground.phase }, { on := 5, ground := Ground.phase }, { on := 6, ground := Ground.phase }, { on := 7, ground := Ground.phase }, { on := 8, ground := Ground.phase }, { on := 9, ground := Ground.phase }, { on := 10, ground := Ground.phase }, { on := 11, ground := Ground.phase }, { on := 12, ground := Ground.phase }, { on := 13, ground := Ground.phase }, { on := 14, ground := Ground.phase }, { on := 15, ground := Ground.phase }], guard := none }) rfl (fun K hK => ?_) AllReadyH.nil
            refine step_stM (i := kp) rfl (.tmp 76) (.tmp 74) rfl rfl Hp2.out rfl HRX.out.1 HRX.out.2 HM7.out (by have := HKP.out; have := HK2.out; omega) ?_; intro w8 hm8 hg8; have HM8 := Lib.hid hm8; have HG8 := Lib.hid hg8; clear hm8 hg8
            refine hK.out _ _ (trivial) (fun hHeld => ?_)
            clear hK K
            try simp only [Act.put]
            refine wpAnyH_done (by kernel_rfl) ?_ _
            go_wp2_with fail
            have hsw := fun q => get_swap (j := q) hl.out (HKP.out.symm ▸ hl2.out)
            rw [HKP.out] at hsw
            exact ⟨⟨kp, _, by go_num, by have := HKP.out; omega, by have := HKP.out; omega, HM8, Lib.hid (HSC.out.trans (HKP.out ▸ Sb.swap hl.out (HKP.out.symm ▸ hl2.out) (fun e => kl_ne HKL.out e.symm) (by omega) (by have := HK2.out; omega))), Lib.hid (HKP.out ▸ SrtR.swap HTC.out hl.out (HKP.out.symm ▸ hl2.out) HKL.out hk1 (by have := HK2.out; omega)), Lib.hid (by rw [hsw, if_neg (by have := HKP.out; omega), if_pos rfl]), Lib.hid (fun q hq => by rw [hsw, if_neg (by have := HKP.out; omega), if_neg (by omega)]; exact HTL.out q (by have := HKP.out; omega)), Lib.hid (gb_trans HGC.out (gb_trans (gb_below HB6.out) (gb_trans HG7.out HG8.out)))⟩, by simp [intOf]; have := HKP.out; omega⟩
          · refine step_ldA (cs := RX) rfl 144 (.tmp 73) rfl (by rw [HSX.out]; exact wide144) rfl (HATX.out _ HB6.out) ?_
            refine hK.out _ _ (trivial) (fun hHeld => ?_)
            clear hK K
            try simp only [Act.put, List.setIfInBounds_toArray, List.set_cons_zero, List.set_cons_succ]
            refine wpAnyH_ready (rs := [9]) (by kernel_rfl) (by simp) ?_
            refine AllReadyH.cons (o := { dst := some 70, op := Op.load 144 (Operand.tmp 69), type := 144, pos := "zsortanyfunc.go:398", after := #[{ on := 8, ground := Ground.data }], guard := none }) rfl (fun K hK => ?_) AllReadyH.nil
            refine step_ldA (cs := RY) rfl 144 (.tmp 69) rfl (by rw [HSY.out]; exact wide144) rfl (HATY.out _ HB6.out) ?_
            refine hK.out _ _ (trivial) (fun hHeld => ?_)
            clear hK K
            try simp only [Act.put, List.setIfInBounds_toArray, List.set_cons_zero, List.set_cons_succ]
            refine wpAnyH_take (i := 14) (oi := { dst := some 75, op := Op.indexAddr 96 (Operand.tmp 61) (Operand.tmp 62), type := 0, pos := "zsortanyfunc.go:398", after := #[{ on := 0, ground := Ground.data }, { on := 1, ground := Ground.data }, { on := 0, ground := Ground.phase }, { on := 1, ground := Ground.phase }, { on := 2, ground := Ground.textOnly Departure.lateStores }, { on := 3, ground := Ground.textOnly Departure.lateStores }, { on := 4, ground := Ground.textOnly Departure.lateStores }, { on := 5, ground := Ground.phase }, { on := 6, ground := Ground.phase }, { on := 7, ground := Ground.phase }, { on := 8, ground := Ground.phase }, { on := 9, ground := Ground.phase }, { on := 10, ground := Ground.textOnly Departure.lateStores }, { on := 11, ground := Ground.textOnly Departure.lateStores }, { on := 12, ground := Ground.textOnly Departure.lateStoresUnsure }, { on := 13, ground := Ground.phase }], guard := none }) (v := ?vBb14) rfl (by kernel_rfl) (by kernel_rfl) (by kernel_rfl) (fun _ _ _ h => h) (Or.inl ⟨by rfl, ?hyBb14⟩) hHeld ?restBb14
            case hyBb14 => (intro w hSw; go_simp; try with_reducible rfl)
            try simp only [Act.put, List.setIfInBounds_toArray, List.set_cons_zero, List.set_cons_succ]
            refine wpAnyH_ready (rs := [15]) (by kernel_rfl) (by simp) ?_
            refine AllReadyH.cons (o := { dst := none, op := Op.store 144 (Operand.tmp 75) (Operand.tmp 70), type := 0, pos := "zsortanyfunc.go:398", after := #[{ on := 14, ground := Ground.data }, { on := 9, ground := Ground.data }, { on := 0, ground := Ground.phase }, { on := 1, ground := Ground.phase }, { on := 2, ground := Ground.textOnly Departure.lateStores }, { on := 3, ground := Ground.textOnly Departure.lateStores }, { on := 4, ground := Ground.textOnly Departure.lateStores }, { on := 5, ground := Ground.phase }, { on := 6, ground := Ground.phase }, { on := 7, ground := Ground.phase }, { on := 8, ground := Ground.phase }, { on := 9, ground := Ground.phase }, { on := 10, ground := Ground.textOnly Departure.lateStores }, { on := 11, ground := Ground.textOnly Departure.lateStores }, { on := 12, ground := Ground.textOnly Departure.lateStoresUnsure }, { on := 13, ground := Ground.phase }], guard := none }) rfl (fun K hK => ?_) AllReadyH.nil
            refine step_stM (i := k) rfl (.tmp 75) (.tmp 70) rfl rfl Hp.out rfl HRY.out.1 HRY.out.2 HM6.out (by have := HK2.out; omega) ?_; intro w7 hm7 hg7; have HM7 := Lib.hid hm7; have HG7 := Lib.hid hg7; clear hm7 hg7
            refine hK.out _ _ (trivial) (fun hHeld => ?_)
            clear hK K
            try simp only [Act.put]
            refine wpAnyH_take (i := 16) (oi := { dst := some 76, op := Op.indexAddr 96 (Operand.tmp 63) (Operand.tmp 65), type := 0, pos := "zsortanyfunc.go:398", after := #[{ on := 2, ground := Ground.data }, { on := 4, ground := Ground.data }, { on := 0, ground := Ground.phase }, { on := 1, ground := Ground.phase }, { on := 2, ground := Ground.phase }, { on := 3, ground := Ground.phase }, { on := 4, ground := Ground.phase }, { on := 5, ground := Ground.phase }, { on := 6, ground := Ground.phase }, { on := 7, ground := Ground.phase }, { on := 8, ground := Ground.phase }, { on := 9, ground := Ground.phase }, { on := 10, ground := Ground.phase }, { on := 11, ground := Ground.phase }, { on := 12, ground := Ground.phase }, { on := 13, ground := Ground.phase }, { on := 14, ground := Ground.phase }, { on := 15, ground := Ground.phase }], guard := none }) (v := ?vBb16) rfl (by kernel_rfl) (by kernel_rfl) (by kernel_rfl) (fun _ _ _ h => h) (Or.inl ⟨by rfl, ?hyBb16⟩) hHeld ?restBb16
            case hyBb16 => (intro w hSw; go_simp; try with_reducible rfl)
            try simp only [Act.put, List.setIfInBounds_toArray, List.set_cons_zero, List.set_cons_succ]
            refine wpAnyH_ready (rs := [17]) (by kernel_rfl) (by simp) ?_
            refine AllReadyH.cons (o := { dst := none, op := Op.store 144 (Operand.tmp 76) (Operand.tmp 74), type := 0, pos := "zsortanyfunc.go:398", after := #[{ on := 16, ground := Ground.data }, { on := 13, ground := Ground.data }, { on := 15, ground := Ground.chain }, { on := 0, ground := Ground.phase }, { on := 1, ground := Ground.phase }, { on := 2, ground := Ground.phase }, { on := 3, ground := Ground.phase }, { on := 4, ground := Ground.phase }, { on := 5, ground := Ground.phase }, { on := 6, ground := Ground.phase }, { on := 7, ground := Ground.phase }, { on := 8, ground := Ground.phase }, { on := 9, ground := Ground.phase }, { on := 10, ground := Ground.phase }, { on := 11, ground := Ground.phase }, { on := 12, ground := Ground.phase }, { on := 13, ground := Ground.phase }, { on := 14, ground := Ground.phase }, { on := 15, ground := Ground.phase }], guard := none }) rfl (fun K hK => ?_) AllReadyH.nil
            refine step_stM (i := kp) rfl (.tmp 76) (.tmp 74) rfl rfl Hp2.out rfl HRX.out.1 HRX.out.2 HM7.out (by have := HKP.out; have := HK2.out; omega) ?_; intro w8 hm8 hg8; have HM8 := Lib.hid hm8; have HG8 := Lib.hid hg8; clear hm8 hg8
            refine hK.out _ _ (trivial) (fun hHeld => ?_)
            clear hK K
            try simp only [Act.put]
            refine wpAnyH_done (by kernel_rfl) ?_ _
            go_wp2_with fail
            have hsw := fun q => get_swap (j := q) hl.out (HKP.out.symm ▸ hl2.out)
            rw [HKP.out] at hsw
            exact ⟨⟨kp, _, by go_num, by have := HKP.out; omega, by have := HKP.out; omega, HM8, Lib.hid (HSC.out.trans (HKP.out ▸ Sb.swap hl.out (HKP.out.symm ▸ hl2.out) (fun e => kl_ne HKL.out e.symm) (by omega) (by have := HK2.out; omega))), Lib.hid (HKP.out ▸ SrtR.swap HTC.out hl.out (HKP.out.symm ▸ hl2.out) HKL.out hk1 (by have := HK2.out; omega)), Lib.hid (by rw [hsw, if_neg (by have := HKP.out; omega), if_pos rfl]), Lib.hid (fun q hq => by rw [hsw, if_neg (by have := HKP.out; omega), if_neg (by omega)]; exact HTL.out q (by have := HKP.out; omega)), Lib.hid (gb_trans HGC.out (gb_trans (gb_below HB6.out) (gb_trans HG7.out HG8.out)))⟩, by simp [intOf]; have := HKP.out; omega⟩
        · obtain rfl : k = im := by omega
          go_wp2_with fail
          go_end0
          exact ⟨rfl, C, HMC.out, HSC.out, HTC.out.done HXC.out (fun q y q1 q2 hq => HR.out q y (by have := HI.out; omega) q2 (by rw [← HTL.out q q1]; exact hq)), HGC.out⟩
end Go.Proofs.Ytaebmhbggbpnoaa
