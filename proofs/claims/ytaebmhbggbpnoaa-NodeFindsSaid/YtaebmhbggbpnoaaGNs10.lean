/- The walk of symMergeCmpFunc (slices), in general. Conditions: each theorem's premises. -/
import Derived.Test.YtaebmhbggbpnoaaGNs9
namespace Go.Proofs.Ytaebmhbggbpnoaa
open Go.RowKit
set_option maxRecDepth 100000 in
set_option maxHeartbeats 4000000 in
theorem sm_oneA (w : World) (g : Nat) (ad : Addr) (n c : Nat) (L : List EV) (a m b mid s0 r0 nn : Nat) (h : ML w g (some ad) n c L) (he : MEnds a m b mid s0 r0 nn) (h3 : b ≤ n) (hn : n ≤ 1000000) (ht : Srt a m L) (ht2 : Srt m b L)
    (hc0 : mid < m ∧ s0 + b = nn ∧ r0 = mid)
    (rec : ∀ w L a' m' b', b' - a' < b - a → ML w g (some ad) n c L → a' < m' → m' < b' → b' ≤ n → Srt a' m' L → Srt m' b' L → Calls Try.prog 142 #[.slice (some ad) n c, .int .i64 (a' : Int), .int .i64 (m' : Int), .int .i64 (b' : Int), cmpV] w (MergePost w g (some ad) n c L a' b')) :
    Calls Try.prog 142 #[.slice (some ad) n c, .int .i64 (a : Int), .int .i64 (m : Int), .int .i64 (b : Int), cmpV] w (MergePost w g (some ad) n c L a b) := by
  have HM := Lib.hid h
  have HT := Lib.hid ht
  have HT2 := Lib.hid ht2
  have HREC := Lib.hid rec
  have o := he.ord
  have o1 := he.hmid
  have o2 := he.hnn
  have o3 := he.ab
  have HE := Lib.hid he
  obtain ⟨ma, hma⟩ : ∃ k, m - a = k := ⟨_, rfl⟩
  obtain ⟨bm, hbm⟩ : ∃ k, b - m = k := ⟨_, rfl⟩
  obtain ⟨P, hP⟩ : ∃ k, nn - 1 = k := ⟨_, rfl⟩
  have e00 : (m : Int) - (a : Int) = (ma : Int) := by omega
  have e01 : ((ma : Int) == 1) = false := by simp; omega
  have e02 : (b : Int) - (m : Int) = (bm : Int) := by omega
  have e03 : ((bm : Int) == 1) = false := by simp; omega
  have e04 : ((a : Int) + (b : Int)) / 2 = (mid : Int) := by omega
  have e05 : (mid : Int) + (m : Int) = (nn : Int) := by omega
  have e06 : (nn : Int) - 1 = (P : Int) := by omega
  have w0 : IntKind.i64.wrap (ma : Int) = (ma : Int) := by unfold IntKind.wrap; simp [IntKind.bits, IntKind.signed]; omega
  have w1 : IntKind.i64.wrap (bm : Int) = (bm : Int) := by unfold IntKind.wrap; simp [IntKind.bits, IntKind.signed]; omega
  have w2 : IntKind.i64.wrap (nn : Int) = (nn : Int) := by unfold IntKind.wrap; simp [IntKind.bits, IntKind.signed]; omega
  have w3 : IntKind.i64.wrap (P : Int) = (P : Int) := by unfold IntKind.wrap; simp [IntKind.bits, IntKind.signed]; omega
  have HP := Lib.hid hP
  have HO := Lib.hid (And.intro o (And.intro o2 o3))
  clear h ht ht2 rec hma hbm hP he o o1 o2 o3
  obtain ⟨hc, hs0, hr0⟩ := hc0
  have hc' : (mid : Int) < (m : Int) := by omega
  have hs1 : (nn : Int) - (b : Int) = (s0 : Int) := by omega
  have ws1 : IntKind.i64.wrap (s0 : Int) = (s0 : Int) := by unfold IntKind.wrap; simp [IntKind.bits, IntKind.signed]; have := HO.out; omega
  clear hs0
  go_enter Try.func142, Try.ntmps142
  go_wp2_with fail
  go_loopw [20, 21] (fun v20 v21 wr => ∃ (s r : Nat), v20 = .int .i64 (s : Int) ∧ v21 = .int .i64 (r : Int) ∧ s0 ≤ s ∧ s ≤ r ∧ r ≤ r0 ∧ Hid (Below w.heap.size w wr) ∧ Hid (MFound a m b s0 r0 nn s r L)) (fun v20 v21 _ => (intOf v21).toNat - (intOf v20).toNat)
  case atStart => exact ⟨s0, r0, by first | rfl | (congr 1; omega), by first | rfl | (congr 1; omega), Nat.le_refl _, HO.out.1.2.1, Nat.le_refl _, Lib.hid (Below.refl _ _), Lib.hid ⟨.inl rfl, .inl rfl⟩⟩
  case round =>
    obtain ⟨s, r, rfl, rfl, hs, hsr, hr, HB, HF⟩ := hrel
    by_cases hlt : s < r
    · have hlt' : (s : Int) < (r : Int) := by omega
      obtain ⟨hh, hhe⟩ : ∃ k, (s + r) / 2 = k := ⟨_, rfl⟩
      obtain ⟨ph, hph⟩ : ∃ k, P - hh = k := ⟨_, rfl⟩
      have oo := HO.out
      have op := HP.out
      have eh : ((s : Int) + (r : Int)) / 2 = (hh : Int) := by omega
      have ep : (P : Int) - (hh : Int) = (ph : Int) := by omega
      have wp : IntKind.i64.wrap (ph : Int) = (ph : Int) := by unfold IntKind.wrap; simp [IntKind.bits, IntKind.signed]; omega
      have hb1 : s ≤ hh ∧ hh < r ∧ hh < n ∧ ph < n ∧ nn - (hh + 1) = ph ∧ nn - 1 - hh = ph := by omega
      have HH := Lib.hid hb1
      have lh : (hh : Int) < (n : Int) := by omega
      have lh2 : (ph : Int) < (n : Int) := by omega
      clear hhe hb1 oo op hph
      obtain ⟨p, p2, y, x, RY, RX, z, hp, hp2, -, -, hl, hl2, HATY, HATX, HSY, HSX, HCMP, HZ, -, -⟩ := HM.out.two (i := ph) (j := hh) HH.out.2.2.2.1 HH.out.2.2.1
      go_wp2_with fail
      refine wp_region_held_drew (S := fun w' => Hid (Below w.heap.size w w')) (by kernel_rfl) (Lib.hid HB.out.drew) (fun hHeld => ?_)
      refine wpAnyH_take (i := 0) (oi := { dst := some 158, op := Op.move (Operand.tmp 4), type := 204, pos := "zsortanyfunc.go:441", after := #[], guard := none }) (v := ?vA0) rfl (by kernel_rfl) (by kernel_rfl) (by kernel_rfl) (fun _ _ _ h => h) (Or.inl ⟨by rfl, ?hyA0⟩) hHeld ?restA0
      case hyA0 => (intro w hSw; go_simp; try with_reducible rfl)
      try simp only [Act.put, List.setIfInBounds_toArray, List.set_cons_zero, List.set_cons_succ]
      refine wpAnyH_take (i := 1) (oi := { dst := some 159, op := Op.move (Operand.tmp 0), type := 96, pos := "zsortanyfunc.go:441", after := #[], guard := none }) (v := ?vA1) rfl (by kernel_rfl) (by kernel_rfl) (by kernel_rfl) (fun _ _ _ h => h) (Or.inl ⟨by rfl, ?hyA1⟩) hHeld ?restA1
      case hyA1 => (intro w hSw; go_simp; try with_reducible rfl)
      try simp only [Act.put, List.setIfInBounds_toArray, List.set_cons_zero, List.set_cons_succ]
      refine wpAnyH_take (i := 2) (oi := { dst := some 160, op := Op.move (Operand.tmp 22), type := 3, pos := "zsortanyfunc.go:441", after := #[], guard := none }) (v := ?vA2) rfl (by kernel_rfl) (by kernel_rfl) (by kernel_rfl) (fun _ _ _ h => h) (Or.inl ⟨by rfl, ?hyA2⟩) hHeld ?restA2
      case hyA2 => (intro w hSw; go_simp; try with_reducible rfl)
      try simp only [Act.put, List.setIfInBounds_toArray, List.set_cons_zero, List.set_cons_succ]
      refine wpAnyH_take (i := 3) (oi := { dst := some 161, op := Op.move (Operand.tmp 23), type := 3, pos := "zsortanyfunc.go:441", after := #[], guard := none }) (v := ?vA3) rfl (by kernel_rfl) (by kernel_rfl) (by kernel_rfl) (fun _ _ _ h => h) (Or.inl ⟨by rfl, ?hyA3⟩) hHeld ?restA3
      case hyA3 => (intro w hSw; go_simp; try with_reducible rfl)
      try simp only [Act.put, List.setIfInBounds_toArray, List.set_cons_zero, List.set_cons_succ]
      refine wpAnyH_take (i := 4) (oi := { dst := some 162, op := Op.binOp BinOp.sub 3 (Operand.tmp 160) (Operand.tmp 161) 3, type := 3, pos := "zsortanyfunc.go:441", after := #[{ on := 2, ground := Ground.data }, { on := 3, ground := Ground.data }], guard := none }) (v := ?vA4) rfl (by kernel_rfl) (by kernel_rfl) (by kernel_rfl) (fun _ _ _ h => h) (Or.inl ⟨by rfl, ?hyA4⟩) hHeld ?restA4
      case hyA4 => (intro w hSw; go_simp; try with_reducible rfl)
      try simp only [Act.put, List.setIfInBounds_toArray, List.set_cons_zero, List.set_cons_succ]
      refine wpAnyH_take (i := 5) (oi := { dst := some 163, op := Op.indexAddr 96 (Operand.tmp 159) (Operand.tmp 162), type := 0, pos := "zsortanyfunc.go:441", after := #[{ on := 1, ground := Ground.data }, { on := 4, ground := Ground.data }], guard := none }) (v := ?vA5) rfl (by kernel_rfl) (by kernel_rfl) (by kernel_rfl) (fun _ _ _ h => h) (Or.inl ⟨by rfl, ?hyA5⟩) hHeld ?restA5
      case hyA5 => (intro w hSw; go_simp; try with_reducible rfl)
      try simp only [Act.put, List.setIfInBounds_toArray, List.set_cons_zero, List.set_cons_succ]
      refine wpAnyH_take (i := 6) (oi := { dst := some 164, op := Op.load 144 (Operand.tmp 163), type := 144, pos := "zsortanyfunc.go:441", after := #[{ on := 5, ground := Ground.data }], guard := none }) (v := _) rfl (by kernel_rfl) (by kernel_rfl) (by kernel_rfl) (fun _ _ _ h => h) (yields_A rfl (by rfl) rfl (by rw [HSY.out]; exact wide144) (fun w' hs => HATY.out w' (Hid.out hs))) hHeld ?_
      try simp only [Act.put, List.setIfInBounds_toArray, List.set_cons_zero, List.set_cons_succ]
      refine wpAnyH_take (i := 7) (oi := { dst := some 165, op := Op.move (Operand.tmp 0), type := 96, pos := "zsortanyfunc.go:441", after := #[], guard := none }) (v := ?vA7) rfl (by kernel_rfl) (by kernel_rfl) (by kernel_rfl) (fun _ _ _ h => h) (Or.inl ⟨by rfl, ?hyA7⟩) hHeld ?restA7
      case hyA7 => (intro w hSw; go_simp; try with_reducible rfl)
      try simp only [Act.put, List.setIfInBounds_toArray, List.set_cons_zero, List.set_cons_succ]
      refine wpAnyH_take (i := 8) (oi := { dst := some 166, op := Op.move (Operand.tmp 23), type := 3, pos := "zsortanyfunc.go:441", after := #[], guard := none }) (v := ?vA8) rfl (by kernel_rfl) (by kernel_rfl) (by kernel_rfl) (fun _ _ _ h => h) (Or.inl ⟨by rfl, ?hyA8⟩) hHeld ?restA8
      case hyA8 => (intro w hSw; go_simp; try with_reducible rfl)
      try simp only [Act.put, List.setIfInBounds_toArray, List.set_cons_zero, List.set_cons_succ]
      refine wpAnyH_take (i := 9) (oi := { dst := some 167, op := Op.indexAddr 96 (Operand.tmp 165) (Operand.tmp 166), type := 0, pos := "zsortanyfunc.go:441", after := #[{ on := 7, ground := Ground.data }, { on := 8, ground := Ground.data }], guard := none }) (v := ?vA9) rfl (by kernel_rfl) (by kernel_rfl) (by kernel_rfl) (fun _ _ _ h => h) (Or.inl ⟨by rfl, ?hyA9⟩) hHeld ?restA9
      case hyA9 => (intro w hSw; go_simp; try with_reducible rfl)
      try simp only [Act.put, List.setIfInBounds_toArray, List.set_cons_zero, List.set_cons_succ]
      refine wpAnyH_take (i := 10) (oi := { dst := some 168, op := Op.load 144 (Operand.tmp 167), type := 144, pos := "zsortanyfunc.go:441", after := #[{ on := 9, ground := Ground.data }], guard := none }) (v := _) rfl (by kernel_rfl) (by kernel_rfl) (by kernel_rfl) (fun _ _ _ h => h) (yields_A rfl (by rfl) rfl (by rw [HSX.out]; exact wide144) (fun w' hs => HATX.out w' (Hid.out hs))) hHeld ?_
      try simp only [Act.put, List.setIfInBounds_toArray, List.set_cons_zero, List.set_cons_succ]
      refine wpAnyH_ready (rs := [11]) (by kernel_rfl) (by simp) ?_
      refine AllReadyH.cons (o := { dst := some 169, op := Op.call { callee := Callee.value (Operand.tmp 158), args := #[Operand.tmp 164, Operand.tmp 168], argTypes := #[144, 144] }, type := 3, pos := "zsortanyfunc.go:441", after := #[{ on := 0, ground := Ground.data }, { on := 6, ground := Ground.data }, { on := 10, ground := Ground.data }], guard := none }) rfl (fun K hK => ?_) AllReadyH.nil
      go_simp
      refine (HCMP.out _).mono ?_; rintro e wq11 ⟨rfl, hq11⟩; have HQ11 := Lib.hid hq11; clear hq11
      refine hK.out _ _ ((Lib.hid ((Hid.out hHeld).trans (HQ11.out.mono (Hid.out hHeld).size)))) (fun hHeld => ?_)
      clear hK K
      try simp only [Act.put, List.setIfInBounds_toArray, List.set_cons_zero, List.set_cons_succ]
      refine wpAnyH_take (i := 12) (oi := { dst := some 170, op := Op.binOp BinOp.lss 3 (Operand.tmp 169) (Operand.const (Value.int IntKind.i64 0)) 3, type := 4, pos := "zsortanyfunc.go:441", after := #[{ on := 11, ground := Ground.data }], guard := none }) (v := ?vA12) rfl (by kernel_rfl) (by kernel_rfl) (by kernel_rfl) (fun _ _ _ h => h) (Or.inl ⟨by rfl, ?hyA12⟩) hHeld ?restA12
      case hyA12 => (intro w hSw; go_simp; try with_reducible rfl)
      try simp only [Act.put, List.setIfInBounds_toArray, List.set_cons_zero, List.set_cons_succ]
      refine wpAnyH_take (i := 13) (oi := { dst := some 171, op := Op.unOp UnOp.not 4 (Operand.tmp 170), type := 4, pos := "zsortanyfunc.go:441", after := #[{ on := 12, ground := Ground.data }], guard := none }) (v := ?vA13) rfl (by kernel_rfl) (by kernel_rfl) (by kernel_rfl) (fun _ _ _ h => h) (Or.inl ⟨by rfl, ?hyA13⟩) hHeld ?restA13
      case hyA13 => (intro w hSw; go_simp; try with_reducible rfl)
      try simp only [Act.put, List.setIfInBounds_toArray, List.set_cons_zero, List.set_cons_succ]
      refine wpAnyH_done (by kernel_rfl) ?_ _
      by_cases hz0 : z < 0
      · have HK := Lib.hid (HZ.out.1 hz0)
        rw [show decide (z < 0) = true from by simp [hz0], Bool.not_true]
        go_wp2_with fail
        exact ⟨⟨s, hh, rfl, rfl, hs, HH.out.1, by have := HH.out; omega, hHeld, Lib.hid ⟨HF.out.lo, .inr ⟨x, y, by rw [HH.out.2.2.2.2.2]; exact hl.out, hl2.out, HK.out⟩⟩⟩, by simp [intOf]; have := HH.out; omega⟩
      · have HK := Lib.hid (fun h => hz0 (HZ.out.2 h))
        rw [show decide (z < 0) = false from by simp [hz0], Bool.not_false]
        go_wp2_with fail
        exact ⟨⟨hh + 1, r, by go_num, rfl, by have := HH.out; omega, HH.out.2.1, hr, hHeld, Lib.hid ⟨.inr ⟨x, y, by rw [HH.out.2.2.2.2.1]; exact hl.out, by rw [Nat.add_sub_cancel]; exact hl2.out, HK.out⟩, HF.out.hi⟩⟩, by simp [intOf]; have := HH.out; omega⟩
    · obtain rfl : s = r := by omega
      obtain ⟨e, hE⟩ : ∃ k, nn - s = k := ⟨_, rfl⟩
      have oo := HO.out
      have ee : (nn : Int) - (s : Int) = (e : Int) := by omega
      have we : IntKind.i64.wrap (e : Int) = (e : Int) := by unfold IntKind.wrap; simp [IntKind.bits, IntKind.signed]; omega
      obtain ⟨L1, hL1a, hL1b, hTU⟩ := mid_made HF.out HE.out hs hr hE (by rw [HM.out.len]; exact h3) HT.out HT2.out
      have HEE := Lib.hid hE
      have HTU := Lib.hid hTU
      have HLA := Lib.hid hL1a
      have HLB := Lib.hid hL1b
      clear hE oo hL1a hL1b hTU
      go_upto_region 38 with fail
      go_cut [24] (fun v24 wx => v24 = .int .i64 (e : Int) ∧ wr = wx)
      case first =>
        go_wp2_with fail
        go_meet
        exact ⟨rfl, rfl⟩
      case rest =>
        obtain ⟨rfl, rfl⟩ := hcut
        refine (‹∀ (a_1 : Act) (w_1 : World), Code.wp Try.prog _ (bodyPost Try.prog Try.f142 _) a_1 w_1 → _›) _ _ ?_
        exact tail39_any w wr g ad n c L L1 a m b mid s e _ _ _ _ _ _ _ _ _ _ _ _ _ _ _ _ _ _ _ _ _ _ _ _ _ _ _ _ _ _ _ _ _ _ _ _ _ _ _ _ _ _ _ _ _ _ _ _ _ _ _ _ _ _ _ _ _ _ _ _ _ _ _ _ _ _ _ _ _ _ _ _ _ _ _ _ _ _ _ _ _ _ _ _ _ _ _ _ _ _ _ _ _ _ _ _ _ _ _ _ _ _ _ _ _ _ _ _ _ _ _ _ _ _ _ _ _ _ _ _ _ _ _ _ _ _ _ _ _ _ _ _ _ _ _ _ _ _ _ _ _ _ _ _ _ _ _ _ _ _ _ _ _ _ _ _ _ _ _ _ _ _ _ _ _ _ _ _ _ _ _ _ _ _ _ _ _ _ _ _ _ _ _ _ _ _ _ _ _ _ _ _ _ _ _ _ _ _ _ _ _ _ _ _ _ _ _ _ _ _ _ _ HREC (Lib.hid (by have := HO.out; omega)) HTU HM HB HLA HLB
set_option maxRecDepth 100000 in
set_option maxHeartbeats 4000000 in
theorem sm_oneB (w : World) (g : Nat) (ad : Addr) (n c : Nat) (L : List EV) (a m b mid s0 r0 nn : Nat) (h : ML w g (some ad) n c L) (he : MEnds a m b mid s0 r0 nn) (h3 : b ≤ n) (hn : n ≤ 1000000) (ht : Srt a m L) (ht2 : Srt m b L)
    (hc0 : m ≤ mid ∧ s0 = a ∧ r0 = m)
    (rec : ∀ w L a' m' b', b' - a' < b - a → ML w g (some ad) n c L → a' < m' → m' < b' → b' ≤ n → Srt a' m' L → Srt m' b' L → Calls Try.prog 142 #[.slice (some ad) n c, .int .i64 (a' : Int), .int .i64 (m' : Int), .int .i64 (b' : Int), cmpV] w (MergePost w g (some ad) n c L a' b')) :
    Calls Try.prog 142 #[.slice (some ad) n c, .int .i64 (a : Int), .int .i64 (m : Int), .int .i64 (b : Int), cmpV] w (MergePost w g (some ad) n c L a b) := by
  have HM := Lib.hid h
  have HT := Lib.hid ht
  have HT2 := Lib.hid ht2
  have HREC := Lib.hid rec
  have o := he.ord
  have o1 := he.hmid
  have o2 := he.hnn
  have o3 := he.ab
  have HE := Lib.hid he
  obtain ⟨ma, hma⟩ : ∃ k, m - a = k := ⟨_, rfl⟩
  obtain ⟨bm, hbm⟩ : ∃ k, b - m = k := ⟨_, rfl⟩
  obtain ⟨P, hP⟩ : ∃ k, nn - 1 = k := ⟨_, rfl⟩
  have e00 : (m : Int) - (a : Int) = (ma : Int) := by omega
  have e01 : ((ma : Int) == 1) = false := by simp; omega
  have e02 : (b : Int) - (m : Int) = (bm : Int) := by omega
  have e03 : ((bm : Int) == 1) = false := by simp; omega
  have e04 : ((a : Int) + (b : Int)) / 2 = (mid : Int) := by omega
  have e05 : (mid : Int) + (m : Int) = (nn : Int) := by omega
  have e06 : (nn : Int) - 1 = (P : Int) := by omega
  have w0 : IntKind.i64.wrap (ma : Int) = (ma : Int) := by unfold IntKind.wrap; simp [IntKind.bits, IntKind.signed]; omega
  have w1 : IntKind.i64.wrap (bm : Int) = (bm : Int) := by unfold IntKind.wrap; simp [IntKind.bits, IntKind.signed]; omega
  have w2 : IntKind.i64.wrap (nn : Int) = (nn : Int) := by unfold IntKind.wrap; simp [IntKind.bits, IntKind.signed]; omega
  have w3 : IntKind.i64.wrap (P : Int) = (P : Int) := by unfold IntKind.wrap; simp [IntKind.bits, IntKind.signed]; omega
  have HP := Lib.hid hP
  have HO := Lib.hid (And.intro o (And.intro o2 o3))
  clear h ht ht2 rec hma hbm hP he o o1 o2 o3
  obtain ⟨hc, hs0, hr0⟩ := hc0
  have hc' : ¬ (mid : Int) < (m : Int) := by omega
  go_enter Try.func142, Try.ntmps142
  go_wp2_with fail
  go_loopw [20, 21] (fun v20 v21 wr => ∃ (s r : Nat), v20 = .int .i64 (s : Int) ∧ v21 = .int .i64 (r : Int) ∧ s0 ≤ s ∧ s ≤ r ∧ r ≤ r0 ∧ Hid (Below w.heap.size w wr) ∧ Hid (MFound a m b s0 r0 nn s r L)) (fun v20 v21 _ => (intOf v21).toNat - (intOf v20).toNat)
  case atStart => exact ⟨s0, r0, by first | rfl | (congr 1; omega), by first | rfl | (congr 1; omega), Nat.le_refl _, HO.out.1.2.1, Nat.le_refl _, Lib.hid (Below.refl _ _), Lib.hid ⟨.inl rfl, .inl rfl⟩⟩
  case round =>
    obtain ⟨s, r, rfl, rfl, hs, hsr, hr, HB, HF⟩ := hrel
    by_cases hlt : s < r
    · have hlt' : (s : Int) < (r : Int) := by omega
      obtain ⟨hh, hhe⟩ : ∃ k, (s + r) / 2 = k := ⟨_, rfl⟩
      obtain ⟨ph, hph⟩ : ∃ k, P - hh = k := ⟨_, rfl⟩
      have oo := HO.out
      have op := HP.out
      have eh : ((s : Int) + (r : Int)) / 2 = (hh : Int) := by omega
      have ep : (P : Int) - (hh : Int) = (ph : Int) := by omega
      have wp : IntKind.i64.wrap (ph : Int) = (ph : Int) := by unfold IntKind.wrap; simp [IntKind.bits, IntKind.signed]; omega
      have hb1 : s ≤ hh ∧ hh < r ∧ hh < n ∧ ph < n ∧ nn - (hh + 1) = ph ∧ nn - 1 - hh = ph := by omega
      have HH := Lib.hid hb1
      have lh : (hh : Int) < (n : Int) := by omega
      have lh2 : (ph : Int) < (n : Int) := by omega
      clear hhe hb1 oo op hph
      obtain ⟨p, p2, y, x, RY, RX, z, hp, hp2, -, -, hl, hl2, HATY, HATX, HSY, HSX, HCMP, HZ, -, -⟩ := HM.out.two (i := ph) (j := hh) HH.out.2.2.2.1 HH.out.2.2.1
      go_wp2_with fail
      refine wp_region_held_drew (S := fun w' => Hid (Below w.heap.size w w')) (by kernel_rfl) (Lib.hid HB.out.drew) (fun hHeld => ?_)
      refine wpAnyH_take (i := 0) (oi := { dst := some 158, op := Op.move (Operand.tmp 4), type := 204, pos := "zsortanyfunc.go:441", after := #[], guard := none }) (v := ?vB0) rfl (by kernel_rfl) (by kernel_rfl) (by kernel_rfl) (fun _ _ _ h => h) (Or.inl ⟨by rfl, ?hyB0⟩) hHeld ?restB0
      case hyB0 => (intro w hSw; go_simp; try with_reducible rfl)
      try simp only [Act.put, List.setIfInBounds_toArray, List.set_cons_zero, List.set_cons_succ]
      refine wpAnyH_take (i := 1) (oi := { dst := some 159, op := Op.move (Operand.tmp 0), type := 96, pos := "zsortanyfunc.go:441", after := #[], guard := none }) (v := ?vB1) rfl (by kernel_rfl) (by kernel_rfl) (by kernel_rfl) (fun _ _ _ h => h) (Or.inl ⟨by rfl, ?hyB1⟩) hHeld ?restB1
      case hyB1 => (intro w hSw; go_simp; try with_reducible rfl)
      try simp only [Act.put, List.setIfInBounds_toArray, List.set_cons_zero, List.set_cons_succ]
      refine wpAnyH_take (i := 2) (oi := { dst := some 160, op := Op.move (Operand.tmp 22), type := 3, pos := "zsortanyfunc.go:441", after := #[], guard := none }) (v := ?vB2) rfl (by kernel_rfl) (by kernel_rfl) (by kernel_rfl) (fun _ _ _ h => h) (Or.inl ⟨by rfl, ?hyB2⟩) hHeld ?restB2
      case hyB2 => (intro w hSw; go_simp; try with_reducible rfl)
      try simp only [Act.put, List.setIfInBounds_toArray, List.set_cons_zero, List.set_cons_succ]
      refine wpAnyH_take (i := 3) (oi := { dst := some 161, op := Op.move (Operand.tmp 23), type := 3, pos := "zsortanyfunc.go:441", after := #[], guard := none }) (v := ?vB3) rfl (by kernel_rfl) (by kernel_rfl) (by kernel_rfl) (fun _ _ _ h => h) (Or.inl ⟨by rfl, ?hyB3⟩) hHeld ?restB3
      case hyB3 => (intro w hSw; go_simp; try with_reducible rfl)
      try simp only [Act.put, List.setIfInBounds_toArray, List.set_cons_zero, List.set_cons_succ]
      refine wpAnyH_take (i := 4) (oi := { dst := some 162, op := Op.binOp BinOp.sub 3 (Operand.tmp 160) (Operand.tmp 161) 3, type := 3, pos := "zsortanyfunc.go:441", after := #[{ on := 2, ground := Ground.data }, { on := 3, ground := Ground.data }], guard := none }) (v := ?vB4) rfl (by kernel_rfl) (by kernel_rfl) (by kernel_rfl) (fun _ _ _ h => h) (Or.inl ⟨by rfl, ?hyB4⟩) hHeld ?restB4
      case hyB4 => (intro w hSw; go_simp; try with_reducible rfl)
      try simp only [Act.put, List.setIfInBounds_toArray, List.set_cons_zero, List.set_cons_succ]
      refine wpAnyH_take (i := 5) (oi := { dst := some 163, op := Op.indexAddr 96 (Operand.tmp 159) (Operand.tmp 162), type := 0, pos := "zsortanyfunc.go:441", after := #[{ on := 1, ground := Ground.data }, { on := 4, ground := Ground.data }], guard := none }) (v := ?vB5) rfl (by kernel_rfl) (by kernel_rfl) (by kernel_rfl) (fun _ _ _ h => h) (Or.inl ⟨by rfl, ?hyB5⟩) hHeld ?restB5
      case hyB5 => (intro w hSw; go_simp; try with_reducible rfl)
      try simp only [Act.put, List.setIfInBounds_toArray, List.set_cons_zero, List.set_cons_succ]
      refine wpAnyH_take (i := 6) (oi := { dst := some 164, op := Op.load 144 (Operand.tmp 163), type := 144, pos := "zsortanyfunc.go:441", after := #[{ on := 5, ground := Ground.data }], guard := none }) (v := _) rfl (by kernel_rfl) (by kernel_rfl) (by kernel_rfl) (fun _ _ _ h => h) (yields_A rfl (by rfl) rfl (by rw [HSY.out]; exact wide144) (fun w' hs => HATY.out w' (Hid.out hs))) hHeld ?_
      try simp only [Act.put, List.setIfInBounds_toArray, List.set_cons_zero, List.set_cons_succ]
      refine wpAnyH_take (i := 7) (oi := { dst := some 165, op := Op.move (Operand.tmp 0), type := 96, pos := "zsortanyfunc.go:441", after := #[], guard := none }) (v := ?vB7) rfl (by kernel_rfl) (by kernel_rfl) (by kernel_rfl) (fun _ _ _ h => h) (Or.inl ⟨by rfl, ?hyB7⟩) hHeld ?restB7
      case hyB7 => (intro w hSw; go_simp; try with_reducible rfl)
      try simp only [Act.put, List.setIfInBounds_toArray, List.set_cons_zero, List.set_cons_succ]
      refine wpAnyH_take (i := 8) (oi := { dst := some 166, op := Op.move (Operand.tmp 23), type := 3, pos := "zsortanyfunc.go:441", after := #[], guard := none }) (v := ?vB8) rfl (by kernel_rfl) (by kernel_rfl) (by kernel_rfl) (fun _ _ _ h => h) (Or.inl ⟨by rfl, ?hyB8⟩) hHeld ?restB8
      case hyB8 => (intro w hSw; go_simp; try with_reducible rfl)
      try simp only [Act.put, List.setIfInBounds_toArray, List.set_cons_zero, List.set_cons_succ]
      refine wpAnyH_take (i := 9) (oi := { dst := some 167, op := Op.indexAddr 96 (Operand.tmp 165) (Operand.tmp 166), type := 0, pos := "zsortanyfunc.go:441", after := #[{ on := 7, ground := Ground.data }, { on := 8, ground := Ground.data }], guard := none }) (v := ?vB9) rfl (by kernel_rfl) (by kernel_rfl) (by kernel_rfl) (fun _ _ _ h => h) (Or.inl ⟨by rfl, ?hyB9⟩) hHeld ?restB9
      case hyB9 => (intro w hSw; go_simp; try with_reducible rfl)
      try simp only [Act.put, List.setIfInBounds_toArray, List.set_cons_zero, List.set_cons_succ]
      refine wpAnyH_take (i := 10) (oi := { dst := some 168, op := Op.load 144 (Operand.tmp 167), type := 144, pos := "zsortanyfunc.go:441", after := #[{ on := 9, ground := Ground.data }], guard := none }) (v := _) rfl (by kernel_rfl) (by kernel_rfl) (by kernel_rfl) (fun _ _ _ h => h) (yields_A rfl (by rfl) rfl (by rw [HSX.out]; exact wide144) (fun w' hs => HATX.out w' (Hid.out hs))) hHeld ?_
      try simp only [Act.put, List.setIfInBounds_toArray, List.set_cons_zero, List.set_cons_succ]
      refine wpAnyH_ready (rs := [11]) (by kernel_rfl) (by simp) ?_
      refine AllReadyH.cons (o := { dst := some 169, op := Op.call { callee := Callee.value (Operand.tmp 158), args := #[Operand.tmp 164, Operand.tmp 168], argTypes := #[144, 144] }, type := 3, pos := "zsortanyfunc.go:441", after := #[{ on := 0, ground := Ground.data }, { on := 6, ground := Ground.data }, { on := 10, ground := Ground.data }], guard := none }) rfl (fun K hK => ?_) AllReadyH.nil
      go_simp
      refine (HCMP.out _).mono ?_; rintro e wq11 ⟨rfl, hq11⟩; have HQ11 := Lib.hid hq11; clear hq11
      refine hK.out _ _ ((Lib.hid ((Hid.out hHeld).trans (HQ11.out.mono (Hid.out hHeld).size)))) (fun hHeld => ?_)
      clear hK K
      try simp only [Act.put, List.setIfInBounds_toArray, List.set_cons_zero, List.set_cons_succ]
      refine wpAnyH_take (i := 12) (oi := { dst := some 170, op := Op.binOp BinOp.lss 3 (Operand.tmp 169) (Operand.const (Value.int IntKind.i64 0)) 3, type := 4, pos := "zsortanyfunc.go:441", after := #[{ on := 11, ground := Ground.data }], guard := none }) (v := ?vB12) rfl (by kernel_rfl) (by kernel_rfl) (by kernel_rfl) (fun _ _ _ h => h) (Or.inl ⟨by rfl, ?hyB12⟩) hHeld ?restB12
      case hyB12 => (intro w hSw; go_simp; try with_reducible rfl)
      try simp only [Act.put, List.setIfInBounds_toArray, List.set_cons_zero, List.set_cons_succ]
      refine wpAnyH_take (i := 13) (oi := { dst := some 171, op := Op.unOp UnOp.not 4 (Operand.tmp 170), type := 4, pos := "zsortanyfunc.go:441", after := #[{ on := 12, ground := Ground.data }], guard := none }) (v := ?vB13) rfl (by kernel_rfl) (by kernel_rfl) (by kernel_rfl) (fun _ _ _ h => h) (Or.inl ⟨by rfl, ?hyB13⟩) hHeld ?restB13
      case hyB13 => (intro w hSw; go_simp; try with_reducible rfl)
      try simp only [Act.put, List.setIfInBounds_toArray, List.set_cons_zero, List.set_cons_succ]
      refine wpAnyH_done (by kernel_rfl) ?_ _
      by_cases hz0 : z < 0
      · have HK := Lib.hid (HZ.out.1 hz0)
        rw [show decide (z < 0) = true from by simp [hz0], Bool.not_true]
        go_wp2_with fail
        exact ⟨⟨s, hh, rfl, rfl, hs, HH.out.1, by have := HH.out; omega, hHeld, Lib.hid ⟨HF.out.lo, .inr ⟨x, y, by rw [HH.out.2.2.2.2.2]; exact hl.out, hl2.out, HK.out⟩⟩⟩, by simp [intOf]; have := HH.out; omega⟩
      · have HK := Lib.hid (fun h => hz0 (HZ.out.2 h))
        rw [show decide (z < 0) = false from by simp [hz0], Bool.not_false]
        go_wp2_with fail
        exact ⟨⟨hh + 1, r, by go_num, rfl, by have := HH.out; omega, HH.out.2.1, hr, hHeld, Lib.hid ⟨.inr ⟨x, y, by rw [HH.out.2.2.2.2.1]; exact hl.out, by rw [Nat.add_sub_cancel]; exact hl2.out, HK.out⟩, HF.out.hi⟩⟩, by simp [intOf]; have := HH.out; omega⟩
    · obtain rfl : s = r := by omega
      obtain ⟨e, hE⟩ : ∃ k, nn - s = k := ⟨_, rfl⟩
      have oo := HO.out
      have ee : (nn : Int) - (s : Int) = (e : Int) := by omega
      have we : IntKind.i64.wrap (e : Int) = (e : Int) := by unfold IntKind.wrap; simp [IntKind.bits, IntKind.signed]; omega
      obtain ⟨L1, hL1a, hL1b, hTU⟩ := mid_made HF.out HE.out hs hr hE (by rw [HM.out.len]; exact h3) HT.out HT2.out
      have HEE := Lib.hid hE
      have HTU := Lib.hid hTU
      have HLA := Lib.hid hL1a
      have HLB := Lib.hid hL1b
      clear hE oo hL1a hL1b hTU
      go_upto_region 38 with fail
      go_cut [24] (fun v24 wx => v24 = .int .i64 (e : Int) ∧ wr = wx)
      case first =>
        go_wp2_with fail
        go_meet
        exact ⟨rfl, rfl⟩
      case rest =>
        obtain ⟨rfl, rfl⟩ := hcut
        refine (‹∀ (a_1 : Act) (w_1 : World), Code.wp Try.prog _ (bodyPost Try.prog Try.f142 _) a_1 w_1 → _›) _ _ ?_
        exact tail39_any w wr g ad n c L L1 a m b mid s e _ _ _ _ _ _ _ _ _ _ _ _ _ _ _ _ _ _ _ _ _ _ _ _ _ _ _ _ _ _ _ _ _ _ _ _ _ _ _ _ _ _ _ _ _ _ _ _ _ _ _ _ _ _ _ _ _ _ _ _ _ _ _ _ _ _ _ _ _ _ _ _ _ _ _ _ _ _ _ _ _ _ _ _ _ _ _ _ _ _ _ _ _ _ _ _ _ _ _ _ _ _ _ _ _ _ _ _ _ _ _ _ _ _ _ _ _ _ _ _ _ _ _ _ _ _ _ _ _ _ _ _ _ _ _ _ _ _ _ _ _ _ _ _ _ _ _ _ _ _ _ _ _ _ _ _ _ _ _ _ _ _ _ _ _ _ _ _ _ _ _ _ _ _ _ _ _ _ _ _ _ _ _ _ _ _ _ _ _ _ _ _ _ _ _ _ _ _ _ _ _ _ _ _ _ _ _ _ _ _ _ _ HREC (Lib.hid (by have := HO.out; omega)) HTU HM HB HLA HLB
/-- Two parts that are sorted become one, for any parts. -/
theorem nd_merge (g n c : Nat) (A : Option Addr) (hn : n ≤ 1000000) : ∀ (d : Nat) (w : World) (L : List EV) (a m b : Nat), b - a ≤ d → ML w g A n c L → a < m → m < b → b ≤ n → Srt a m L → Srt m b L → Calls Try.prog 142 #[.slice A n c, .int .i64 (a : Int), .int .i64 (m : Int), .int .i64 (b : Int), cmpV] w (MergePost w g A n c L a b) := by
  intro d
  induction d with
  | zero => intro w L a m b h1 _ h2 h3; omega
  | succ d ih =>
    intro w L a m b hd h h1 h2 h3 t1 t2
    by_cases c1 : a + 1 = m
    · exact sm_left w g A n c L a m b h c1 h2 h3 hn t2
    · by_cases c2 : m + 1 = b
      · exact sm_right w g A n c L a m b h (by omega) c2 h3 hn t1
      · obtain ⟨ad, hA⟩ : ∃ ad, A = some ad := by
          obtain ⟨ad, p, x, hA, -⟩ := h.at_ (i := a) (by omega)
          exact ⟨ad, hA⟩
        subst hA
        by_cases c3 : (a + b) / 2 < m
        · exact sm_oneA w g ad n c L a m b ((a + b) / 2) ((a + b) / 2 + m - b) ((a + b) / 2) ((a + b) / 2 + m) h ⟨rfl, rfl, by omega, .inl ⟨c3, by omega, rfl⟩⟩ h3 hn t1 t2 ⟨c3, by omega, rfl⟩ (fun w L a' m' b' e1 e2 e3 e4 e5 e6 e7 => ih w L a' m' b' (by omega) e2 e3 e4 e5 e6 e7)
        · exact sm_oneB w g ad n c L a m b ((a + b) / 2) a m ((a + b) / 2 + m) h ⟨rfl, rfl, by omega, .inr ⟨by omega, rfl, rfl⟩⟩ h3 hn t1 t2 ⟨by omega, rfl, rfl⟩ (fun w L a' m' b' e1 e2 e3 e4 e5 e6 e7 => ih w L a' m' b' (by omega) e2 e3 e4 e5 e6 e7)
end Go.Proofs.Ytaebmhbggbpnoaa
