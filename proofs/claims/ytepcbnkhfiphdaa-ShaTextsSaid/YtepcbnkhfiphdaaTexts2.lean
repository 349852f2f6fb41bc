/- The walk of ShaTexts. Conditions: each theorem's premises. -/
import Derived.Test.YtepcbnkhfiphdaaTexts1
namespace Go.Proofs.Ytepcbnkhfiphdaa
open Go.RowKit
set_option maxRecDepth 100000 in
set_option maxHeartbeats 1000000 in
theorem shaTexts_any (w : World) (a b : List UInt8) (ha : a.length = 32) (hb : b.length = 32) (s : ByteArray) :
    Calls Try.prog 6 #[.agg (NC a), .agg (NC b), .string s] w fun e w' => e = .returned (.bool true) ∧ Below w.heap.size w w' := by
  have h1 := Blk.alloc (Blk.new w 30 (NC a)) (.cells (NC b) 30)
  have h2 : Blk ((w.alloc (.cells (NC a) 30)).alloc (.cells (NC b) 30)) (w.heap.size + 1) 30 (NC b) := blk_new (by simp)
  have H1 := Lib.hid h1
  have H2 := Lib.hid h2
  have HA := Lib.hid ha
  have HB := Lib.hid hb
  have HW := Lib.hid (show Below w.heap.size w ((w.alloc (.cells (NC a) 30)).alloc (.cells (NC b) 30)) from ((Below.refl w.heap.size w).alloc (Nat.le_refl _) _).alloc (by simp) _)
  clear h1 h2 ha hb
  go_enter Try.func6, Try.ntmps6
  have hsz : ((w.alloc (.cells (NC a) 30)).alloc (.cells (NC b) 30)).heap.size = w.heap.size + 2 := by simp
  by_cases hs : s.size ≤ 200
  · have hs' : ¬ (200 : Int) < (s.size : Int) := by omega
    go_wp2_with fail
    obtain ⟨W0, hW0⟩ : ∃ W0, W0 = (w.alloc (.cells (NC a) 30)).alloc (.cells (NC b) 30) := ⟨_, rfl⟩
    rw [← hW0] at H1 H2 HW hsz
    rw [← hW0]
    clear hW0
    have HP := Lib.hid (fun w => parse_any w s)
    have HR := Lib.hid (fun w => rparse_any w s)
    obtain ⟨X, hX⟩ : ∃ X, X = (parseN s.data.toList).1 := ⟨_, rfl⟩
    obtain ⟨F, hF⟩ : ∃ F, F = (parseN s.data.toList).2 := ⟨_, rfl⟩
    have HXL := Lib.hid (parseN_len s.data.toList)
    rw [← hX, ← hF] at HP HR
    rw [← hX] at HXL
    clear hX hF
    have HQ : Hid (∀ w, Calls Try.prog 18 #[.string ⟨(Sha.hex a).toArray⟩] w fun e w' => e = .returned (.tuple #[.agg (NC a), .int .i64 0]) ∧ Below w.heap.size w w') := Lib.hid fun w => by
      have h := parse_any w ⟨(Sha.hex a).toArray⟩
      rw [show (⟨(Sha.hex a).toArray⟩ : ByteArray).data.toList = Sha.hex a from rfl, parse_hex a HA.out] at h
      exact h
    refine (HP.out W0).mono ?_
    rintro e w1 ⟨rfl, hb1⟩
    have HB1 := Lib.hid hb1
    have HX1 := Lib.hid (box30 w1)
    clear hb1
    go_wp2_with (refine wl_stN rfl (.tmp 7) (.tmp 21) rfl rfl HXL.out rfl HX1.out (UB.size _) ?_; intro w2 hb2 hg2)
    have HB2 := Lib.hid (same_add hg2)
    have HK2 := Lib.hid hb2
    clear hb2 hg2
    refine (HR.out w2).mono ?_
    rintro e w3 ⟨rfl, hb3⟩
    have HB3 := Lib.hid hb3
    have HX3 := Lib.hid (box30 w3)
    clear hb3
    go_wp2_with (first | (refine wl_stN rfl (.tmp 9) (.tmp 26) rfl rfl HXL.out rfl HX3.out (UB.size _) ?_; intro w4 hb4 hg4) | (refine wl_ldN rfl (.tmp 3) rfl rfl HA.out (H1.out.after ((HB1.out.trans (HB2.out.mono HB1.out.size)).trans ((HB3.out.trans ((same_add hg4).mono HB3.out.size)).mono (Nat.le_trans HB1.out.size HB2.out.size)))) ?_))
    have HB4 := Lib.hid (same_add hg4)
    have HK4 := Lib.hid hb4
    clear hb4 hg4
    refine (text_any w4 a HA.out).mono ?_
    rintro e w5 ⟨rfl, hb5⟩
    have HB5 := Lib.hid hb5
    clear hb5
    go_wp2_with fail
    refine (HQ.out w5).mono ?_
    rintro e w6 ⟨rfl, hb6⟩
    have HB6 := Lib.hid hb6
    have HX6 := Lib.hid (box30 w6)
    clear hb6
    have HLA : Hid (lessL a b = lessL a b) := Lib.hid rfl
    obtain ⟨p, hp⟩ : ∃ p, p = lessL a b := ⟨_, rfl⟩
    obtain ⟨q, hq⟩ : ∃ q, q = lessL b a := ⟨_, rfl⟩
    have HAB : Hid (∀ w, Calls Try.prog 21 #[.agg (NC a), .agg (NC b)] w fun e w' => e = .returned (.bool p) ∧ Below w.heap.size w w') := Lib.hid fun w => hp ▸ less_any w a b HA.out HB.out
    have HBA : Hid (∀ w, Calls Try.prog 21 #[.agg (NC b), .agg (NC a)] w fun e w' => e = .returned (.bool q) ∧ Below w.heap.size w w') := Lib.hid fun w => hq ▸ less_any w b a HB.out HA.out
    have HCM : Hid (∀ w, Calls Try.prog 23 #[.agg (NC a), .agg (NC b)] w fun e w' => e = .returned (.int .i64 (if q = true then 1 else if p = true then -1 else 0)) ∧ Below w.heap.size w w') := Lib.hid fun w => by
      have h := compare_any w a b HA.out HB.out
      rw [compare_less a b (by rw [HA.out, HB.out]), ← hp, ← hq] at h
      exact h
    clear hp hq HLA
    go_wp2_with (first | (refine wl_stN rfl (.tmp 11) (.tmp 32) rfl rfl HA.out rfl HX6.out (UB.size _) ?_; intro w7 hb7 hg7; have HT : Hid (Tx w w7 a b X w1.heap.size w3.heap.size w6.heap.size) := Lib.hid (by
      have c1 := HB1.out
      have c2 := HB2.out
      have c3 := HB3.out
      have c4 := HB4.out
      have c5 := HB5.out
      have c6 := HB6.out
      have c7 : Below w6.heap.size w6 w7 := same_add hg7
      have d6 : Below w5.heap.size w5 w7 := c6.trans (c7.mono c6.size)
      have d5 : Below w4.heap.size w4 w7 := c5.trans (d6.mono c5.size)
      have d4 : Below w3.heap.size w3 w7 := c4.trans (d5.mono c4.size)
      have d3 : Below w2.heap.size w2 w7 := c3.trans (d4.mono c3.size)
      have d2 : Below w1.heap.size w1 w7 := c2.trans (d3.mono c2.size)
      have d1 : Below W0.heap.size W0 w7 := c1.trans (d2.mono c1.size)
      exact ⟨H1.out.after d1, H2.out.after d1, HK2.out.after d3, HK4.out.after d5, hb7, HW.out.trans (d1.mono HW.out.size)⟩)) | (refine wl_ldN rfl (.tmp 3) rfl rfl HA.out HT.out.a0 ?_) | (refine wl_ldN rfl (.tmp 4) rfl rfl HB.out HT.out.b0 ?_))
    clear HB1 HB2 HB3 HB4 HB5 HB6 HK2 HK4 HX1 HX3 HX6 H1 H2 HW hb7 hg7
    refine (HAB.out w7).mono ?_
    rintro e w8 ⟨rfl, hb8⟩
    have HT8 := Lib.hid (HT.out.after hb8)
    clear hb8 HT
    cases p with
    | true =>
      go_wp2_with (first | (refine wl_ldN rfl (.tmp 3) rfl rfl HA.out HT8.out.a0 ?_) | (refine wl_ldN rfl (.tmp 4) rfl rfl HB.out HT8.out.b0 ?_))
      refine (HBA.out w8).mono ?_
      rintro e w9 ⟨rfl, hb9⟩
      have HT9 := Lib.hid (HT8.out.after hb9)
      clear hb9 HT8
      cases q with
      | true =>
        go_wp2_with fail
        refine wp_region_held_drew (S := fun w' => Hid (Tx w w' a b X w1.heap.size w3.heap.size w6.heap.size)) (by kernel_rfl) (Lib.hid (HT9.out.after ((Below.refl _ _).drew))) (fun hHeld => ?_)
        refine wpAnyH_take (i := 0) (oi := { dst := some 40, op := Op.load 30 (Operand.tmp 3), type := 30, pos := "law.go:84", after := #[], guard := none }) (v := _) rfl (by kernel_rfl) (by kernel_rfl) (by kernel_rfl) (fun _ _ _ h => h) (yields_at rfl rfl rfl HA.out (fun _ h => nc_at h.out.a0)) hHeld ?_
        try simp only [Act.put, List.setIfInBounds_toArray, List.set_cons_zero, List.set_cons_succ]
        refine wpAnyH_take (i := 2) (oi := { dst := some 42, op := Op.load 30 (Operand.tmp 3), type := 30, pos := "law.go:84", after := #[], guard := none }) (v := _) rfl (by kernel_rfl) (by kernel_rfl) (by kernel_rfl) (fun _ _ _ h => h) (yields_at rfl rfl rfl HA.out (fun _ h => nc_at h.out.a0)) hHeld ?_
        try simp only [Act.put, List.setIfInBounds_toArray, List.set_cons_zero, List.set_cons_succ]
        refine wpAnyH_ready (rs := [1]) (by kernel_rfl) (by simp) ?_
        refine AllReadyH.cons (o := { dst := some 41, op := Op.call { callee := Callee.value (Operand.func 20), args := #[Operand.tmp 40], argTypes := #[30] }, type := 9, pos := "law.go:84", after := #[{ on := 0, ground := Ground.data }], guard := none }) rfl (fun K hK => ?_) AllReadyH.nil
        go_simp
        refine (text_any _ a HA.out).mono ?_; rintro e w1 ⟨rfl, hb1⟩
        refine hK.out _ _ (Lib.hid (hHeld.out.after hb1)) (fun hHeld => ?_)
        clear hK K
        try simp only [Act.put, List.setIfInBounds_toArray, List.set_cons_zero, List.set_cons_succ]
        refine wpAnyH_ready (rs := [3]) (by kernel_rfl) (by simp) ?_
        refine AllReadyH.cons (o := { dst := some 43, op := Op.call { callee := Callee.value (Operand.func 22), args := #[Operand.tmp 42], argTypes := #[30] }, type := 9, pos := "law.go:84", after := #[{ on := 2, ground := Ground.data }, { on := 1, ground := Ground.chain }], guard := none }) rfl (fun K hK => ?_) AllReadyH.nil
        go_simp
        refine (rtext_any _ a HA.out).mono ?_; rintro e w3 ⟨rfl, hb3⟩
        refine hK.out _ _ (Lib.hid (hHeld.out.after hb3)) (fun hHeld => ?_)
        clear hK K
        try simp only [Act.put, List.setIfInBounds_toArray, List.set_cons_zero, List.set_cons_succ]
        refine wpAnyH_take (i := 4) (oi := { dst := some 44, op := Op.binOp BinOp.eql 9 (Operand.tmp 41) (Operand.tmp 43) 9, type := 4, pos := "law.go:84", after := #[{ on := 1, ground := Ground.data }, { on := 3, ground := Ground.data }], guard := none }) (v := ?vA4) rfl (by kernel_rfl) (by kernel_rfl) (by kernel_rfl) (fun _ _ _ h => h) (Or.inl ⟨by rfl, ?hyA4⟩) hHeld ?restA4
        case hyA4 => (intro w hSw; go_simp; try with_reducible rfl)
        try simp only [Act.put, List.setIfInBounds_toArray, List.set_cons_zero, List.set_cons_succ]
        refine wpAnyH_take (i := 5) (oi := { dst := some 45, op := Op.move (Operand.tmp 44), type := 4, pos := "law.go:84", after := #[{ on := 4, ground := Ground.data }, { on := 3, ground := Ground.chain }], guard := none }) (v := ?vA5) rfl (by kernel_rfl) (by kernel_rfl) (by kernel_rfl) (fun _ _ _ h => h) (Or.inl ⟨by rfl, ?hyA5⟩) hHeld ?restA5
        case hyA5 => (intro w hSw; go_simp; try with_reducible rfl)
        try simp only [Act.put, List.setIfInBounds_toArray, List.set_cons_zero, List.set_cons_succ]
        refine wpAnyH_take (i := 6) (oi := { dst := some 46, op := Op.load 30 (Operand.tmp 7), type := 30, pos := "law.go:84", after := #[{ on := 5, ground := Ground.guard }], guard := some (5, true) }) (v := _) rfl (by kernel_rfl) (by kernel_rfl) (by kernel_rfl) (fun _ _ _ h => h) (yields_at rfl rfl rfl HXL.out (fun _ h => nc_at h.out.x0)) hHeld ?_
        try simp only [Act.put, List.setIfInBounds_toArray, List.set_cons_zero, List.set_cons_succ]
        refine wpAnyH_take (i := 7) (oi := { dst := some 47, op := Op.load 30 (Operand.tmp 9), type := 30, pos := "law.go:84", after := #[{ on := 5, ground := Ground.guard }], guard := some (5, true) }) (v := _) rfl (by kernel_rfl) (by kernel_rfl) (by kernel_rfl) (fun _ _ _ h => h) (yields_at rfl rfl rfl HXL.out (fun _ h => nc_at h.out.y0)) hHeld ?_
        try simp only [Act.put, List.setIfInBounds_toArray, List.set_cons_zero, List.set_cons_succ]
        refine wpAnyH_take (i := 8) (oi := { dst := some 48, op := Op.binOp BinOp.eql 30 (Operand.tmp 46) (Operand.tmp 47) 30, type := 4, pos := "law.go:84", after := #[{ on := 6, ground := Ground.data }, { on := 7, ground := Ground.data }, { on := 5, ground := Ground.guard }], guard := some (5, true) }) (v := _) rfl (by kernel_rfl) (by kernel_rfl) (by kernel_rfl) (fun _ _ _ h => h) (yields_same rfl (.tmp 46) (.tmp 47) 30 rfl rfl rfl HXL.out) hHeld ?_
        try simp only [Act.put, List.setIfInBounds_toArray, List.set_cons_zero, List.set_cons_succ]
        refine wpAnyH_take (i := 9) (oi := { dst := some 49, op := Op.pick (Operand.tmp 45) (Operand.tmp 48) (Operand.const (Value.bool false)), type := 4, pos := "law.go:84", after := #[{ on := 5, ground := Ground.data }, { on := 8, ground := Ground.data }], guard := none }) (v := ?vA9) rfl (by kernel_rfl) (by kernel_rfl) (by kernel_rfl) (fun _ _ _ h => h) (Or.inl ⟨by rfl, ?hyA9⟩) hHeld ?restA9
        case hyA9 => (intro w hSw; go_simp; try with_reducible rfl)
        try simp only [Act.put, List.setIfInBounds_toArray, List.set_cons_zero, List.set_cons_succ]
        refine wpAnyH_take (i := 10) (oi := { dst := some 50, op := Op.move (Operand.tmp 49), type := 4, pos := "law.go:84", after := #[{ on := 9, ground := Ground.data }, { on := 5, ground := Ground.chain }], guard := none }) (v := ?vA10) rfl (by kernel_rfl) (by kernel_rfl) (by kernel_rfl) (fun _ _ _ h => h) (Or.inl ⟨by rfl, ?hyA10⟩) hHeld ?restA10
        case hyA10 => (intro w hSw; go_simp; try with_reducible rfl)
        try simp only [Act.put, List.setIfInBounds_toArray, List.set_cons_zero, List.set_cons_succ]
        refine wpAnyH_take (i := 11) (oi := { dst := some 51, op := Op.move (Operand.tmp 8), type := 43, pos := "law.go:84", after := #[{ on := 10, ground := Ground.guard }], guard := some (10, true) }) (v := ?vA11) rfl (by kernel_rfl) (by kernel_rfl) (by kernel_rfl) (fun _ _ _ h => h) (Or.inl ⟨by rfl, ?hyA11⟩) hHeld ?restA11
        case hyA11 => (intro w hSw; go_simp; try with_reducible rfl)
        try simp only [Act.put, List.setIfInBounds_toArray, List.set_cons_zero, List.set_cons_succ]
        refine wpAnyH_take (i := 12) (oi := { dst := some 52, op := Op.move (Operand.tmp 10), type := 43, pos := "law.go:84", after := #[{ on := 10, ground := Ground.guard }], guard := some (10, true) }) (v := ?vA12) rfl (by kernel_rfl) (by kernel_rfl) (by kernel_rfl) (fun _ _ _ h => h) (Or.inl ⟨by rfl, ?hyA12⟩) hHeld ?restA12
        case hyA12 => (intro w hSw; go_simp; try with_reducible rfl)
        try simp only [Act.put, List.setIfInBounds_toArray, List.set_cons_zero, List.set_cons_succ]
        refine wpAnyH_take (i := 13) (oi := { dst := some 53, op := Op.binOp BinOp.eql 43 (Operand.tmp 51) (Operand.tmp 52) 43, type := 4, pos := "law.go:84", after := #[{ on := 11, ground := Ground.data }, { on := 12, ground := Ground.data }, { on := 10, ground := Ground.guard }], guard := some (10, true) }) (v := ?vA13) rfl (by kernel_rfl) (by kernel_rfl) (by kernel_rfl) (fun _ _ _ h => h) (Or.inl ⟨by rfl, ?hyA13⟩) hHeld ?restA13
        case hyA13 => (intro w hSw; go_simp; try with_reducible rfl)
        try simp only [Act.put, List.setIfInBounds_toArray, List.set_cons_zero, List.set_cons_succ]
        refine wpAnyH_take (i := 14) (oi := { dst := some 54, op := Op.pick (Operand.tmp 50) (Operand.tmp 53) (Operand.const (Value.bool false)), type := 4, pos := "law.go:84", after := #[{ on := 10, ground := Ground.data }, { on := 13, ground := Ground.data }], guard := none }) (v := ?vA14) rfl (by kernel_rfl) (by kernel_rfl) (by kernel_rfl) (fun _ _ _ h => h) (Or.inl ⟨by rfl, ?hyA14⟩) hHeld ?restA14
        case hyA14 => (intro w hSw; go_simp; try with_reducible rfl)
        try simp only [Act.put, List.setIfInBounds_toArray, List.set_cons_zero, List.set_cons_succ]
        refine wpAnyH_take (i := 15) (oi := { dst := some 55, op := Op.move (Operand.tmp 54), type := 4, pos := "law.go:84", after := #[{ on := 14, ground := Ground.data }, { on := 10, ground := Ground.chain }], guard := none }) (v := ?vA15) rfl (by kernel_rfl) (by kernel_rfl) (by kernel_rfl) (fun _ _ _ h => h) (Or.inl ⟨by rfl, ?hyA15⟩) hHeld ?restA15
        case hyA15 => (intro w hSw; go_simp; try with_reducible rfl)
        try simp only [Act.put, List.setIfInBounds_toArray, List.set_cons_zero, List.set_cons_succ]
        refine wpAnyH_take (i := 16) (oi := { dst := some 56, op := Op.load 30 (Operand.tmp 11), type := 30, pos := "law.go:84", after := #[{ on := 15, ground := Ground.guard }], guard := some (15, true) }) (v := _) rfl (by kernel_rfl) (by kernel_rfl) (by kernel_rfl) (fun _ _ _ h => h) (yields_at rfl rfl rfl HA.out (fun _ h => nc_at h.out.z0)) hHeld ?_
        try simp only [Act.put, List.setIfInBounds_toArray, List.set_cons_zero, List.set_cons_succ]
        refine wpAnyH_take (i := 17) (oi := { dst := some 57, op := Op.load 30 (Operand.tmp 3), type := 30, pos := "law.go:84", after := #[{ on := 15, ground := Ground.guard }], guard := some (15, true) }) (v := _) rfl (by kernel_rfl) (by kernel_rfl) (by kernel_rfl) (fun _ _ _ h => h) (yields_at rfl rfl rfl HA.out (fun _ h => nc_at h.out.a0)) hHeld ?_
        try simp only [Act.put, List.setIfInBounds_toArray, List.set_cons_zero, List.set_cons_succ]
        refine wpAnyH_take (i := 18) (oi := { dst := some 58, op := Op.binOp BinOp.eql 30 (Operand.tmp 56) (Operand.tmp 57) 30, type := 4, pos := "law.go:84", after := #[{ on := 16, ground := Ground.data }, { on := 17, ground := Ground.data }, { on := 15, ground := Ground.guard }], guard := some (15, true) }) (v := _) rfl (by kernel_rfl) (by kernel_rfl) (by kernel_rfl) (fun _ _ _ h => h) (yields_same rfl (.tmp 56) (.tmp 57) 30 rfl rfl rfl HA.out) hHeld ?_
        try simp only [Act.put, List.setIfInBounds_toArray, List.set_cons_zero, List.set_cons_succ]
        refine wpAnyH_take (i := 19) (oi := { dst := some 59, op := Op.pick (Operand.tmp 55) (Operand.tmp 58) (Operand.const (Value.bool false)), type := 4, pos := "law.go:84", after := #[{ on := 15, ground := Ground.data }, { on := 18, ground := Ground.data }], guard := none }) (v := ?vA19) rfl (by kernel_rfl) (by kernel_rfl) (by kernel_rfl) (fun _ _ _ h => h) (Or.inl ⟨by rfl, ?hyA19⟩) hHeld ?restA19
        case hyA19 => (intro w hSw; go_simp; try with_reducible rfl)
        try simp only [Act.put, List.setIfInBounds_toArray, List.set_cons_zero, List.set_cons_succ]
        refine wpAnyH_take (i := 20) (oi := { dst := some 60, op := Op.move (Operand.tmp 59), type := 4, pos := "law.go:84", after := #[{ on := 19, ground := Ground.data }, { on := 15, ground := Ground.chain }], guard := none }) (v := ?vA20) rfl (by kernel_rfl) (by kernel_rfl) (by kernel_rfl) (fun _ _ _ h => h) (Or.inl ⟨by rfl, ?hyA20⟩) hHeld ?restA20
        case hyA20 => (intro w hSw; go_simp; try with_reducible rfl)
        try simp only [Act.put, List.setIfInBounds_toArray, List.set_cons_zero, List.set_cons_succ]
        refine wpAnyH_take (i := 21) (oi := { dst := some 61, op := Op.move (Operand.tmp 12), type := 43, pos := "law.go:84", after := #[{ on := 20, ground := Ground.guard }], guard := some (20, true) }) (v := ?vA21) rfl (by kernel_rfl) (by kernel_rfl) (by kernel_rfl) (fun _ _ _ h => h) (Or.inl ⟨by rfl, ?hyA21⟩) hHeld ?restA21
        case hyA21 => (intro w hSw; go_simp; try with_reducible rfl)
        try simp only [Act.put, List.setIfInBounds_toArray, List.set_cons_zero, List.set_cons_succ]
        refine wpAnyH_take (i := 22) (oi := { dst := some 62, op := Op.binOp BinOp.eql 43 (Operand.tmp 61) (Operand.const (Value.int IntKind.i64 0)) 43, type := 4, pos := "law.go:84", after := #[{ on := 21, ground := Ground.data }, { on := 20, ground := Ground.guard }], guard := some (20, true) }) (v := ?vA22) rfl (by kernel_rfl) (by kernel_rfl) (by kernel_rfl) (fun _ _ _ h => h) (Or.inl ⟨by rfl, ?hyA22⟩) hHeld ?restA22
        case hyA22 => (intro w hSw; go_simp; try with_reducible rfl)
        try simp only [Act.put, List.setIfInBounds_toArray, List.set_cons_zero, List.set_cons_succ]
        refine wpAnyH_take (i := 23) (oi := { dst := some 63, op := Op.pick (Operand.tmp 60) (Operand.tmp 62) (Operand.const (Value.bool false)), type := 4, pos := "law.go:84", after := #[{ on := 20, ground := Ground.data }, { on := 22, ground := Ground.data }], guard := none }) (v := ?vA23) rfl (by kernel_rfl) (by kernel_rfl) (by kernel_rfl) (fun _ _ _ h => h) (Or.inl ⟨by rfl, ?hyA23⟩) hHeld ?restA23
        case hyA23 => (intro w hSw; go_simp; try with_reducible rfl)
        try simp only [Act.put, List.setIfInBounds_toArray, List.set_cons_zero, List.set_cons_succ]
        refine wpAnyH_take (i := 24) (oi := { dst := some 64, op := Op.move (Operand.tmp 63), type := 4, pos := "law.go:84", after := #[{ on := 23, ground := Ground.data }, { on := 20, ground := Ground.chain }], guard := none }) (v := ?vA24) rfl (by kernel_rfl) (by kernel_rfl) (by kernel_rfl) (fun _ _ _ h => h) (Or.inl ⟨by rfl, ?hyA24⟩) hHeld ?restA24
        case hyA24 => (intro w hSw; go_simp; try with_reducible rfl)
        try simp only [Act.put, List.setIfInBounds_toArray, List.set_cons_zero, List.set_cons_succ]
        refine wpAnyH_take (i := 25) (oi := { dst := some 65, op := Op.load 30 (Operand.tmp 3), type := 30, pos := "law.go:84", after := #[{ on := 24, ground := Ground.guard }], guard := some (24, true) }) (v := _) rfl (by kernel_rfl) (by kernel_rfl) (by kernel_rfl) (fun _ _ _ h => h) (yields_at rfl rfl rfl HA.out (fun _ h => nc_at h.out.a0)) hHeld ?_
        try simp only [Act.put, List.setIfInBounds_toArray, List.set_cons_zero, List.set_cons_succ]
        refine wpAnyH_take (i := 26) (oi := { dst := some 66, op := Op.load 30 (Operand.tmp 4), type := 30, pos := "law.go:84", after := #[{ on := 24, ground := Ground.guard }], guard := some (24, true) }) (v := _) rfl (by kernel_rfl) (by kernel_rfl) (by kernel_rfl) (fun _ _ _ h => h) (yields_at rfl rfl rfl HB.out (fun _ h => nc_at h.out.b0)) hHeld ?_
        try simp only [Act.put, List.setIfInBounds_toArray, List.set_cons_zero, List.set_cons_succ]
        refine wpAnyH_take (i := 28) (oi := { dst := some 68, op := Op.move (Operand.tmp 13), type := 3, pos := "law.go:84", after := #[{ on := 24, ground := Ground.guard }], guard := some (24, true) }) (v := ?vA28) rfl (by kernel_rfl) (by kernel_rfl) (by kernel_rfl) (fun _ _ _ h => h) (Or.inl ⟨by rfl, ?hyA28⟩) hHeld ?restA28
        case hyA28 => (intro w hSw; go_simp; try with_reducible rfl)
        try simp only [Act.put, List.setIfInBounds_toArray, List.set_cons_zero, List.set_cons_succ]
        refine wpAnyH_ready (rs := [27]) (by kernel_rfl) (by simp) ?_
        refine AllReadyH.cons (o := { dst := some 67, op := Op.call { callee := Callee.value (Operand.func 23), args := #[Operand.tmp 65, Operand.tmp 66], argTypes := #[30, 30] }, type := 3, pos := "law.go:84", after := #[{ on := 25, ground := Ground.data }, { on := 26, ground := Ground.data }, { on := 24, ground := Ground.chain }, { on := 24, ground := Ground.guard }], guard := some (24, true) }) rfl (fun K hK => ?_) AllReadyH.nil
        go_simp
        refine (HCM.out _).mono ?_; rintro e w27 ⟨rfl, hb27⟩
        refine hK.out _ _ (Lib.hid (hHeld.out.after hb27)) (fun hHeld => ?_)
        clear hK K
        try simp only [Act.put, List.setIfInBounds_toArray, List.set_cons_zero, List.set_cons_succ]
        refine wpAnyH_take (i := 29) (oi := { dst := some 69, op := Op.binOp BinOp.eql 3 (Operand.tmp 67) (Operand.tmp 68) 3, type := 4, pos := "law.go:84", after := #[{ on := 27, ground := Ground.data }, { on := 28, ground := Ground.data }, { on := 24, ground := Ground.guard }], guard := some (24, true) }) (v := ?vA29) rfl (by kernel_rfl) (by kernel_rfl) (by kernel_rfl) (fun _ _ _ h => h) (Or.inl ⟨by rfl, ?hyA29⟩) hHeld ?restA29
        case hyA29 => (intro w hSw; go_simp; try with_reducible rfl)
        try simp only [Act.put, List.setIfInBounds_toArray, List.set_cons_zero, List.set_cons_succ]
        refine wpAnyH_take (i := 30) (oi := { dst := some 70, op := Op.pick (Operand.tmp 64) (Operand.tmp 69) (Operand.const (Value.bool false)), type := 4, pos := "law.go:84", after := #[{ on := 24, ground := Ground.data }, { on := 29, ground := Ground.data }], guard := none }) (v := ?vA30) rfl (by kernel_rfl) (by kernel_rfl) (by kernel_rfl) (fun _ _ _ h => h) (Or.inl ⟨by rfl, ?hyA30⟩) hHeld ?restA30
        case hyA30 => (intro w hSw; go_simp; try with_reducible rfl)
        try simp only [Act.put, List.setIfInBounds_toArray, List.set_cons_zero, List.set_cons_succ]
        refine wpAnyH_take (i := 31) (oi := { dst := some 71, op := Op.move (Operand.tmp 70), type := 4, pos := "law.go:84", after := #[{ on := 30, ground := Ground.data }, { on := 27, ground := Ground.chain }], guard := none }) (v := ?vA31) rfl (by kernel_rfl) (by kernel_rfl) (by kernel_rfl) (fun _ _ _ h => h) (Or.inl ⟨by rfl, ?hyA31⟩) hHeld ?restA31
        case hyA31 => (intro w hSw; go_simp; try with_reducible rfl)
        try simp only [Act.put, List.setIfInBounds_toArray, List.set_cons_zero, List.set_cons_succ]
        refine wpAnyH_ready (rs := [32]) (by kernel_rfl) (by simp) ?_
        refine AllReadyH.cons (o := { dst := some 72, op := Op.call { callee := Callee.value (Operand.func 7), args := #[], argTypes := #[] }, type := 4, pos := "law.go:84", after := #[{ on := 31, ground := Ground.chain }, { on := 31, ground := Ground.guard }], guard := some (31, true) }) rfl (fun K hK => ?_) AllReadyH.nil
        go_simp
        refine (alive_any _).mono ?_; rintro e w32 ⟨rfl, hb32⟩
        refine hK.out _ _ (Lib.hid (hHeld.out.after hb32)) (fun hHeld => ?_)
        clear hK K
        try simp only [Act.put, List.setIfInBounds_toArray, List.set_cons_zero, List.set_cons_succ]
        refine wpAnyH_take (i := 33) (oi := { dst := some 73, op := Op.pick (Operand.tmp 71) (Operand.tmp 72) (Operand.const (Value.bool false)), type := 4, pos := "law.go:84", after := #[{ on := 31, ground := Ground.data }, { on := 32, ground := Ground.data }], guard := none }) (v := ?vA33) rfl (by kernel_rfl) (by kernel_rfl) (by kernel_rfl) (fun _ _ _ h => h) (Or.inl ⟨by rfl, ?hyA33⟩) hHeld ?restA33
        case hyA33 => (intro w hSw; go_simp; try with_reducible rfl)
        try simp only [Act.put, List.setIfInBounds_toArray, List.set_cons_zero, List.set_cons_succ]
        refine wpAnyH_take (i := 34) (oi := { dst := some 6, op := Op.assign (Operand.tmp 73), type := 4, pos := "law.go:84", after := #[{ on := 33, ground := Ground.data }, { on := 32, ground := Ground.chain }, { on := 0, ground := Ground.phase }, { on := 1, ground := Ground.phase }, { on := 2, ground := Ground.phase }, { on := 3, ground := Ground.phase }, { on := 4, ground := Ground.phase }, { on := 5, ground := Ground.phase }, { on := 6, ground := Ground.phase }, { on := 7, ground := Ground.phase }, { on := 8, ground := Ground.phase }, { on := 9, ground := Ground.phase }, { on := 10, ground := Ground.phase }, { on := 11, ground := Ground.phase }, { on := 12, ground := Ground.phase }, { on := 13, ground := Ground.phase }, { on := 14, ground := Ground.phase }, { on := 15, ground := Ground.phase }, { on := 16, ground := Ground.phase }, { on := 17, ground := Ground.phase }, { on := 18, ground := Ground.phase }, { on := 19, ground := Ground.phase }, { on := 20, ground := Ground.phase }, { on := 21, ground := Ground.phase }, { on := 22, ground := Ground.phase }, { on := 23, ground := Ground.phase }, { on := 24, ground := Ground.phase }, { on := 25, ground := Ground.phase }, { on := 26, ground := Ground.phase }, { on := 27, ground := Ground.phase }, { on := 28, ground := Ground.phase }, { on := 29, ground := Ground.phase }, { on := 30, ground := Ground.phase }, { on := 31, ground := Ground.phase }, { on := 32, ground := Ground.phase }, { on := 33, ground := Ground.phase }], guard := none }) (v := ?vA34) rfl (by kernel_rfl) (by kernel_rfl) (by kernel_rfl) (fun _ _ _ h => h) (Or.inl ⟨by rfl, ?hyA34⟩) hHeld ?restA34
        case hyA34 => (intro w hSw; go_simp; try with_reducible rfl)
        try simp only [Act.put, List.setIfInBounds_toArray, List.set_cons_zero, List.set_cons_succ]
        refine wpAnyH_done (by kernel_rfl) ?_ _
        have HF := Lib.hid hHeld.out.bel
        go_wp2_with fail
        go_ret
        exact ⟨rfl, HF.out⟩
      | false =>
        go_wp2_with fail
        refine wp_region_held_drew (S := fun w' => Hid (Tx w w' a b X w1.heap.size w3.heap.size w6.heap.size)) (by kernel_rfl) (Lib.hid (HT9.out.after ((Below.refl _ _).drew))) (fun hHeld => ?_)
        refine wpAnyH_take (i := 0) (oi := { dst := some 40, op := Op.load 30 (Operand.tmp 3), type := 30, pos := "law.go:84", after := #[], guard := none }) (v := _) rfl (by kernel_rfl) (by kernel_rfl) (by kernel_rfl) (fun _ _ _ h => h) (yields_at rfl rfl rfl HA.out (fun _ h => nc_at h.out.a0)) hHeld ?_
        try simp only [Act.put, List.setIfInBounds_toArray, List.set_cons_zero, List.set_cons_succ]
        refine wpAnyH_take (i := 2) (oi := { dst := some 42, op := Op.load 30 (Operand.tmp 3), type := 30, pos := "law.go:84", after := #[], guard := none }) (v := _) rfl (by kernel_rfl) (by kernel_rfl) (by kernel_rfl) (fun _ _ _ h => h) (yields_at rfl rfl rfl HA.out (fun _ h => nc_at h.out.a0)) hHeld ?_
        try simp only [Act.put, List.setIfInBounds_toArray, List.set_cons_zero, List.set_cons_succ]
        refine wpAnyH_ready (rs := [1]) (by kernel_rfl) (by simp) ?_
        refine AllReadyH.cons (o := { dst := some 41, op := Op.call { callee := Callee.value (Operand.func 20), args := #[Operand.tmp 40], argTypes := #[30] }, type := 9, pos := "law.go:84", after := #[{ on := 0, ground := Ground.data }], guard := none }) rfl (fun K hK => ?_) AllReadyH.nil
        go_simp
        refine (text_any _ a HA.out).mono ?_; rintro e w1 ⟨rfl, hb1⟩
        refine hK.out _ _ (Lib.hid (hHeld.out.after hb1)) (fun hHeld => ?_)
        clear hK K
        try simp only [Act.put, List.setIfInBounds_toArray, List.set_cons_zero, List.set_cons_succ]
        refine wpAnyH_ready (rs := [3]) (by kernel_rfl) (by simp) ?_
        refine AllReadyH.cons (o := { dst := some 43, op := Op.call { callee := Callee.value (Operand.func 22), args := #[Operand.tmp 42], argTypes := #[30] }, type := 9, pos := "law.go:84", after := #[{ on := 2, ground := Ground.data }, { on := 1, ground := Ground.chain }], guard := none }) rfl (fun K hK => ?_) AllReadyH.nil
        go_simp
        refine (rtext_any _ a HA.out).mono ?_; rintro e w3 ⟨rfl, hb3⟩
        refine hK.out _ _ (Lib.hid (hHeld.out.after hb3)) (fun hHeld => ?_)
        clear hK K
        try simp only [Act.put, List.setIfInBounds_toArray, List.set_cons_zero, List.set_cons_succ]
        refine wpAnyH_take (i := 4) (oi := { dst := some 44, op := Op.binOp BinOp.eql 9 (Operand.tmp 41) (Operand.tmp 43) 9, type := 4, pos := "law.go:84", after := #[{ on := 1, ground := Ground.data }, { on := 3, ground := Ground.data }], guard := none }) (v := ?vB4) rfl (by kernel_rfl) (by kernel_rfl) (by kernel_rfl) (fun _ _ _ h => h) (Or.inl ⟨by rfl, ?hyB4⟩) hHeld ?restB4
        case hyB4 => (intro w hSw; go_simp; try with_reducible rfl)
        try simp only [Act.put, List.setIfInBounds_toArray, List.set_cons_zero, List.set_cons_succ]
        refine wpAnyH_take (i := 5) (oi := { dst := some 45, op := Op.move (Operand.tmp 44), type := 4, pos := "law.go:84", after := #[{ on := 4, ground := Ground.data }, { on := 3, ground := Ground.chain }], guard := none }) (v := ?vB5) rfl (by kernel_rfl) (by kernel_rfl) (by kernel_rfl) (fun _ _ _ h => h) (Or.inl ⟨by rfl, ?hyB5⟩) hHeld ?restB5
        case hyB5 => (intro w hSw; go_simp; try with_reducible rfl)
        try simp only [Act.put, List.setIfInBounds_toArray, List.set_cons_zero, List.set_cons_succ]
        refine wpAnyH_take (i := 6) (oi := { dst := some 46, op := Op.load 30 (Operand.tmp 7), type := 30, pos := "law.go:84", after := #[{ on := 5, ground := Ground.guard }], guard := some (5, true) }) (v := _) rfl (by kernel_rfl) (by kernel_rfl) (by kernel_rfl) (fun _ _ _ h => h) (yields_at rfl rfl rfl HXL.out (fun _ h => nc_at h.out.x0)) hHeld ?_
        try simp only [Act.put, List.setIfInBounds_toArray, List.set_cons_zero, List.set_cons_succ]
        refine wpAnyH_take (i := 7) (oi := { dst := some 47, op := Op.load 30 (Operand.tmp 9), type := 30, pos := "law.go:84", after := #[{ on := 5, ground := Ground.guard }], guard := some (5, true) }) (v := _) rfl (by kernel_rfl) (by kernel_rfl) (by kernel_rfl) (fun _ _ _ h => h) (yields_at rfl rfl rfl HXL.out (fun _ h => nc_at h.out.y0)) hHeld ?_
        try simp only [Act.put, List.setIfInBounds_toArray, List.set_cons_zero, List.set_cons_succ]
        refine wpAnyH_take (i := 8) (oi := { dst := some 48, op := Op.binOp BinOp.eql 30 (Operand.tmp 46) (Operand.tmp 47) 30, type := 4, pos := "law.go:84", after := #[{ on := 6, ground := Ground.data }, { on := 7, ground := Ground.data }, { on := 5, ground := Ground.guard }], guard := some (5, true) }) (v := _) rfl (by kernel_rfl) (by kernel_rfl) (by kernel_rfl) (fun _ _ _ h => h) (yields_same rfl (.tmp 46) (.tmp 47) 30 rfl rfl rfl HXL.out) hHeld ?_
        try simp only [Act.put, List.setIfInBounds_toArray, List.set_cons_zero, List.set_cons_succ]
        refine wpAnyH_take (i := 9) (oi := { dst := some 49, op := Op.pick (Operand.tmp 45) (Operand.tmp 48) (Operand.const (Value.bool false)), type := 4, pos := "law.go:84", after := #[{ on := 5, ground := Ground.data }, { on := 8, ground := Ground.data }], guard := none }) (v := ?vB9) rfl (by kernel_rfl) (by kernel_rfl) (by kernel_rfl) (fun _ _ _ h => h) (Or.inl ⟨by rfl, ?hyB9⟩) hHeld ?restB9
        case hyB9 => (intro w hSw; go_simp; try with_reducible rfl)
        try simp only [Act.put, List.setIfInBounds_toArray, List.set_cons_zero, List.set_cons_succ]
        refine wpAnyH_take (i := 10) (oi := { dst := some 50, op := Op.move (Operand.tmp 49), type := 4, pos := "law.go:84", after := #[{ on := 9, ground := Ground.data }, { on := 5, ground := Ground.chain }], guard := none }) (v := ?vB10) rfl (by kernel_rfl) (by kernel_rfl) (by kernel_rfl) (fun _ _ _ h => h) (Or.inl ⟨by rfl, ?hyB10⟩) hHeld ?restB10
        case hyB10 => (intro w hSw; go_simp; try with_reducible rfl)
        try simp only [Act.put, List.setIfInBounds_toArray, List.set_cons_zero, List.set_cons_succ]
        refine wpAnyH_take (i := 11) (oi := { dst := some 51, op := Op.move (Operand.tmp 8), type := 43, pos := "law.go:84", after := #[{ on := 10, ground := Ground.guard }], guard := some (10, true) }) (v := ?vB11) rfl (by kernel_rfl) (by kernel_rfl) (by kernel_rfl) (fun _ _ _ h => h) (Or.inl ⟨by rfl, ?hyB11⟩) hHeld ?restB11
        case hyB11 => (intro w hSw; go_simp; try with_reducible rfl)
        try simp only [Act.put, List.setIfInBounds_toArray, List.set_cons_zero, List.set_cons_succ]
        refine wpAnyH_take (i := 12) (oi := { dst := some 52, op := Op.move (Operand.tmp 10), type := 43, pos := "law.go:84", after := #[{ on := 10, ground := Ground.guard }], guard := some (10, true) }) (v := ?vB12) rfl (by kernel_rfl) (by kernel_rfl) (by kernel_rfl) (fun _ _ _ h => h) (Or.inl ⟨by rfl, ?hyB12⟩) hHeld ?restB12
        case hyB12 => (intro w hSw; go_simp; try with_reducible rfl)
        try simp only [Act.put, List.setIfInBounds_toArray, List.set_cons_zero, List.set_cons_succ]
        refine wpAnyH_take (i := 13) (oi := { dst := some 53, op := Op.binOp BinOp.eql 43 (Operand.tmp 51) (Operand.tmp 52) 43, type := 4, pos := "law.go:84", after := #[{ on := 11, ground := Ground.data }, { on := 12, ground := Ground.data }, { on := 10, ground := Ground.guard }], guard := some (10, true) }) (v := ?vB13) rfl (by kernel_rfl) (by kernel_rfl) (by kernel_rfl) (fun _ _ _ h => h) (Or.inl ⟨by rfl, ?hyB13⟩) hHeld ?restB13
        case hyB13 => (intro w hSw; go_simp; try with_reducible rfl)
        try simp only [Act.put, List.setIfInBounds_toArray, List.set_cons_zero, List.set_cons_succ]
        refine wpAnyH_take (i := 14) (oi := { dst := some 54, op := Op.pick (Operand.tmp 50) (Operand.tmp 53) (Operand.const (Value.bool false)), type := 4, pos := "law.go:84", after := #[{ on := 10, ground := Ground.data }, { on := 13, ground := Ground.data }], guard := none }) (v := ?vB14) rfl (by kernel_rfl) (by kernel_rfl) (by kernel_rfl) (fun _ _ _ h => h) (Or.inl ⟨by rfl, ?hyB14⟩) hHeld ?restB14
        case hyB14 => (intro w hSw; go_simp; try with_reducible rfl)
        try simp only [Act.put, List.setIfInBounds_toArray, List.set_cons_zero, List.set_cons_succ]
        refine wpAnyH_take (i := 15) (oi := { dst := some 55, op := Op.move (Operand.tmp 54), type := 4, pos := "law.go:84", after := #[{ on := 14, ground := Ground.data }, { on := 10, ground := Ground.chain }], guard := none }) (v := ?vB15) rfl (by kernel_rfl) (by kernel_rfl) (by kernel_rfl) (fun _ _ _ h => h) (Or.inl ⟨by rfl, ?hyB15⟩) hHeld ?restB15
        case hyB15 => (intro w hSw; go_simp; try with_reducible rfl)
        try simp only [Act.put, List.setIfInBounds_toArray, List.set_cons_zero, List.set_cons_succ]
        refine wpAnyH_take (i := 16) (oi := { dst := some 56, op := Op.load 30 (Operand.tmp 11), type := 30, pos := "law.go:84", after := #[{ on := 15, ground := Ground.guard }], guard := some (15, true) }) (v := _) rfl (by kernel_rfl) (by kernel_rfl) (by kernel_rfl) (fun _ _ _ h => h) (yields_at rfl rfl rfl HA.out (fun _ h => nc_at h.out.z0)) hHeld ?_
        try simp only [Act.put, List.setIfInBounds_toArray, List.set_cons_zero, List.set_cons_succ]
        refine wpAnyH_take (i := 17) (oi := { dst := some 57, op := Op.load 30 (Operand.tmp 3), type := 30, pos := "law.go:84", after := #[{ on := 15, ground := Ground.guard }], guard := some (15, true) }) (v := _) rfl (by kernel_rfl) (by kernel_rfl) (by kernel_rfl) (fun _ _ _ h => h) (yields_at rfl rfl rfl HA.out (fun _ h => nc_at h.out.a0)) hHeld ?_
        try simp only [Act.put, List.setIfInBounds_toArray, List.set_cons_zero, List.set_cons_succ]
        refine wpAnyH_take (i := 18) (oi := { dst := some 58, op := Op.binOp BinOp.eql 30 (Operand.tmp 56) (Operand.tmp 57) 30, type := 4, pos := "law.go:84", after := #[{ on := 16, ground := Ground.data }, { on := 17, ground := Ground.data }, { on := 15, ground := Ground.guard }], guard := some (15, true) }) (v := _) rfl (by kernel_rfl) (by kernel_rfl) (by kernel_rfl) (fun _ _ _ h => h) (yields_same rfl (.tmp 56) (.tmp 57) 30 rfl rfl rfl HA.out) hHeld ?_
        try simp only [Act.put, List.setIfInBounds_toArray, List.set_cons_zero, List.set_cons_succ]
        refine wpAnyH_take (i := 19) (oi := { dst := some 59, op := Op.pick (Operand.tmp 55) (Operand.tmp 58) (Operand.const (Value.bool false)), type := 4, pos := "law.go:84", after := #[{ on := 15, ground := Ground.data }, { on := 18, ground := Ground.data }], guard := none }) (v := ?vB19) rfl (by kernel_rfl) (by kernel_rfl) (by kernel_rfl) (fun _ _ _ h => h) (Or.inl ⟨by rfl, ?hyB19⟩) hHeld ?restB19
        case hyB19 => (intro w hSw; go_simp; try with_reducible rfl)
        try simp only [Act.put, List.setIfInBounds_toArray, List.set_cons_zero, List.set_cons_succ]
        refine wpAnyH_take (i := 20) (oi := { dst := some 60, op := Op.move (Operand.tmp 59), type := 4, pos := "law.go:84", after := #[{ on := 19, ground := Ground.data }, { on := 15, ground := Ground.chain }], guard := none }) (v := ?vB20) rfl (by kernel_rfl) (by kernel_rfl) (by kernel_rfl) (fun _ _ _ h => h) (Or.inl ⟨by rfl, ?hyB20⟩) hHeld ?restB20
        case hyB20 => (intro w hSw; go_simp; try with_reducible rfl)
        try simp only [Act.put, List.setIfInBounds_toArray, List.set_cons_zero, List.set_cons_succ]
        refine wpAnyH_take (i := 21) (oi := { dst := some 61, op := Op.move (Operand.tmp 12), type := 43, pos := "law.go:84", after := #[{ on := 20, ground := Ground.guard }], guard := some (20, true) }) (v := ?vB21) rfl (by kernel_rfl) (by kernel_rfl) (by kernel_rfl) (fun _ _ _ h => h) (Or.inl ⟨by rfl, ?hyB21⟩) hHeld ?restB21
        case hyB21 => (intro w hSw; go_simp; try with_reducible rfl)
        try simp only [Act.put, List.setIfInBounds_toArray, List.set_cons_zero, List.set_cons_succ]
        refine wpAnyH_take (i := 22) (oi := { dst := some 62, op := Op.binOp BinOp.eql 43 (Operand.tmp 61) (Operand.const (Value.int IntKind.i64 0)) 43, type := 4, pos := "law.go:84", after := #[{ on := 21, ground := Ground.data }, { on := 20, ground := Ground.guard }], guard := some (20, true) }) (v := ?vB22) rfl (by kernel_rfl) (by kernel_rfl) (by kernel_rfl) (fun _ _ _ h => h) (Or.inl ⟨by rfl, ?hyB22⟩) hHeld ?restB22
        case hyB22 => (intro w hSw; go_simp; try with_reducible rfl)
        try simp only [Act.put, List.setIfInBounds_toArray, List.set_cons_zero, List.set_cons_succ]
        refine wpAnyH_take (i := 23) (oi := { dst := some 63, op := Op.pick (Operand.tmp 60) (Operand.tmp 62) (Operand.const (Value.bool false)), type := 4, pos := "law.go:84", after := #[{ on := 20, ground := Ground.data }, { on := 22, ground := Ground.data }], guard := none }) (v := ?vB23) rfl (by kernel_rfl) (by kernel_rfl) (by kernel_rfl) (fun _ _ _ h => h) (Or.inl ⟨by rfl, ?hyB23⟩) hHeld ?restB23
        case hyB23 => (intro w hSw; go_simp; try with_reducible rfl)
        try simp only [Act.put, List.setIfInBounds_toArray, List.set_cons_zero, List.set_cons_succ]
        refine wpAnyH_take (i := 24) (oi := { dst := some 64, op := Op.move (Operand.tmp 63), type := 4, pos := "law.go:84", after := #[{ on := 23, ground := Ground.data }, { on := 20, ground := Ground.chain }], guard := none }) (v := ?vB24) rfl (by kernel_rfl) (by kernel_rfl) (by kernel_rfl) (fun _ _ _ h => h) (Or.inl ⟨by rfl, ?hyB24⟩) hHeld ?restB24
        case hyB24 => (intro w hSw; go_simp; try with_reducible rfl)
        try simp only [Act.put, List.setIfInBounds_toArray, List.set_cons_zero, List.set_cons_succ]
        refine wpAnyH_take (i := 25) (oi := { dst := some 65, op := Op.load 30 (Operand.tmp 3), type := 30, pos := "law.go:84", after := #[{ on := 24, ground := Ground.guard }], guard := some (24, true) }) (v := _) rfl (by kernel_rfl) (by kernel_rfl) (by kernel_rfl) (fun _ _ _ h => h) (yields_at rfl rfl rfl HA.out (fun _ h => nc_at h.out.a0)) hHeld ?_
        try simp only [Act.put, List.setIfInBounds_toArray, List.set_cons_zero, List.set_cons_succ]
        refine wpAnyH_take (i := 26) (oi := { dst := some 66, op := Op.load 30 (Operand.tmp 4), type := 30, pos := "law.go:84", after := #[{ on := 24, ground := Ground.guard }], guard := some (24, true) }) (v := _) rfl (by kernel_rfl) (by kernel_rfl) (by kernel_rfl) (fun _ _ _ h => h) (yields_at rfl rfl rfl HB.out (fun _ h => nc_at h.out.b0)) hHeld ?_
        try simp only [Act.put, List.setIfInBounds_toArray, List.set_cons_zero, List.set_cons_succ]
        refine wpAnyH_take (i := 28) (oi := { dst := some 68, op := Op.move (Operand.tmp 13), type := 3, pos := "law.go:84", after := #[{ on := 24, ground := Ground.guard }], guard := some (24, true) }) (v := ?vB28) rfl (by kernel_rfl) (by kernel_rfl) (by kernel_rfl) (fun _ _ _ h => h) (Or.inl ⟨by rfl, ?hyB28⟩) hHeld ?restB28
        case hyB28 => (intro w hSw; go_simp; try with_reducible rfl)
        try simp only [Act.put, List.setIfInBounds_toArray, List.set_cons_zero, List.set_cons_succ]
        refine wpAnyH_ready (rs := [27]) (by kernel_rfl) (by simp) ?_
        refine AllReadyH.cons (o := { dst := some 67, op := Op.call { callee := Callee.value (Operand.func 23), args := #[Operand.tmp 65, Operand.tmp 66], argTypes := #[30, 30] }, type := 3, pos := "law.go:84", after := #[{ on := 25, ground := Ground.data }, { on := 26, ground := Ground.data }, { on := 24, ground := Ground.chain }, { on := 24, ground := Ground.guard }], guard := some (24, true) }) rfl (fun K hK => ?_) AllReadyH.nil
        go_simp
        refine (HCM.out _).mono ?_; rintro e w27 ⟨rfl, hb27⟩
        refine hK.out _ _ (Lib.hid (hHeld.out.after hb27)) (fun hHeld => ?_)
        clear hK K
        try simp only [Act.put, List.setIfInBounds_toArray, List.set_cons_zero, List.set_cons_succ]
        refine wpAnyH_take (i := 29) (oi := { dst := some 69, op := Op.binOp BinOp.eql 3 (Operand.tmp 67) (Operand.tmp 68) 3, type := 4, pos := "law.go:84", after := #[{ on := 27, ground := Ground.data }, { on := 28, ground := Ground.data }, { on := 24, ground := Ground.guard }], guard := some (24, true) }) (v := ?vB29) rfl (by kernel_rfl) (by kernel_rfl) (by kernel_rfl) (fun _ _ _ h => h) (Or.inl ⟨by rfl, ?hyB29⟩) hHeld ?restB29
        case hyB29 => (intro w hSw; go_simp; try with_reducible rfl)
        try simp only [Act.put, List.setIfInBounds_toArray, List.set_cons_zero, List.set_cons_succ]
        refine wpAnyH_take (i := 30) (oi := { dst := some 70, op := Op.pick (Operand.tmp 64) (Operand.tmp 69) (Operand.const (Value.bool false)), type := 4, pos := "law.go:84", after := #[{ on := 24, ground := Ground.data }, { on := 29, ground := Ground.data }], guard := none }) (v := ?vB30) rfl (by kernel_rfl) (by kernel_rfl) (by kernel_rfl) (fun _ _ _ h => h) (Or.inl ⟨by rfl, ?hyB30⟩) hHeld ?restB30
        case hyB30 => (intro w hSw; go_simp; try with_reducible rfl)
        try simp only [Act.put, List.setIfInBounds_toArray, List.set_cons_zero, List.set_cons_succ]
        refine wpAnyH_take (i := 31) (oi := { dst := some 71, op := Op.move (Operand.tmp 70), type := 4, pos := "law.go:84", after := #[{ on := 30, ground := Ground.data }, { on := 27, ground := Ground.chain }], guard := none }) (v := ?vB31) rfl (by kernel_rfl) (by kernel_rfl) (by kernel_rfl) (fun _ _ _ h => h) (Or.inl ⟨by rfl, ?hyB31⟩) hHeld ?restB31
        case hyB31 => (intro w hSw; go_simp; try with_reducible rfl)
        try simp only [Act.put, List.setIfInBounds_toArray, List.set_cons_zero, List.set_cons_succ]
        refine wpAnyH_ready (rs := [32]) (by kernel_rfl) (by simp) ?_
        refine AllReadyH.cons (o := { dst := some 72, op := Op.call { callee := Callee.value (Operand.func 7), args := #[], argTypes := #[] }, type := 4, pos := "law.go:84", after := #[{ on := 31, ground := Ground.chain }, { on := 31, ground := Ground.guard }], guard := some (31, true) }) rfl (fun K hK => ?_) AllReadyH.nil
        go_simp
        refine (alive_any _).mono ?_; rintro e w32 ⟨rfl, hb32⟩
        refine hK.out _ _ (Lib.hid (hHeld.out.after hb32)) (fun hHeld => ?_)
        clear hK K
        try simp only [Act.put, List.setIfInBounds_toArray, List.set_cons_zero, List.set_cons_succ]
        refine wpAnyH_take (i := 33) (oi := { dst := some 73, op := Op.pick (Operand.tmp 71) (Operand.tmp 72) (Operand.const (Value.bool false)), type := 4, pos := "law.go:84", after := #[{ on := 31, ground := Ground.data }, { on := 32, ground := Ground.data }], guard := none }) (v := ?vB33) rfl (by kernel_rfl) (by kernel_rfl) (by kernel_rfl) (fun _ _ _ h => h) (Or.inl ⟨by rfl, ?hyB33⟩) hHeld ?restB33
        case hyB33 => (intro w hSw; go_simp; try with_reducible rfl)
        try simp only [Act.put, List.setIfInBounds_toArray, List.set_cons_zero, List.set_cons_succ]
        refine wpAnyH_take (i := 34) (oi := { dst := some 6, op := Op.assign (Operand.tmp 73), type := 4, pos := "law.go:84", after := #[{ on := 33, ground := Ground.data }, { on := 32, ground := Ground.chain }, { on := 0, ground := Ground.phase }, { on := 1, ground := Ground.phase }, { on := 2, ground := Ground.phase }, { on := 3, ground := Ground.phase }, { on := 4, ground := Ground.phase }, { on := 5, ground := Ground.phase }, { on := 6, ground := Ground.phase }, { on := 7, ground := Ground.phase }, { on := 8, ground := Ground.phase }, { on := 9, ground := Ground.phase }, { on := 10, ground := Ground.phase }, { on := 11, ground := Ground.phase }, { on := 12, ground := Ground.phase }, { on := 13, ground := Ground.phase }, { on := 14, ground := Ground.phase }, { on := 15, ground := Ground.phase }, { on := 16, ground := Ground.phase }, { on := 17, ground := Ground.phase }, { on := 18, ground := Ground.phase }, { on := 19, ground := Ground.phase }, { on := 20, ground := Ground.phase }, { on := 21, ground := Ground.phase }, { on := 22, ground := Ground.phase }, { on := 23, ground := Ground.phase }, { on := 24, ground := Ground.phase }, { on := 25, ground := Ground.phase }, { on := 26, ground := Ground.phase }, { on := 27, ground := Ground.phase }, { on := 28, ground := Ground.phase }, { on := 29, ground := Ground.phase }, { on := 30, ground := Ground.phase }, { on := 31, ground := Ground.phase }, { on := 32, ground := Ground.phase }, { on := 33, ground := Ground.phase }], guard := none }) (v := ?vB34) rfl (by kernel_rfl) (by kernel_rfl) (by kernel_rfl) (fun _ _ _ h => h) (Or.inl ⟨by rfl, ?hyB34⟩) hHeld ?restB34
        case hyB34 => (intro w hSw; go_simp; try with_reducible rfl)
        try simp only [Act.put, List.setIfInBounds_toArray, List.set_cons_zero, List.set_cons_succ]
        refine wpAnyH_done (by kernel_rfl) ?_ _
        have HF := Lib.hid hHeld.out.bel
        go_wp2_with fail
        go_ret
        exact ⟨rfl, HF.out⟩
    | false =>
      go_wp2_with (first | (refine wl_ldN rfl (.tmp 3) rfl rfl HA.out HT8.out.a0 ?_) | (refine wl_ldN rfl (.tmp 4) rfl rfl HB.out HT8.out.b0 ?_))
      refine (HBA.out w8).mono ?_
      rintro e w9 ⟨rfl, hb9⟩
      have HT9 := Lib.hid (HT8.out.after hb9)
      clear hb9 HT8
      cases q with
      | true =>
        go_wp2_with fail
        refine wp_region_held_drew (S := fun w' => Hid (Tx w w' a b X w1.heap.size w3.heap.size w6.heap.size)) (by kernel_rfl) (Lib.hid (HT9.out.after ((Below.refl _ _).drew))) (fun hHeld => ?_)
        refine wpAnyH_take (i := 0) (oi := { dst := some 40, op := Op.load 30 (Operand.tmp 3), type := 30, pos := "law.go:84", after := #[], guard := none }) (v := _) rfl (by kernel_rfl) (by kernel_rfl) (by kernel_rfl) (fun _ _ _ h => h) (yields_at rfl rfl rfl HA.out (fun _ h => nc_at h.out.a0)) hHeld ?_
        try simp only [Act.put, List.setIfInBounds_toArray, List.set_cons_zero, List.set_cons_succ]
        refine wpAnyH_take (i := 2) (oi := { dst := some 42, op := Op.load 30 (Operand.tmp 3), type := 30, pos := "law.go:84", after := #[], guard := none }) (v := _) rfl (by kernel_rfl) (by kernel_rfl) (by kernel_rfl) (fun _ _ _ h => h) (yields_at rfl rfl rfl HA.out (fun _ h => nc_at h.out.a0)) hHeld ?_
        try simp only [Act.put, List.setIfInBounds_toArray, List.set_cons_zero, List.set_cons_succ]
        refine wpAnyH_ready (rs := [1]) (by kernel_rfl) (by simp) ?_
        refine AllReadyH.cons (o := { dst := some 41, op := Op.call { callee := Callee.value (Operand.func 20), args := #[Operand.tmp 40], argTypes := #[30] }, type := 9, pos := "law.go:84", after := #[{ on := 0, ground := Ground.data }], guard := none }) rfl (fun K hK => ?_) AllReadyH.nil
        go_simp
        refine (text_any _ a HA.out).mono ?_; rintro e w1 ⟨rfl, hb1⟩
        refine hK.out _ _ (Lib.hid (hHeld.out.after hb1)) (fun hHeld => ?_)
        clear hK K
        try simp only [Act.put, List.setIfInBounds_toArray, List.set_cons_zero, List.set_cons_succ]
        refine wpAnyH_ready (rs := [3]) (by kernel_rfl) (by simp) ?_
        refine AllReadyH.cons (o := { dst := some 43, op := Op.call { callee := Callee.value (Operand.func 22), args := #[Operand.tmp 42], argTypes := #[30] }, type := 9, pos := "law.go:84", after := #[{ on := 2, ground := Ground.data }, { on := 1, ground := Ground.chain }], guard := none }) rfl (fun K hK => ?_) AllReadyH.nil
        go_simp
        refine (rtext_any _ a HA.out).mono ?_; rintro e w3 ⟨rfl, hb3⟩
        refine hK.out _ _ (Lib.hid (hHeld.out.after hb3)) (fun hHeld => ?_)
        clear hK K
        try simp only [Act.put, List.setIfInBounds_toArray, List.set_cons_zero, List.set_cons_succ]
        refine wpAnyH_take (i := 4) (oi := { dst := some 44, op := Op.binOp BinOp.eql 9 (Operand.tmp 41) (Operand.tmp 43) 9, type := 4, pos := "law.go:84", after := #[{ on := 1, ground := Ground.data }, { on := 3, ground := Ground.data }], guard := none }) (v := ?vC4) rfl (by kernel_rfl) (by kernel_rfl) (by kernel_rfl) (fun _ _ _ h => h) (Or.inl ⟨by rfl, ?hyC4⟩) hHeld ?restC4
        case hyC4 => (intro w hSw; go_simp; try with_reducible rfl)
        try simp only [Act.put, List.setIfInBounds_toArray, List.set_cons_zero, List.set_cons_succ]
        refine wpAnyH_take (i := 5) (oi := { dst := some 45, op := Op.move (Operand.tmp 44), type := 4, pos := "law.go:84", after := #[{ on := 4, ground := Ground.data }, { on := 3, ground := Ground.chain }], guard := none }) (v := ?vC5) rfl (by kernel_rfl) (by kernel_rfl) (by kernel_rfl) (fun _ _ _ h => h) (Or.inl ⟨by rfl, ?hyC5⟩) hHeld ?restC5
        case hyC5 => (intro w hSw; go_simp; try with_reducible rfl)
        try simp only [Act.put, List.setIfInBounds_toArray, List.set_cons_zero, List.set_cons_succ]
        refine wpAnyH_take (i := 6) (oi := { dst := some 46, op := Op.load 30 (Operand.tmp 7), type := 30, pos := "law.go:84", after := #[{ on := 5, ground := Ground.guard }], guard := some (5, true) }) (v := _) rfl (by kernel_rfl) (by kernel_rfl) (by kernel_rfl) (fun _ _ _ h => h) (yields_at rfl rfl rfl HXL.out (fun _ h => nc_at h.out.x0)) hHeld ?_
        try simp only [Act.put, List.setIfInBounds_toArray, List.set_cons_zero, List.set_cons_succ]
        refine wpAnyH_take (i := 7) (oi := { dst := some 47, op := Op.load 30 (Operand.tmp 9), type := 30, pos := "law.go:84", after := #[{ on := 5, ground := Ground.guard }], guard := some (5, true) }) (v := _) rfl (by kernel_rfl) (by kernel_rfl) (by kernel_rfl) (fun _ _ _ h => h) (yields_at rfl rfl rfl HXL.out (fun _ h => nc_at h.out.y0)) hHeld ?_
        try simp only [Act.put, List.setIfInBounds_toArray, List.set_cons_zero, List.set_cons_succ]
        refine wpAnyH_take (i := 8) (oi := { dst := some 48, op := Op.binOp BinOp.eql 30 (Operand.tmp 46) (Operand.tmp 47) 30, type := 4, pos := "law.go:84", after := #[{ on := 6, ground := Ground.data }, { on := 7, ground := Ground.data }, { on := 5, ground := Ground.guard }], guard := some (5, true) }) (v := _) rfl (by kernel_rfl) (by kernel_rfl) (by kernel_rfl) (fun _ _ _ h => h) (yields_same rfl (.tmp 46) (.tmp 47) 30 rfl rfl rfl HXL.out) hHeld ?_
        try simp only [Act.put, List.setIfInBounds_toArray, List.set_cons_zero, List.set_cons_succ]
        refine wpAnyH_take (i := 9) (oi := { dst := some 49, op := Op.pick (Operand.tmp 45) (Operand.tmp 48) (Operand.const (Value.bool false)), type := 4, pos := "law.go:84", after := #[{ on := 5, ground := Ground.data }, { on := 8, ground := Ground.data }], guard := none }) (v := ?vC9) rfl (by kernel_rfl) (by kernel_rfl) (by kernel_rfl) (fun _ _ _ h => h) (Or.inl ⟨by rfl, ?hyC9⟩) hHeld ?restC9
        case hyC9 => (intro w hSw; go_simp; try with_reducible rfl)
        try simp only [Act.put, List.setIfInBounds_toArray, List.set_cons_zero, List.set_cons_succ]
        refine wpAnyH_take (i := 10) (oi := { dst := some 50, op := Op.move (Operand.tmp 49), type := 4, pos := "law.go:84", after := #[{ on := 9, ground := Ground.data }, { on := 5, ground := Ground.chain }], guard := none }) (v := ?vC10) rfl (by kernel_rfl) (by kernel_rfl) (by kernel_rfl) (fun _ _ _ h => h) (Or.inl ⟨by rfl, ?hyC10⟩) hHeld ?restC10
        case hyC10 => (intro w hSw; go_simp; try with_reducible rfl)
        try simp only [Act.put, List.setIfInBounds_toArray, List.set_cons_zero, List.set_cons_succ]
        refine wpAnyH_take (i := 11) (oi := { dst := some 51, op := Op.move (Operand.tmp 8), type := 43, pos := "law.go:84", after := #[{ on := 10, ground := Ground.guard }], guard := some (10, true) }) (v := ?vC11) rfl (by kernel_rfl) (by kernel_rfl) (by kernel_rfl) (fun _ _ _ h => h) (Or.inl ⟨by rfl, ?hyC11⟩) hHeld ?restC11
        case hyC11 => (intro w hSw; go_simp; try with_reducible rfl)
        try simp only [Act.put, List.setIfInBounds_toArray, List.set_cons_zero, List.set_cons_succ]
        refine wpAnyH_take (i := 12) (oi := { dst := some 52, op := Op.move (Operand.tmp 10), type := 43, pos := "law.go:84", after := #[{ on := 10, ground := Ground.guard }], guard := some (10, true) }) (v := ?vC12) rfl (by kernel_rfl) (by kernel_rfl) (by kernel_rfl) (fun _ _ _ h => h) (Or.inl ⟨by rfl, ?hyC12⟩) hHeld ?restC12
        case hyC12 => (intro w hSw; go_simp; try with_reducible rfl)
        try simp only [Act.put, List.setIfInBounds_toArray, List.set_cons_zero, List.set_cons_succ]
        refine wpAnyH_take (i := 13) (oi := { dst := some 53, op := Op.binOp BinOp.eql 43 (Operand.tmp 51) (Operand.tmp 52) 43, type := 4, pos := "law.go:84", after := #[{ on := 11, ground := Ground.data }, { on := 12, ground := Ground.data }, { on := 10, ground := Ground.guard }], guard := some (10, true) }) (v := ?vC13) rfl (by kernel_rfl) (by kernel_rfl) (by kernel_rfl) (fun _ _ _ h => h) (Or.inl ⟨by rfl, ?hyC13⟩) hHeld ?restC13
        case hyC13 => (intro w hSw; go_simp; try with_reducible rfl)
        try simp only [Act.put, List.setIfInBounds_toArray, List.set_cons_zero, List.set_cons_succ]
        refine wpAnyH_take (i := 14) (oi := { dst := some 54, op := Op.pick (Operand.tmp 50) (Operand.tmp 53) (Operand.const (Value.bool false)), type := 4, pos := "law.go:84", after := #[{ on := 10, ground := Ground.data }, { on := 13, ground := Ground.data }], guard := none }) (v := ?vC14) rfl (by kernel_rfl) (by kernel_rfl) (by kernel_rfl) (fun _ _ _ h => h) (Or.inl ⟨by rfl, ?hyC14⟩) hHeld ?restC14
        case hyC14 => (intro w hSw; go_simp; try with_reducible rfl)
        try simp only [Act.put, List.setIfInBounds_toArray, List.set_cons_zero, List.set_cons_succ]
        refine wpAnyH_take (i := 15) (oi := { dst := some 55, op := Op.move (Operand.tmp 54), type := 4, pos := "law.go:84", after := #[{ on := 14, ground := Ground.data }, { on := 10, ground := Ground.chain }], guard := none }) (v := ?vC15) rfl (by kernel_rfl) (by kernel_rfl) (by kernel_rfl) (fun _ _ _ h => h) (Or.inl ⟨by rfl, ?hyC15⟩) hHeld ?restC15
        case hyC15 => (intro w hSw; go_simp; try with_reducible rfl)
        try simp only [Act.put, List.setIfInBounds_toArray, List.set_cons_zero, List.set_cons_succ]
        refine wpAnyH_take (i := 16) (oi := { dst := some 56, op := Op.load 30 (Operand.tmp 11), type := 30, pos := "law.go:84", after := #[{ on := 15, ground := Ground.guard }], guard := some (15, true) }) (v := _) rfl (by kernel_rfl) (by kernel_rfl) (by kernel_rfl) (fun _ _ _ h => h) (yields_at rfl rfl rfl HA.out (fun _ h => nc_at h.out.z0)) hHeld ?_
        try simp only [Act.put, List.setIfInBounds_toArray, List.set_cons_zero, List.set_cons_succ]
        refine wpAnyH_take (i := 17) (oi := { dst := some 57, op := Op.load 30 (Operand.tmp 3), type := 30, pos := "law.go:84", after := #[{ on := 15, ground := Ground.guard }], guard := some (15, true) }) (v := _) rfl (by kernel_rfl) (by kernel_rfl) (by kernel_rfl) (fun _ _ _ h => h) (yields_at rfl rfl rfl HA.out (fun _ h => nc_at h.out.a0)) hHeld ?_
        try simp only [Act.put, List.setIfInBounds_toArray, List.set_cons_zero, List.set_cons_succ]
        refine wpAnyH_take (i := 18) (oi := { dst := some 58, op := Op.binOp BinOp.eql 30 (Operand.tmp 56) (Operand.tmp 57) 30, type := 4, pos := "law.go:84", after := #[{ on := 16, ground := Ground.data }, { on := 17, ground := Ground.data }, { on := 15, ground := Ground.guard }], guard := some (15, true) }) (v := _) rfl (by kernel_rfl) (by kernel_rfl) (by kernel_rfl) (fun _ _ _ h => h) (yields_same rfl (.tmp 56) (.tmp 57) 30 rfl rfl rfl HA.out) hHeld ?_
        try simp only [Act.put, List.setIfInBounds_toArray, List.set_cons_zero, List.set_cons_succ]
        refine wpAnyH_take (i := 19) (oi := { dst := some 59, op := Op.pick (Operand.tmp 55) (Operand.tmp 58) (Operand.const (Value.bool false)), type := 4, pos := "law.go:84", after := #[{ on := 15, ground := Ground.data }, { on := 18, ground := Ground.data }], guard := none }) (v := ?vC19) rfl (by kernel_rfl) (by kernel_rfl) (by kernel_rfl) (fun _ _ _ h => h) (Or.inl ⟨by rfl, ?hyC19⟩) hHeld ?restC19
        case hyC19 => (intro w hSw; go_simp; try with_reducible rfl)
        try simp only [Act.put, List.setIfInBounds_toArray, List.set_cons_zero, List.set_cons_succ]
        refine wpAnyH_take (i := 20) (oi := { dst := some 60, op := Op.move (Operand.tmp 59), type := 4, pos := "law.go:84", after := #[{ on := 19, ground := Ground.data }, { on := 15, ground := Ground.chain }], guard := none }) (v := ?vC20) rfl (by kernel_rfl) (by kernel_rfl) (by kernel_rfl) (fun _ _ _ h => h) (Or.inl ⟨by rfl, ?hyC20⟩) hHeld ?restC20
        case hyC20 => (intro w hSw; go_simp; try with_reducible rfl)
        try simp only [Act.put, List.setIfInBounds_toArray, List.set_cons_zero, List.set_cons_succ]
        refine wpAnyH_take (i := 21) (oi := { dst := some 61, op := Op.move (Operand.tmp 12), type := 43, pos := "law.go:84", after := #[{ on := 20, ground := Ground.guard }], guard := some (20, true) }) (v := ?vC21) rfl (by kernel_rfl) (by kernel_rfl) (by kernel_rfl) (fun _ _ _ h => h) (Or.inl ⟨by rfl, ?hyC21⟩) hHeld ?restC21
        case hyC21 => (intro w hSw; go_simp; try with_reducible rfl)
        try simp only [Act.put, List.setIfInBounds_toArray, List.set_cons_zero, List.set_cons_succ]
        refine wpAnyH_take (i := 22) (oi := { dst := some 62, op := Op.binOp BinOp.eql 43 (Operand.tmp 61) (Operand.const (Value.int IntKind.i64 0)) 43, type := 4, pos := "law.go:84", after := #[{ on := 21, ground := Ground.data }, { on := 20, ground := Ground.guard }], guard := some (20, true) }) (v := ?vC22) rfl (by kernel_rfl) (by kernel_rfl) (by kernel_rfl) (fun _ _ _ h => h) (Or.inl ⟨by rfl, ?hyC22⟩) hHeld ?restC22
        case hyC22 => (intro w hSw; go_simp; try with_reducible rfl)
        try simp only [Act.put, List.setIfInBounds_toArray, List.set_cons_zero, List.set_cons_succ]
        refine wpAnyH_take (i := 23) (oi := { dst := some 63, op := Op.pick (Operand.tmp 60) (Operand.tmp 62) (Operand.const (Value.bool false)), type := 4, pos := "law.go:84", after := #[{ on := 20, ground := Ground.data }, { on := 22, ground := Ground.data }], guard := none }) (v := ?vC23) rfl (by kernel_rfl) (by kernel_rfl) (by kernel_rfl) (fun _ _ _ h => h) (Or.inl ⟨by rfl, ?hyC23⟩) hHeld ?restC23
        case hyC23 => (intro w hSw; go_simp; try with_reducible rfl)
        try simp only [Act.put, List.setIfInBounds_toArray, List.set_cons_zero, List.set_cons_succ]
        refine wpAnyH_take (i := 24) (oi := { dst := some 64, op := Op.move (Operand.tmp 63), type := 4, pos := "law.go:84", after := #[{ on := 23, ground := Ground.data }, { on := 20, ground := Ground.chain }], guard := none }) (v := ?vC24) rfl (by kernel_rfl) (by kernel_rfl) (by kernel_rfl) (fun _ _ _ h => h) (Or.inl ⟨by rfl, ?hyC24⟩) hHeld ?restC24
        case hyC24 => (intro w hSw; go_simp; try with_reducible rfl)
        try simp only [Act.put, List.setIfInBounds_toArray, List.set_cons_zero, List.set_cons_succ]
        refine wpAnyH_take (i := 25) (oi := { dst := some 65, op := Op.load 30 (Operand.tmp 3), type := 30, pos := "law.go:84", after := #[{ on := 24, ground := Ground.guard }], guard := some (24, true) }) (v := _) rfl (by kernel_rfl) (by kernel_rfl) (by kernel_rfl) (fun _ _ _ h => h) (yields_at rfl rfl rfl HA.out (fun _ h => nc_at h.out.a0)) hHeld ?_
        try simp only [Act.put, List.setIfInBounds_toArray, List.set_cons_zero, List.set_cons_succ]
        refine wpAnyH_take (i := 26) (oi := { dst := some 66, op := Op.load 30 (Operand.tmp 4), type := 30, pos := "law.go:84", after := #[{ on := 24, ground := Ground.guard }], guard := some (24, true) }) (v := _) rfl (by kernel_rfl) (by kernel_rfl) (by kernel_rfl) (fun _ _ _ h => h) (yields_at rfl rfl rfl HB.out (fun _ h => nc_at h.out.b0)) hHeld ?_
        try simp only [Act.put, List.setIfInBounds_toArray, List.set_cons_zero, List.set_cons_succ]
        refine wpAnyH_take (i := 28) (oi := { dst := some 68, op := Op.move (Operand.tmp 13), type := 3, pos := "law.go:84", after := #[{ on := 24, ground := Ground.guard }], guard := some (24, true) }) (v := ?vC28) rfl (by kernel_rfl) (by kernel_rfl) (by kernel_rfl) (fun _ _ _ h => h) (Or.inl ⟨by rfl, ?hyC28⟩) hHeld ?restC28
        case hyC28 => (intro w hSw; go_simp; try with_reducible rfl)
        try simp only [Act.put, List.setIfInBounds_toArray, List.set_cons_zero, List.set_cons_succ]
        refine wpAnyH_ready (rs := [27]) (by kernel_rfl) (by simp) ?_
        refine AllReadyH.cons (o := { dst := some 67, op := Op.call { callee := Callee.value (Operand.func 23), args := #[Operand.tmp 65, Operand.tmp 66], argTypes := #[30, 30] }, type := 3, pos := "law.go:84", after := #[{ on := 25, ground := Ground.data }, { on := 26, ground := Ground.data }, { on := 24, ground := Ground.chain }, { on := 24, ground := Ground.guard }], guard := some (24, true) }) rfl (fun K hK => ?_) AllReadyH.nil
        go_simp
        refine (HCM.out _).mono ?_; rintro e w27 ⟨rfl, hb27⟩
        refine hK.out _ _ (Lib.hid (hHeld.out.after hb27)) (fun hHeld => ?_)
        clear hK K
        try simp only [Act.put, List.setIfInBounds_toArray, List.set_cons_zero, List.set_cons_succ]
        refine wpAnyH_take (i := 29) (oi := { dst := some 69, op := Op.binOp BinOp.eql 3 (Operand.tmp 67) (Operand.tmp 68) 3, type := 4, pos := "law.go:84", after := #[{ on := 27, ground := Ground.data }, { on := 28, ground := Ground.data }, { on := 24, ground := Ground.guard }], guard := some (24, true) }) (v := ?vC29) rfl (by kernel_rfl) (by kernel_rfl) (by kernel_rfl) (fun _ _ _ h => h) (Or.inl ⟨by rfl, ?hyC29⟩) hHeld ?restC29
        case hyC29 => (intro w hSw; go_simp; try with_reducible rfl)
        try simp only [Act.put, List.setIfInBounds_toArray, List.set_cons_zero, List.set_cons_succ]
        refine wpAnyH_take (i := 30) (oi := { dst := some 70, op := Op.pick (Operand.tmp 64) (Operand.tmp 69) (Operand.const (Value.bool false)), type := 4, pos := "law.go:84", after := #[{ on := 24, ground := Ground.data }, { on := 29, ground := Ground.data }], guard := none }) (v := ?vC30) rfl (by kernel_rfl) (by kernel_rfl) (by kernel_rfl) (fun _ _ _ h => h) (Or.inl ⟨by rfl, ?hyC30⟩) hHeld ?restC30
        case hyC30 => (intro w hSw; go_simp; try with_reducible rfl)
        try simp only [Act.put, List.setIfInBounds_toArray, List.set_cons_zero, List.set_cons_succ]
        refine wpAnyH_take (i := 31) (oi := { dst := some 71, op := Op.move (Operand.tmp 70), type := 4, pos := "law.go:84", after := #[{ on := 30, ground := Ground.data }, { on := 27, ground := Ground.chain }], guard := none }) (v := ?vC31) rfl (by kernel_rfl) (by kernel_rfl) (by kernel_rfl) (fun _ _ _ h => h) (Or.inl ⟨by rfl, ?hyC31⟩) hHeld ?restC31
        case hyC31 => (intro w hSw; go_simp; try with_reducible rfl)
        try simp only [Act.put, List.setIfInBounds_toArray, List.set_cons_zero, List.set_cons_succ]
        refine wpAnyH_ready (rs := [32]) (by kernel_rfl) (by simp) ?_
        refine AllReadyH.cons (o := { dst := some 72, op := Op.call { callee := Callee.value (Operand.func 7), args := #[], argTypes := #[] }, type := 4, pos := "law.go:84", after := #[{ on := 31, ground := Ground.chain }, { on := 31, ground := Ground.guard }], guard := some (31, true) }) rfl (fun K hK => ?_) AllReadyH.nil
        go_simp
        refine (alive_any _).mono ?_; rintro e w32 ⟨rfl, hb32⟩
        refine hK.out _ _ (Lib.hid (hHeld.out.after hb32)) (fun hHeld => ?_)
        clear hK K
        try simp only [Act.put, List.setIfInBounds_toArray, List.set_cons_zero, List.set_cons_succ]
        refine wpAnyH_take (i := 33) (oi := { dst := some 73, op := Op.pick (Operand.tmp 71) (Operand.tmp 72) (Operand.const (Value.bool false)), type := 4, pos := "law.go:84", after := #[{ on := 31, ground := Ground.data }, { on := 32, ground := Ground.data }], guard := none }) (v := ?vC33) rfl (by kernel_rfl) (by kernel_rfl) (by kernel_rfl) (fun _ _ _ h => h) (Or.inl ⟨by rfl, ?hyC33⟩) hHeld ?restC33
        case hyC33 => (intro w hSw; go_simp; try with_reducible rfl)
        try simp only [Act.put, List.setIfInBounds_toArray, List.set_cons_zero, List.set_cons_succ]
        refine wpAnyH_take (i := 34) (oi := { dst := some 6, op := Op.assign (Operand.tmp 73), type := 4, pos := "law.go:84", after := #[{ on := 33, ground := Ground.data }, { on := 32, ground := Ground.chain }, { on := 0, ground := Ground.phase }, { on := 1, ground := Ground.phase }, { on := 2, ground := Ground.phase }, { on := 3, ground := Ground.phase }, { on := 4, ground := Ground.phase }, { on := 5, ground := Ground.phase }, { on := 6, ground := Ground.phase }, { on := 7, ground := Ground.phase }, { on := 8, ground := Ground.phase }, { on := 9, ground := Ground.phase }, { on := 10, ground := Ground.phase }, { on := 11, ground := Ground.phase }, { on := 12, ground := Ground.phase }, { on := 13, ground := Ground.phase }, { on := 14, ground := Ground.phase }, { on := 15, ground := Ground.phase }, { on := 16, ground := Ground.phase }, { on := 17, ground := Ground.phase }, { on := 18, ground := Ground.phase }, { on := 19, ground := Ground.phase }, { on := 20, ground := Ground.phase }, { on := 21, ground := Ground.phase }, { on := 22, ground := Ground.phase }, { on := 23, ground := Ground.phase }, { on := 24, ground := Ground.phase }, { on := 25, ground := Ground.phase }, { on := 26, ground := Ground.phase }, { on := 27, ground := Ground.phase }, { on := 28, ground := Ground.phase }, { on := 29, ground := Ground.phase }, { on := 30, ground := Ground.phase }, { on := 31, ground := Ground.phase }, { on := 32, ground := Ground.phase }, { on := 33, ground := Ground.phase }], guard := none }) (v := ?vC34) rfl (by kernel_rfl) (by kernel_rfl) (by kernel_rfl) (fun _ _ _ h => h) (Or.inl ⟨by rfl, ?hyC34⟩) hHeld ?restC34
        case hyC34 => (intro w hSw; go_simp; try with_reducible rfl)
        try simp only [Act.put, List.setIfInBounds_toArray, List.set_cons_zero, List.set_cons_succ]
        refine wpAnyH_done (by kernel_rfl) ?_ _
        have HF := Lib.hid hHeld.out.bel
        go_wp2_with fail
        go_ret
        exact ⟨rfl, HF.out⟩
      | false =>
        go_wp2_with fail
        refine wp_region_held_drew (S := fun w' => Hid (Tx w w' a b X w1.heap.size w3.heap.size w6.heap.size)) (by kernel_rfl) (Lib.hid (HT9.out.after ((Below.refl _ _).drew))) (fun hHeld => ?_)
        refine wpAnyH_take (i := 0) (oi := { dst := some 40, op := Op.load 30 (Operand.tmp 3), type := 30, pos := "law.go:84", after := #[], guard := none }) (v := _) rfl (by kernel_rfl) (by kernel_rfl) (by kernel_rfl) (fun _ _ _ h => h) (yields_at rfl rfl rfl HA.out (fun _ h => nc_at h.out.a0)) hHeld ?_
        try simp only [Act.put, List.setIfInBounds_toArray, List.set_cons_zero, List.set_cons_succ]
        refine wpAnyH_take (i := 2) (oi := { dst := some 42, op := Op.load 30 (Operand.tmp 3), type := 30, pos := "law.go:84", after := #[], guard := none }) (v := _) rfl (by kernel_rfl) (by kernel_rfl) (by kernel_rfl) (fun _ _ _ h => h) (yields_at rfl rfl rfl HA.out (fun _ h => nc_at h.out.a0)) hHeld ?_
        try simp only [Act.put, List.setIfInBounds_toArray, List.set_cons_zero, List.set_cons_succ]
        refine wpAnyH_ready (rs := [1]) (by kernel_rfl) (by simp) ?_
        refine AllReadyH.cons (o := { dst := some 41, op := Op.call { callee := Callee.value (Operand.func 20), args := #[Operand.tmp 40], argTypes := #[30] }, type := 9, pos := "law.go:84", after := #[{ on := 0, ground := Ground.data }], guard := none }) rfl (fun K hK => ?_) AllReadyH.nil
        go_simp
        refine (text_any _ a HA.out).mono ?_; rintro e w1 ⟨rfl, hb1⟩
        refine hK.out _ _ (Lib.hid (hHeld.out.after hb1)) (fun hHeld => ?_)
        clear hK K
        try simp only [Act.put, List.setIfInBounds_toArray, List.set_cons_zero, List.set_cons_succ]
        refine wpAnyH_ready (rs := [3]) (by kernel_rfl) (by simp) ?_
        refine AllReadyH.cons (o := { dst := some 43, op := Op.call { callee := Callee.value (Operand.func 22), args := #[Operand.tmp 42], argTypes := #[30] }, type := 9, pos := "law.go:84", after := #[{ on := 2, ground := Ground.data }, { on := 1, ground := Ground.chain }], guard := none }) rfl (fun K hK => ?_) AllReadyH.nil
        go_simp
        refine (rtext_any _ a HA.out).mono ?_; rintro e w3 ⟨rfl, hb3⟩
        refine hK.out _ _ (Lib.hid (hHeld.out.after hb3)) (fun hHeld => ?_)
        clear hK K
        try simp only [Act.put, List.setIfInBounds_toArray, List.set_cons_zero, List.set_cons_succ]
        refine wpAnyH_take (i := 4) (oi := { dst := some 44, op := Op.binOp BinOp.eql 9 (Operand.tmp 41) (Operand.tmp 43) 9, type := 4, pos := "law.go:84", after := #[{ on := 1, ground := Ground.data }, { on := 3, ground := Ground.data }], guard := none }) (v := ?vD4) rfl (by kernel_rfl) (by kernel_rfl) (by kernel_rfl) (fun _ _ _ h => h) (Or.inl ⟨by rfl, ?hyD4⟩) hHeld ?restD4
        case hyD4 => (intro w hSw; go_simp; try with_reducible rfl)
        try simp only [Act.put, List.setIfInBounds_toArray, List.set_cons_zero, List.set_cons_succ]
        refine wpAnyH_take (i := 5) (oi := { dst := some 45, op := Op.move (Operand.tmp 44), type := 4, pos := "law.go:84", after := #[{ on := 4, ground := Ground.data }, { on := 3, ground := Ground.chain }], guard := none }) (v := ?vD5) rfl (by kernel_rfl) (by kernel_rfl) (by kernel_rfl) (fun _ _ _ h => h) (Or.inl ⟨by rfl, ?hyD5⟩) hHeld ?restD5
        case hyD5 => (intro w hSw; go_simp; try with_reducible rfl)
        try simp only [Act.put, List.setIfInBounds_toArray, List.set_cons_zero, List.set_cons_succ]
        refine wpAnyH_take (i := 6) (oi := { dst := some 46, op := Op.load 30 (Operand.tmp 7), type := 30, pos := "law.go:84", after := #[{ on := 5, ground := Ground.guard }], guard := some (5, true) }) (v := _) rfl (by kernel_rfl) (by kernel_rfl) (by kernel_rfl) (fun _ _ _ h => h) (yields_at rfl rfl rfl HXL.out (fun _ h => nc_at h.out.x0)) hHeld ?_
        try simp only [Act.put, List.setIfInBounds_toArray, List.set_cons_zero, List.set_cons_succ]
        refine wpAnyH_take (i := 7) (oi := { dst := some 47, op := Op.load 30 (Operand.tmp 9), type := 30, pos := "law.go:84", after := #[{ on := 5, ground := Ground.guard }], guard := some (5, true) }) (v := _) rfl (by kernel_rfl) (by kernel_rfl) (by kernel_rfl) (fun _ _ _ h => h) (yields_at rfl rfl rfl HXL.out (fun _ h => nc_at h.out.y0)) hHeld ?_
        try simp only [Act.put, List.setIfInBounds_toArray, List.set_cons_zero, List.set_cons_succ]
        refine wpAnyH_take (i := 8) (oi := { dst := some 48, op := Op.binOp BinOp.eql 30 (Operand.tmp 46) (Operand.tmp 47) 30, type := 4, pos := "law.go:84", after := #[{ on := 6, ground := Ground.data }, { on := 7, ground := Ground.data }, { on := 5, ground := Ground.guard }], guard := some (5, true) }) (v := _) rfl (by kernel_rfl) (by kernel_rfl) (by kernel_rfl) (fun _ _ _ h => h) (yields_same rfl (.tmp 46) (.tmp 47) 30 rfl rfl rfl HXL.out) hHeld ?_
        try simp only [Act.put, List.setIfInBounds_toArray, List.set_cons_zero, List.set_cons_succ]
        refine wpAnyH_take (i := 9) (oi := { dst := some 49, op := Op.pick (Operand.tmp 45) (Operand.tmp 48) (Operand.const (Value.bool false)), type := 4, pos := "law.go:84", after := #[{ on := 5, ground := Ground.data }, { on := 8, ground := Ground.data }], guard := none }) (v := ?vD9) rfl (by kernel_rfl) (by kernel_rfl) (by kernel_rfl) (fun _ _ _ h => h) (Or.inl ⟨by rfl, ?hyD9⟩) hHeld ?restD9
        case hyD9 => (intro w hSw; go_simp; try with_reducible rfl)
        try simp only [Act.put, List.setIfInBounds_toArray, List.set_cons_zero, List.set_cons_succ]
        refine wpAnyH_take (i := 10) (oi := { dst := some 50, op := Op.move (Operand.tmp 49), type := 4, pos := "law.go:84", after := #[{ on := 9, ground := Ground.data }, { on := 5, ground := Ground.chain }], guard := none }) (v := ?vD10) rfl (by kernel_rfl) (by kernel_rfl) (by kernel_rfl) (fun _ _ _ h => h) (Or.inl ⟨by rfl, ?hyD10⟩) hHeld ?restD10
        case hyD10 => (intro w hSw; go_simp; try with_reducible rfl)
        try simp only [Act.put, List.setIfInBounds_toArray, List.set_cons_zero, List.set_cons_succ]
        refine wpAnyH_take (i := 11) (oi := { dst := some 51, op := Op.move (Operand.tmp 8), type := 43, pos := "law.go:84", after := #[{ on := 10, ground := Ground.guard }], guard := some (10, true) }) (v := ?vD11) rfl (by kernel_rfl) (by kernel_rfl) (by kernel_rfl) (fun _ _ _ h => h) (Or.inl ⟨by rfl, ?hyD11⟩) hHeld ?restD11
        case hyD11 => (intro w hSw; go_simp; try with_reducible rfl)
        try simp only [Act.put, List.setIfInBounds_toArray, List.set_cons_zero, List.set_cons_succ]
        refine wpAnyH_take (i := 12) (oi := { dst := some 52, op := Op.move (Operand.tmp 10), type := 43, pos := "law.go:84", after := #[{ on := 10, ground := Ground.guard }], guard := some (10, true) }) (v := ?vD12) rfl (by kernel_rfl) (by kernel_rfl) (by kernel_rfl) (fun _ _ _ h => h) (Or.inl ⟨by rfl, ?hyD12⟩) hHeld ?restD12
        case hyD12 => (intro w hSw; go_simp; try with_reducible rfl)
        try simp only [Act.put, List.setIfInBounds_toArray, List.set_cons_zero, List.set_cons_succ]
        refine wpAnyH_take (i := 13) (oi := { dst := some 53, op := Op.binOp BinOp.eql 43 (Operand.tmp 51) (Operand.tmp 52) 43, type := 4, pos := "law.go:84", after := #[{ on := 11, ground := Ground.data }, { on := 12, ground := Ground.data }, { on := 10, ground := Ground.guard }], guard := some (10, true) }) (v := ?vD13) rfl (by kernel_rfl) (by kernel_rfl) (by kernel_rfl) (fun _ _ _ h => h) (Or.inl ⟨by rfl, ?hyD13⟩) hHeld ?restD13
        case hyD13 => (intro w hSw; go_simp; try with_reducible rfl)
        try simp only [Act.put, List.setIfInBounds_toArray, List.set_cons_zero, List.set_cons_succ]
        refine wpAnyH_take (i := 14) (oi := { dst := some 54, op := Op.pick (Operand.tmp 50) (Operand.tmp 53) (Operand.const (Value.bool false)), type := 4, pos := "law.go:84", after := #[{ on := 10, ground := Ground.data }, { on := 13, ground := Ground.data }], guard := none }) (v := ?vD14) rfl (by kernel_rfl) (by kernel_rfl) (by kernel_rfl) (fun _ _ _ h => h) (Or.inl ⟨by rfl, ?hyD14⟩) hHeld ?restD14
        case hyD14 => (intro w hSw; go_simp; try with_reducible rfl)
        try simp only [Act.put, List.setIfInBounds_toArray, List.set_cons_zero, List.set_cons_succ]
        refine wpAnyH_take (i := 15) (oi := { dst := some 55, op := Op.move (Operand.tmp 54), type := 4, pos := "law.go:84", after := #[{ on := 14, ground := Ground.data }, { on := 10, ground := Ground.chain }], guard := none }) (v := ?vD15) rfl (by kernel_rfl) (by kernel_rfl) (by kernel_rfl) (fun _ _ _ h => h) (Or.inl ⟨by rfl, ?hyD15⟩) hHeld ?restD15
        case hyD15 => (intro w hSw; go_simp; try with_reducible rfl)
        try simp only [Act.put, List.setIfInBounds_toArray, List.set_cons_zero, List.set_cons_succ]
        refine wpAnyH_take (i := 16) (oi := { dst := some 56, op := Op.load 30 (Operand.tmp 11), type := 30, pos := "law.go:84", after := #[{ on := 15, ground := Ground.guard }], guard := some (15, true) }) (v := _) rfl (by kernel_rfl) (by kernel_rfl) (by kernel_rfl) (fun _ _ _ h => h) (yields_at rfl rfl rfl HA.out (fun _ h => nc_at h.out.z0)) hHeld ?_
        try simp only [Act.put, List.setIfInBounds_toArray, List.set_cons_zero, List.set_cons_succ]
        refine wpAnyH_take (i := 17) (oi := { dst := some 57, op := Op.load 30 (Operand.tmp 3), type := 30, pos := "law.go:84", after := #[{ on := 15, ground := Ground.guard }], guard := some (15, true) }) (v := _) rfl (by kernel_rfl) (by kernel_rfl) (by kernel_rfl) (fun _ _ _ h => h) (yields_at rfl rfl rfl HA.out (fun _ h => nc_at h.out.a0)) hHeld ?_
        try simp only [Act.put, List.setIfInBounds_toArray, List.set_cons_zero, List.set_cons_succ]
        refine wpAnyH_take (i := 18) (oi := { dst := some 58, op := Op.binOp BinOp.eql 30 (Operand.tmp 56) (Operand.tmp 57) 30, type := 4, pos := "law.go:84", after := #[{ on := 16, ground := Ground.data }, { on := 17, ground := Ground.data }, { on := 15, ground := Ground.guard }], guard := some (15, true) }) (v := _) rfl (by kernel_rfl) (by kernel_rfl) (by kernel_rfl) (fun _ _ _ h => h) (yields_same rfl (.tmp 56) (.tmp 57) 30 rfl rfl rfl HA.out) hHeld ?_
        try simp only [Act.put, List.setIfInBounds_toArray, List.set_cons_zero, List.set_cons_succ]
        refine wpAnyH_take (i := 19) (oi := { dst := some 59, op := Op.pick (Operand.tmp 55) (Operand.tmp 58) (Operand.const (Value.bool false)), type := 4, pos := "law.go:84", after := #[{ on := 15, ground := Ground.data }, { on := 18, ground := Ground.data }], guard := none }) (v := ?vD19) rfl (by kernel_rfl) (by kernel_rfl) (by kernel_rfl) (fun _ _ _ h => h) (Or.inl ⟨by rfl, ?hyD19⟩) hHeld ?restD19
        case hyD19 => (intro w hSw; go_simp; try with_reducible rfl)
        try simp only [Act.put, List.setIfInBounds_toArray, List.set_cons_zero, List.set_cons_succ]
        refine wpAnyH_take (i := 20) (oi := { dst := some 60, op := Op.move (Operand.tmp 59), type := 4, pos := "law.go:84", after := #[{ on := 19, ground := Ground.data }, { on := 15, ground := Ground.chain }], guard := none }) (v := ?vD20) rfl (by kernel_rfl) (by kernel_rfl) (by kernel_rfl) (fun _ _ _ h => h) (Or.inl ⟨by rfl, ?hyD20⟩) hHeld ?restD20
        case hyD20 => (intro w hSw; go_simp; try with_reducible rfl)
        try simp only [Act.put, List.setIfInBounds_toArray, List.set_cons_zero, List.set_cons_succ]
        refine wpAnyH_take (i := 21) (oi := { dst := some 61, op := Op.move (Operand.tmp 12), type := 43, pos := "law.go:84", after := #[{ on := 20, ground := Ground.guard }], guard := some (20, true) }) (v := ?vD21) rfl (by kernel_rfl) (by kernel_rfl) (by kernel_rfl) (fun _ _ _ h => h) (Or.inl ⟨by rfl, ?hyD21⟩) hHeld ?restD21
        case hyD21 => (intro w hSw; go_simp; try with_reducible rfl)
        try simp only [Act.put, List.setIfInBounds_toArray, List.set_cons_zero, List.set_cons_succ]
        refine wpAnyH_take (i := 22) (oi := { dst := some 62, op := Op.binOp BinOp.eql 43 (Operand.tmp 61) (Operand.const (Value.int IntKind.i64 0)) 43, type := 4, pos := "law.go:84", after := #[{ on := 21, ground := Ground.data }, { on := 20, ground := Ground.guard }], guard := some (20, true) }) (v := ?vD22) rfl (by kernel_rfl) (by kernel_rfl) (by kernel_rfl) (fun _ _ _ h => h) (Or.inl ⟨by rfl, ?hyD22⟩) hHeld ?restD22
        case hyD22 => (intro w hSw; go_simp; try with_reducible rfl)
        try simp only [Act.put, List.setIfInBounds_toArray, List.set_cons_zero, List.set_cons_succ]
        refine wpAnyH_take (i := 23) (oi := { dst := some 63, op := Op.pick (Operand.tmp 60) (Operand.tmp 62) (Operand.const (Value.bool false)), type := 4, pos := "law.go:84", after := #[{ on := 20, ground := Ground.data }, { on := 22, ground := Ground.data }], guard := none }) (v := ?vD23) rfl (by kernel_rfl) (by kernel_rfl) (by kernel_rfl) (fun _ _ _ h => h) (Or.inl ⟨by rfl, ?hyD23⟩) hHeld ?restD23
        case hyD23 => (intro w hSw; go_simp; try with_reducible rfl)
        try simp only [Act.put, List.setIfInBounds_toArray, List.set_cons_zero, List.set_cons_succ]
        refine wpAnyH_take (i := 24) (oi := { dst := some 64, op := Op.move (Operand.tmp 63), type := 4, pos := "law.go:84", after := #[{ on := 23, ground := Ground.data }, { on := 20, ground := Ground.chain }], guard := none }) (v := ?vD24) rfl (by kernel_rfl) (by kernel_rfl) (by kernel_rfl) (fun _ _ _ h => h) (Or.inl ⟨by rfl, ?hyD24⟩) hHeld ?restD24
        case hyD24 => (intro w hSw; go_simp; try with_reducible rfl)
        try simp only [Act.put, List.setIfInBounds_toArray, List.set_cons_zero, List.set_cons_succ]
        refine wpAnyH_take (i := 25) (oi := { dst := some 65, op := Op.load 30 (Operand.tmp 3), type := 30, pos := "law.go:84", after := #[{ on := 24, ground := Ground.guard }], guard := some (24, true) }) (v := _) rfl (by kernel_rfl) (by kernel_rfl) (by kernel_rfl) (fun _ _ _ h => h) (yields_at rfl rfl rfl HA.out (fun _ h => nc_at h.out.a0)) hHeld ?_
        try simp only [Act.put, List.setIfInBounds_toArray, List.set_cons_zero, List.set_cons_succ]
        refine wpAnyH_take (i := 26) (oi := { dst := some 66, op := Op.load 30 (Operand.tmp 4), type := 30, pos := "law.go:84", after := #[{ on := 24, ground := Ground.guard }], guard := some (24, true) }) (v := _) rfl (by kernel_rfl) (by kernel_rfl) (by kernel_rfl) (fun _ _ _ h => h) (yields_at rfl rfl rfl HB.out (fun _ h => nc_at h.out.b0)) hHeld ?_
        try simp only [Act.put, List.setIfInBounds_toArray, List.set_cons_zero, List.set_cons_succ]
        refine wpAnyH_take (i := 28) (oi := { dst := some 68, op := Op.move (Operand.tmp 13), type := 3, pos := "law.go:84", after := #[{ on := 24, ground := Ground.guard }], guard := some (24, true) }) (v := ?vD28) rfl (by kernel_rfl) (by kernel_rfl) (by kernel_rfl) (fun _ _ _ h => h) (Or.inl ⟨by rfl, ?hyD28⟩) hHeld ?restD28
        case hyD28 => (intro w hSw; go_simp; try with_reducible rfl)
        try simp only [Act.put, List.setIfInBounds_toArray, List.set_cons_zero, List.set_cons_succ]
        refine wpAnyH_ready (rs := [27]) (by kernel_rfl) (by simp) ?_
        refine AllReadyH.cons (o := { dst := some 67, op := Op.call { callee := Callee.value (Operand.func 23), args := #[Operand.tmp 65, Operand.tmp 66], argTypes := #[30, 30] }, type := 3, pos := "law.go:84", after := #[{ on := 25, ground := Ground.data }, { on := 26, ground := Ground.data }, { on := 24, ground := Ground.chain }, { on := 24, ground := Ground.guard }], guard := some (24, true) }) rfl (fun K hK => ?_) AllReadyH.nil
        go_simp
        refine (HCM.out _).mono ?_; rintro e w27 ⟨rfl, hb27⟩
        refine hK.out _ _ (Lib.hid (hHeld.out.after hb27)) (fun hHeld => ?_)
        clear hK K
        try simp only [Act.put, List.setIfInBounds_toArray, List.set_cons_zero, List.set_cons_succ]
        refine wpAnyH_take (i := 29) (oi := { dst := some 69, op := Op.binOp BinOp.eql 3 (Operand.tmp 67) (Operand.tmp 68) 3, type := 4, pos := "law.go:84", after := #[{ on := 27, ground := Ground.data }, { on := 28, ground := Ground.data }, { on := 24, ground := Ground.guard }], guard := some (24, true) }) (v := ?vD29) rfl (by kernel_rfl) (by kernel_rfl) (by kernel_rfl) (fun _ _ _ h => h) (Or.inl ⟨by rfl, ?hyD29⟩) hHeld ?restD29
        case hyD29 => (intro w hSw; go_simp; try with_reducible rfl)
        try simp only [Act.put, List.setIfInBounds_toArray, List.set_cons_zero, List.set_cons_succ]
        refine wpAnyH_take (i := 30) (oi := { dst := some 70, op := Op.pick (Operand.tmp 64) (Operand.tmp 69) (Operand.const (Value.bool false)), type := 4, pos := "law.go:84", after := #[{ on := 24, ground := Ground.data }, { on := 29, ground := Ground.data }], guard := none }) (v := ?vD30) rfl (by kernel_rfl) (by kernel_rfl) (by kernel_rfl) (fun _ _ _ h => h) (Or.inl ⟨by rfl, ?hyD30⟩) hHeld ?restD30
        case hyD30 => (intro w hSw; go_simp; try with_reducible rfl)
        try simp only [Act.put, List.setIfInBounds_toArray, List.set_cons_zero, List.set_cons_succ]
        refine wpAnyH_take (i := 31) (oi := { dst := some 71, op := Op.move (Operand.tmp 70), type := 4, pos := "law.go:84", after := #[{ on := 30, ground := Ground.data }, { on := 27, ground := Ground.chain }], guard := none }) (v := ?vD31) rfl (by kernel_rfl) (by kernel_rfl) (by kernel_rfl) (fun _ _ _ h => h) (Or.inl ⟨by rfl, ?hyD31⟩) hHeld ?restD31
        case hyD31 => (intro w hSw; go_simp; try with_reducible rfl)
        try simp only [Act.put, List.setIfInBounds_toArray, List.set_cons_zero, List.set_cons_succ]
        refine wpAnyH_ready (rs := [32]) (by kernel_rfl) (by simp) ?_
        refine AllReadyH.cons (o := { dst := some 72, op := Op.call { callee := Callee.value (Operand.func 7), args := #[], argTypes := #[] }, type := 4, pos := "law.go:84", after := #[{ on := 31, ground := Ground.chain }, { on := 31, ground := Ground.guard }], guard := some (31, true) }) rfl (fun K hK => ?_) AllReadyH.nil
        go_simp
        refine (alive_any _).mono ?_; rintro e w32 ⟨rfl, hb32⟩
        refine hK.out _ _ (Lib.hid (hHeld.out.after hb32)) (fun hHeld => ?_)
        clear hK K
        try simp only [Act.put, List.setIfInBounds_toArray, List.set_cons_zero, List.set_cons_succ]
        refine wpAnyH_take (i := 33) (oi := { dst := some 73, op := Op.pick (Operand.tmp 71) (Operand.tmp 72) (Operand.const (Value.bool false)), type := 4, pos := "law.go:84", after := #[{ on := 31, ground := Ground.data }, { on := 32, ground := Ground.data }], guard := none }) (v := ?vD33) rfl (by kernel_rfl) (by kernel_rfl) (by kernel_rfl) (fun _ _ _ h => h) (Or.inl ⟨by rfl, ?hyD33⟩) hHeld ?restD33
        case hyD33 => (intro w hSw; go_simp; try with_reducible rfl)
        try simp only [Act.put, List.setIfInBounds_toArray, List.set_cons_zero, List.set_cons_succ]
        refine wpAnyH_take (i := 34) (oi := { dst := some 6, op := Op.assign (Operand.tmp 73), type := 4, pos := "law.go:84", after := #[{ on := 33, ground := Ground.data }, { on := 32, ground := Ground.chain }, { on := 0, ground := Ground.phase }, { on := 1, ground := Ground.phase }, { on := 2, ground := Ground.phase }, { on := 3, ground := Ground.phase }, { on := 4, ground := Ground.phase }, { on := 5, ground := Ground.phase }, { on := 6, ground := Ground.phase }, { on := 7, ground := Ground.phase }, { on := 8, ground := Ground.phase }, { on := 9, ground := Ground.phase }, { on := 10, ground := Ground.phase }, { on := 11, ground := Ground.phase }, { on := 12, ground := Ground.phase }, { on := 13, ground := Ground.phase }, { on := 14, ground := Ground.phase }, { on := 15, ground := Ground.phase }, { on := 16, ground := Ground.phase }, { on := 17, ground := Ground.phase }, { on := 18, ground := Ground.phase }, { on := 19, ground := Ground.phase }, { on := 20, ground := Ground.phase }, { on := 21, ground := Ground.phase }, { on := 22, ground := Ground.phase }, { on := 23, ground := Ground.phase }, { on := 24, ground := Ground.phase }, { on := 25, ground := Ground.phase }, { on := 26, ground := Ground.phase }, { on := 27, ground := Ground.phase }, { on := 28, ground := Ground.phase }, { on := 29, ground := Ground.phase }, { on := 30, ground := Ground.phase }, { on := 31, ground := Ground.phase }, { on := 32, ground := Ground.phase }, { on := 33, ground := Ground.phase }], guard := none }) (v := ?vD34) rfl (by kernel_rfl) (by kernel_rfl) (by kernel_rfl) (fun _ _ _ h => h) (Or.inl ⟨by rfl, ?hyD34⟩) hHeld ?restD34
        case hyD34 => (intro w hSw; go_simp; try with_reducible rfl)
        try simp only [Act.put, List.setIfInBounds_toArray, List.set_cons_zero, List.set_cons_succ]
        refine wpAnyH_done (by kernel_rfl) ?_ _
        have HF := Lib.hid hHeld.out.bel
        go_wp2_with fail
        go_ret
        exact ⟨rfl, HF.out⟩
  · have hs' : (200 : Int) < (s.size : Int) := by omega
    go_wp2_with fail
    obtain ⟨W0, hW0⟩ : ∃ W0, W0 = (w.alloc (.cells (NC a) 30)).alloc (.cells (NC b) 30) := ⟨_, rfl⟩
    rw [← hW0] at HW
    rw [← hW0]
    refine (alive_any W0).mono ?_
    rintro e w1 ⟨rfl, hb1⟩
    have HF := Lib.hid (HW.out.trans (hb1.mono HW.out.size))
    clear hb1
    go_wp2_with fail
    go_ret
    exact ⟨rfl, HF.out⟩
end Go.Proofs.Ytepcbnkhfiphdaa
