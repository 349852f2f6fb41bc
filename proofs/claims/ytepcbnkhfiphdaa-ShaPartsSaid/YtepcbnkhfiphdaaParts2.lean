/- The walk of ShaParts. Conditions: each theorem's premises. -/
import Derived.Test.YtepcbnkhfiphdaaParts1
namespace Go.Proofs.Ytepcbnkhfiphdaa
open Go.RowKit
set_option maxRecDepth 100000 in
set_option maxHeartbeats 1000000 in
theorem shaParts_any (w : World) (S S' : Nat → Prop) (A A' : Option Addr) (n c n' c' : Nat) (l : List (List UInt8)) (fl : List Bool) (hx : RR w S A n c l) (hf : BR w S' A' n' c' fl) :
    Calls Try.prog 4 #[.slice A n c, .slice A' n' c'] w fun e w' => e = .returned (.bool true) ∧ Below w.heap.size w w' := by
  have HX := Lib.hid hx.old
  have HF := Lib.hid hf.old
  clear hx hf
  go_enter Try.func4, Try.ntmps4
  by_cases hn : n ≤ 20
  · have hn' : ¬ (20 : Int) < (n : Int) := by omega
    go_wp2_with fail
    refine (new_any w).mono ?_
    rintro e w1 ⟨rfl, hE, hb1⟩
    have HE := Lib.hid hE
    have HB1 := Lib.hid hb1
    have hgl := hE.lt
    clear hE hb1
    go_wp2_with fail
    refine (stream_any w1 w.heap.size 0 HE.out).mono ?_
    rintro e w2 ⟨s, rfl, hs0, hS, hE2, hg2⟩
    have hsl := hS.bk.lt
    have HP2 : Hid (Pt w w2 w.heap.size s w2.heap.size 0 (.slice none 0 0) (.slice none 0 0) [] 0) := Lib.hid ⟨hE2, hS, World.ownsRow_nil _ _ _ _, HB1.out.trans (only_below hg2 (Nat.le_refl _) HB1.out.size), Nat.le_refl _, hsl, (fun k e => by cases e), Nat.le_refl _⟩
    obtain ⟨bo, hbo⟩ : ∃ bo, bo = w2.heap.size := ⟨_, rfl⟩
    rw [← hbo] at HP2
    clear hS hE2 hg2 HE HB1 hs0 hsl hbo
    go_wp2_with fail
    go_loopw [7, 8, 9] (fun v7 v8 v9 wr => ∃ (k L : Nat) (A7 : Option Addr) (c7 : Nat) (nb : Int) (lvs : Value) (all : List UInt8), k ≤ n ∧ v9 = .int .i64 (k : Int) ∧ v7 = .slice A7 L c7 ∧ v8 = .int .i64 nb ∧ 0 ≤ nb ∧ nb ≤ 100 * (k : Int) ∧ L ≤ 300 * k ∧ Hid (Pt w wr w.heap.size s bo L lvs (.slice A7 L c7) all nb)) (fun _ _ v9 _ => n - (intOf v9).toNat)
    case atStart => exact ⟨0, 0, none, 0, 0, _, [], by omega, rfl, rfl, rfl, by omega, by omega, by omega, HP2⟩
    case round =>
      obtain ⟨k, L, A7, c7, nb, lvs, all, hk, rfl, rfl, rfl, hnb0, hnb1, hL, HP⟩ := hrel
      clear HP2
      by_cases hlt : k < n
      · have hlt' : (k : Int) < (n : Int) := by omega
        obtain ⟨ad, Ax, cx, x, rfl, hs, Hl, hc, hb, hm⟩ := HX.out.at_ k hlt
        have HCW : Hid (∀ w', Below w.heap.size w w' → w'.cell? (ad.add k) = some (.slice Ax x.length cx) ∧ Bs w' (Lo w.heap.size) Ax x.length cx x) := Lib.hid fun w' h => ⟨(h.cell (by rw [block_of_add]; exact hs)).trans hc, hb.below h⟩
        clear hb hs hc
        have hc := (HCW.out _ HP.out.bel).1
        have HB := Lib.hid (HCW.out _ HP.out.bel).2
        obtain ⟨m, hmm⟩ : ∃ m, m = x.length := ⟨_, rfl⟩
        rw [← hmm] at HCW hc HB hm
        have HM := Lib.hid hmm
        clear hmm
        by_cases hx1 : m ≤ 300
        · have hx1' : ¬ (300 : Int) < (m : Int) := by omega
          obtain ⟨P, hP⟩ : ∃ P, L + m = P := ⟨_, rfl⟩
          have hPb : P ≤ L + 300 := by omega
          have hPi : (L : Int) + (m : Int) = (P : Int) := by omega
          obtain ⟨B1, hB1⟩ : ∃ B1, nb + ((P : Int) / 64 - (L : Int) / 64) = B1 := ⟨_, rfl⟩
          have hE1 : nb + (((all.length + x.length) / 64 - all.length / 64 : Nat) : Int) = B1 := by have h1 := HP.out.len; have h2 := HM.out; rw [h1, ← h2, ← hB1]; omega
          have hB1a : nb ≤ B1 ∧ B1 ≤ nb + 10 := by omega
          have hLN : (all ++ x).length = P := by rw [List.length_append, HP.out.len, ← HM.out, hP]
          go_wp2_with (at_builtin; go_must ((refine wpList_append_g rfl (.tmp 34) (.tmp 38) rfl (base := bo) (v := .slice A7 L c7) (n := L) (xs := all) rfl HP.out.oo rfl HB.out (by omega) HP.out.bz ?_; intro v1 w3 hown hg hat; obtain ⟨A8, c8, rfl, _⟩ := own_shape hown; have HP3 := Lib.hid (HP.out.app hown hg hat); rw [hP] at HP3; clear hown hg hat)))
          clear hc
          refine wp_region_held_drew (S := fun w' => Hid (Below w.heap.size w w')) (by kernel_rfl) (Lib.hid HP3.out.drew.bel) (fun hHeld => ?_)
          refine wpAnyH_take (i := 0) (oi := { dst := some 47, op := Op.move (Operand.tmp 6), type := 34, pos := "law.go:53", after := #[], guard := none }) (v := ?v0) rfl (by kernel_rfl) (by kernel_rfl) (by kernel_rfl) (fun _ _ _ h => h) (Or.inl ⟨by rfl, ?hy0⟩) hHeld ?rest0
          case hy0 => (intro w hSw; go_simp; try with_reducible rfl)
          try simp only [Act.put, List.setIfInBounds_toArray, List.set_cons_zero, List.set_cons_succ]
          refine wpAnyH_take (i := 1) (oi := { dst := some 48, op := Op.move (Operand.tmp 0), type := 22, pos := "law.go:53", after := #[], guard := none }) (v := ?v1) rfl (by kernel_rfl) (by kernel_rfl) (by kernel_rfl) (fun _ _ _ h => h) (Or.inl ⟨by rfl, ?hy1⟩) hHeld ?rest1
          case hy1 => (intro w hSw; go_simp; try with_reducible rfl)
          try simp only [Act.put, List.setIfInBounds_toArray, List.set_cons_zero, List.set_cons_succ]
          refine wpAnyH_take (i := 2) (oi := { dst := some 49, op := Op.move (Operand.tmp 9), type := 3, pos := "law.go:53", after := #[], guard := none }) (v := ?v2) rfl (by kernel_rfl) (by kernel_rfl) (by kernel_rfl) (fun _ _ _ h => h) (Or.inl ⟨by rfl, ?hy2⟩) hHeld ?rest2
          case hy2 => (intro w hSw; go_simp; try with_reducible rfl)
          try simp only [Act.put, List.setIfInBounds_toArray, List.set_cons_zero, List.set_cons_succ]
          refine wpAnyH_take (i := 3) (oi := { dst := some 50, op := Op.indexAddr 22 (Operand.tmp 48) (Operand.tmp 49), type := 0, pos := "law.go:53", after := #[{ on := 1, ground := Ground.data }, { on := 2, ground := Ground.data }], guard := none }) (v := ?v3) rfl (by kernel_rfl) (by kernel_rfl) (by kernel_rfl) (fun _ _ _ h => h) (Or.inl ⟨by rfl, ?hy3⟩) hHeld ?rest3
          case hy3 => (intro w hSw; go_simp; try with_reducible rfl)
          try simp only [Act.put, List.setIfInBounds_toArray, List.set_cons_zero, List.set_cons_succ]
          refine wpAnyH_take (i := 4) (oi := { dst := some 51, op := Op.load 28 (Operand.tmp 50), type := 28, pos := "law.go:53", after := #[{ on := 3, ground := Ground.data }], guard := none }) (v := ?v4) rfl (by kernel_rfl) (by kernel_rfl) (by kernel_rfl) (fun _ _ _ h => h) (Or.inl ⟨by rfl, ?hy4⟩) hHeld ?rest4
          case hy4 => (intro w hSw; have hc := (HCW.out w hSw.out).1; go_simp; try with_reducible rfl)
          try simp only [Act.put, List.setIfInBounds_toArray, List.set_cons_zero, List.set_cons_succ]
          refine wpAnyH_take (i := 6) (oi := { dst := some 53, op := Op.move (Operand.tmp 0), type := 22, pos := "law.go:53", after := #[], guard := none }) (v := ?v6) rfl (by kernel_rfl) (by kernel_rfl) (by kernel_rfl) (fun _ _ _ h => h) (Or.inl ⟨by rfl, ?hy6⟩) hHeld ?rest6
          case hy6 => (intro w hSw; go_simp; try with_reducible rfl)
          try simp only [Act.put, List.setIfInBounds_toArray, List.set_cons_zero, List.set_cons_succ]
          refine wpAnyH_take (i := 7) (oi := { dst := some 54, op := Op.move (Operand.tmp 9), type := 3, pos := "law.go:53", after := #[], guard := none }) (v := ?v7) rfl (by kernel_rfl) (by kernel_rfl) (by kernel_rfl) (fun _ _ _ h => h) (Or.inl ⟨by rfl, ?hy7⟩) hHeld ?rest7
          case hy7 => (intro w hSw; go_simp; try with_reducible rfl)
          try simp only [Act.put, List.setIfInBounds_toArray, List.set_cons_zero, List.set_cons_succ]
          refine wpAnyH_take (i := 8) (oi := { dst := some 55, op := Op.indexAddr 22 (Operand.tmp 53) (Operand.tmp 54), type := 0, pos := "law.go:53", after := #[{ on := 6, ground := Ground.data }, { on := 7, ground := Ground.data }], guard := none }) (v := ?v8) rfl (by kernel_rfl) (by kernel_rfl) (by kernel_rfl) (fun _ _ _ h => h) (Or.inl ⟨by rfl, ?hy8⟩) hHeld ?rest8
          case hy8 => (intro w hSw; go_simp; try with_reducible rfl)
          try simp only [Act.put, List.setIfInBounds_toArray, List.set_cons_zero, List.set_cons_succ]
          refine wpAnyH_take (i := 9) (oi := { dst := some 56, op := Op.load 28 (Operand.tmp 55), type := 28, pos := "law.go:53", after := #[{ on := 8, ground := Ground.data }], guard := none }) (v := ?v9) rfl (by kernel_rfl) (by kernel_rfl) (by kernel_rfl) (fun _ _ _ h => h) (Or.inl ⟨by rfl, ?hy9⟩) hHeld ?rest9
          case hy9 => (intro w hSw; have hc := (HCW.out w hSw.out).1; go_simp; try with_reducible rfl)
          try simp only [Act.put, List.setIfInBounds_toArray, List.set_cons_zero, List.set_cons_succ]
          refine wpAnyH_take (i := 10) (oi := { dst := some 57, op := Op.call { callee := Callee.builtin Builtin.len, args := #[Operand.tmp 56], argTypes := #[28] }, type := 3, pos := "law.go:53", after := #[{ on := 9, ground := Ground.data }], guard := none }) (v := ?v10) rfl (by kernel_rfl) (by kernel_rfl) (by kernel_rfl) (fun _ _ _ h => h) (Or.inl ⟨by rfl, ?hy10⟩) hHeld ?rest10
          case hy10 => (intro w hSw; go_simp; try with_reducible rfl)
          try simp only [Act.put, List.setIfInBounds_toArray, List.set_cons_zero, List.set_cons_succ]
          refine wpAnyH_ready (rs := [5]) (by kernel_rfl) (by simp) ?_
          refine AllReadyH.cons (o := { dst := some 52, op := Op.call { callee := Callee.value (Operand.func 13), args := #[Operand.tmp 47, Operand.tmp 51], argTypes := #[34, 28] }, type := 3, pos := "law.go:53", after := #[{ on := 0, ground := Ground.data }, { on := 4, ground := Ground.data }], guard := none }) rfl (fun K hK => ?_) AllReadyH.nil
          go_simp
          refine (write_n _ s _ nb lvs all HP3.out.drew.ss HP3.out.drew.en ⟨hnb0, by omega⟩ _ Ax m cx x (HCW.out _ hHeld.out).2 (by omega) (by have := HP.out.len; omega)).mono ?_; intro e w5 hwe; obtain ⟨rfl, lvs1, hpt⟩ := HP3.out.drew.write hwe rfl; rw [hE1] at hpt; rw [← HM.out]; have HP5 := Lib.hid hpt; have HK5 := Lib.hid hpt.bel; clear hpt hwe
          refine hK.out _ _ (HK5) (fun hHeld => ?_)
          clear hK K
          try simp only [Act.put, List.setIfInBounds_toArray, List.set_cons_zero, List.set_cons_succ]
          refine wpAnyH_take (i := 11) (oi := { dst := some 58, op := Op.binOp BinOp.neq 3 (Operand.tmp 52) (Operand.tmp 57) 3, type := 4, pos := "law.go:53", after := #[{ on := 5, ground := Ground.data }, { on := 10, ground := Ground.data }], guard := none }) (v := ?v11) rfl (by kernel_rfl) (by kernel_rfl) (by kernel_rfl) (fun _ _ _ h => h) (Or.inl ⟨by rfl, ?hy11⟩) hHeld ?rest11
          case hy11 => (intro w hSw; go_simp; try with_reducible rfl)
          try simp only [Act.put, List.setIfInBounds_toArray, List.set_cons_zero, List.set_cons_succ]
          refine wpAnyH_take (i := 12) (oi := { dst := some 59, op := Op.move (Operand.tmp 58), type := 4, pos := "law.go:53", after := #[{ on := 11, ground := Ground.data }, { on := 5, ground := Ground.chain }], guard := none }) (v := ?v12) rfl (by kernel_rfl) (by kernel_rfl) (by kernel_rfl) (fun _ _ _ h => h) (Or.inl ⟨by rfl, ?hy12⟩) hHeld ?rest12
          case hy12 => (intro w hSw; go_simp; try with_reducible rfl)
          try simp only [Act.put, List.setIfInBounds_toArray, List.set_cons_zero, List.set_cons_succ]
          refine wpAnyH_take (i := 13) (oi := { dst := some 60, op := Op.move (Operand.tmp 6), type := 34, pos := "law.go:53", after := #[{ on := 12, ground := Ground.guard }], guard := some (12, false) }) (v := ?v13) rfl (by kernel_rfl) (by kernel_rfl) (by kernel_rfl) (fun _ _ _ h => h) (Or.inl ⟨by rfl, ?hy13⟩) hHeld ?rest13
          case hy13 => (intro w hSw; go_simp; try with_reducible rfl)
          try simp only [Act.put, List.setIfInBounds_toArray, List.set_cons_zero, List.set_cons_succ]
          refine wpAnyH_take (i := 15) (oi := { dst := some 62, op := Op.move (Operand.tmp 7), type := 28, pos := "law.go:53", after := #[{ on := 12, ground := Ground.guard }], guard := some (12, false) }) (v := ?v15) rfl (by kernel_rfl) (by kernel_rfl) (by kernel_rfl) (fun _ _ _ h => h) (Or.inl ⟨by rfl, ?hy15⟩) hHeld ?rest15
          case hy15 => (intro w hSw; go_simp; try with_reducible rfl)
          try simp only [Act.put, List.setIfInBounds_toArray, List.set_cons_zero, List.set_cons_succ]
          refine wpAnyH_take (i := 16) (oi := { dst := some 63, op := Op.call { callee := Callee.builtin Builtin.len, args := #[Operand.tmp 62], argTypes := #[28] }, type := 3, pos := "law.go:53", after := #[{ on := 15, ground := Ground.data }, { on := 12, ground := Ground.guard }], guard := some (12, false) }) (v := ?v16) rfl (by kernel_rfl) (by kernel_rfl) (by kernel_rfl) (fun _ _ _ h => h) (Or.inl ⟨by rfl, ?hy16⟩) hHeld ?rest16
          case hy16 => (intro w hSw; go_simp; try with_reducible rfl)
          try simp only [Act.put, List.setIfInBounds_toArray, List.set_cons_zero, List.set_cons_succ]
          refine wpAnyH_ready (rs := [14]) (by kernel_rfl) (by simp) ?_
          refine AllReadyH.cons (o := { dst := some 61, op := Op.call { callee := Callee.value (Operand.func 14), args := #[Operand.tmp 60], argTypes := #[34] }, type := 3, pos := "law.go:53", after := #[{ on := 13, ground := Ground.data }, { on := 12, ground := Ground.chain }, { on := 12, ground := Ground.guard }], guard := some (12, false) }) rfl (fun K hK => ?_) AllReadyH.nil
          go_simp
          refine (len_any _ s _ _ _ HP5.out.ss).mono ?_; rintro e w14 ⟨rfl, rfl⟩; rw [hLN]; have HK14 := hHeld
          refine hK.out _ _ (HK14) (fun hHeld => ?_)
          clear hK K
          try simp only [Act.put, List.setIfInBounds_toArray, List.set_cons_zero, List.set_cons_succ]
          refine wpAnyH_take (i := 17) (oi := { dst := some 64, op := Op.binOp BinOp.neq 3 (Operand.tmp 61) (Operand.tmp 63) 3, type := 4, pos := "law.go:53", after := #[{ on := 14, ground := Ground.data }, { on := 16, ground := Ground.data }, { on := 12, ground := Ground.guard }], guard := some (12, false) }) (v := ?v17) rfl (by kernel_rfl) (by kernel_rfl) (by kernel_rfl) (fun _ _ _ h => h) (Or.inl ⟨by rfl, ?hy17⟩) hHeld ?rest17
          case hy17 => (intro w hSw; go_simp; try with_reducible rfl)
          try simp only [Act.put, List.setIfInBounds_toArray, List.set_cons_zero, List.set_cons_succ]
          refine wpAnyH_take (i := 18) (oi := { dst := some 65, op := Op.pick (Operand.tmp 59) (Operand.const (Value.bool true)) (Operand.tmp 64), type := 4, pos := "law.go:53", after := #[{ on := 12, ground := Ground.data }, { on := 17, ground := Ground.data }], guard := none }) (v := ?v18) rfl (by kernel_rfl) (by kernel_rfl) (by kernel_rfl) (fun _ _ _ h => h) (Or.inl ⟨by rfl, ?hy18⟩) hHeld ?rest18
          case hy18 => (intro w hSw; go_simp; try with_reducible rfl)
          try simp only [Act.put, List.setIfInBounds_toArray, List.set_cons_zero, List.set_cons_succ]
          refine wpAnyH_done (by kernel_rfl) ?_ _
          clear hHeld HK5 HK14 HP3 HP HCW HM HB hm
          have HL := Lib.hid (Sha.sum_len (all ++ x))
          obtain ⟨new, hnew⟩ : ∃ new, new = all ++ x := ⟨_, rfl⟩
          rw [← hnew] at HL HP5 hLN
          clear hnew hE1 hP hPi hB1
          by_cases hkf : k < n'
          · obtain ⟨adf, fb, rfl, hsf, -, hcf⟩ := HF.out.at_ k hkf
            have hkf' : (k : Int) < (n' : Int) := by omega
            have hcf' := (HP5.out.bel.cell (p := adf.add k) (by rw [block_of_add]; exact hsf)).trans hcf
            clear hcf hsf
            cases fb with
            | true =>
              go_wp2_with fail
              refine (ssum_any w5 s w.heap.size B1 _ _ HP5.out.ss HP5.out.en ⟨by omega, by omega⟩ (by omega)).mono ?_
              rintro e w6 ⟨rfl, hen, hgr⟩
              obtain ⟨B2, hB2⟩ : ∃ B2, B1 + (((P : Int) + 72) / 64 - (P : Int) / 64) = B2 := ⟨_, rfl⟩
              have hE2 : B1 + (((new.length + 72) / 64 - new.length / 64 : Nat) : Int) = B2 := by rw [hLN, ← hB2]; omega
              have hB2a : B1 ≤ B2 ∧ B2 ≤ B1 + 10 := by omega
              rw [hE2] at hen
              have HP6 := Lib.hid (HP5.out.engine hen hgr)
              clear hen hgr HP5 hE2
              go_wp2_with fail
              obtain ⟨A9, c9, hv, hbs⟩ := HP6.out.read
              injection hv with e1 e2 e3
              subst e1
              subst e3
              refine (rsum_n w6 _ A8 P c8 new hbs (by omega)).mono ?_
              rintro e w7 ⟨rfl, hb7⟩
              have HP7 := Lib.hid (HP6.out.after hb7)
              clear hb7 hbs HP6
              go_wp2_with (refine wl_notneN rfl (.tmp 77) (.tmp 79) 30 rfl rfl rfl HL.out ?_)
              refine (rblocks_any P (by omega) w7).mono ?_
              rintro e w8 ⟨rfl, rfl⟩
              go_wp2_with fail
              refine (blocks_any w7 w.heap.size B2 (.inl HP7.out.en)).mono ?_
              rintro e w8 ⟨rfl, rfl⟩
              go_wp2_with fail
              exact ⟨⟨k + 1, P, A8, c8, B2, lvs1, new, by omega, by go_num, rfl, rfl, by omega, by omega, by omega, HP7⟩, by simp [intOf]; omega⟩
            | false =>
              go_wp2_with fail
              refine (blocks_any w5 w.heap.size B1 (.inl HP5.out.en)).mono ?_
              rintro e w6 ⟨rfl, rfl⟩
              go_wp2_with fail
              exact ⟨⟨k + 1, P, A8, c8, B1, lvs1, new, by omega, by go_num, rfl, rfl, by omega, by omega, by omega, HP5⟩, by simp [intOf]; omega⟩
          · have hkf' : ¬ (k : Int) < (n' : Int) := by omega
            go_wp2_with fail
            refine (blocks_any w5 w.heap.size B1 (.inl HP5.out.en)).mono ?_
            rintro e w6 ⟨rfl, rfl⟩
            go_wp2_with fail
            exact ⟨⟨k + 1, P, A8, c8, B1, lvs1, new, by omega, by go_num, rfl, rfl, by omega, by omega, by omega, HP5⟩, by simp [intOf]; omega⟩
        · have hx1' : (300 : Int) < (m : Int) := by omega
          go_wp2_with fail
          refine (alive_any wr).mono ?_
          rintro e w3 ⟨rfl, hb3⟩
          have HF := Lib.hid (HP.out.bel.trans (hb3.mono HP.out.bel.size))
          clear hb3
          go_wp2_with fail
          go_ret
          exact ⟨rfl, HF.out⟩
      · obtain rfl : k = n := by omega
        have HL := Lib.hid (Sha.sum_len all)
        have hLL := HP.out.len
        go_wp2_with fail
        refine (ssum_any wr s w.heap.size nb _ _ HP.out.ss HP.out.en ⟨by omega, by omega⟩ (by omega)).mono ?_
        rintro e w6 ⟨rfl, hen, hgr⟩
        have HP6 := Lib.hid (HP.out.engine hen hgr)
        clear hen hgr HP
        go_wp2_with fail
        obtain ⟨A9, c9, hv, hbs⟩ := HP6.out.read
        injection hv with e1 e2 e3
        subst e1
        subst e3
        refine (rsum_n w6 _ A7 L c7 all hbs (by omega)).mono ?_
        rintro e w7 ⟨rfl, hb7⟩
        have HP7 := Lib.hid (HP6.out.after hb7).bel
        clear hb7 hbs HP6
        go_wp2_with (refine wl_sameN rfl (.tmp 95) (.tmp 97) 30 rfl rfl rfl HL.out ?_)
        refine (alive_any _).mono ?_
        rintro e w8 ⟨rfl, hb⟩
        have HB8 := Lib.hid (HP7.out.trans (hb.mono HP7.out.size))
        clear hb HP7
        go_wp2_with fail
        go_ret
        exact ⟨rfl, HB8.out⟩
  · have hn' : (20 : Int) < (n : Int) := by omega
    go_wp2_with fail
    refine (alive_any w).mono ?_
    rintro e w1 ⟨rfl, hb1⟩
    have HB := Lib.hid hb1
    clear hb1
    go_wp2_with fail
    go_ret
    exact ⟨rfl, HB.out⟩
end Go.Proofs.Ytepcbnkhfiphdaa
