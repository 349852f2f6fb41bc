/- The walk of ShaSums. Conditions: each theorem's premises. -/
import Derived.Test.YtepcbnkhfiphdaaL0
namespace Go.Proofs.Ytepcbnkhfiphdaa
open Go.RowKit
/-- What a round of ShaSums keeps. -/
structure Su (w wr : World) (g b0 : Nat) (v : Value) (n : Nat) (l : List (List UInt8)) (M : Int) : Prop where
  eng : ∃ nb : Int, Eng wr g nb ∧ 0 ≤ nb ∧ nb ≤ M
  own : wr.ownsRow b0 30 32 v n (HV (sums l))
  bel : Below w.heap.size w wr
  lo : w.heap.size ≤ g
  lt : g < b0
theorem Su.mono {w wr : World} {g b0 n : Nat} {v : Value} {l : List (List UInt8)} {M M' : Int} (h : Su w wr g b0 v n l M) (hM : M ≤ M') : Su w wr g b0 v n l M' := by
  obtain ⟨nb, h1, h2, h3⟩ := h.eng
  exact ⟨⟨nb, h1, h2, by omega⟩, h.own, h.bel, h.lo, h.lt⟩
theorem Su.after {w wr w' : World} {g b0 n : Nat} {v : Value} {l : List (List UInt8)} {M : Int} (h : Su w wr g b0 v n l M) (hb : Below wr.heap.size wr w') : Su w w' g b0 v n l M := by
  obtain ⟨nb, h1, h2, h3⟩ := h.eng
  exact ⟨⟨nb, h1.after hb, h2, h3⟩, own_but h.own (Only.of_after (X := fun _ => False) hb) (fun _ _ e => e), h.bel.trans (hb.mono h.bel.size), h.lo, h.lt⟩
/-- What the drawn region of ShaSums keeps. -/
structure Sq (w wr : World) (g b0 : Nat) (v : Value) (n : Nat) (l : List (List UInt8)) (M : Int) (b : Nat) (y : List UInt8) : Prop where
  su : Su w wr g b0 v n l M
  blk : Blk wr b 30 (NC y)
theorem Sq.sum {w wr w' : World} {g b0 n b : Nat} {v : Value} {l : List (List UInt8)} {M M' : Int} {y : List UInt8} {nb : Int} (h : Sq w wr g b0 v n l M b y) (hE : Eng w' g nb) (h0 : 0 ≤ nb ∧ nb ≤ M') (hg : wr.grownBy w' (some g)) (hb : g < b) : Sq w w' g b0 v n l M' b y := by
  have o1 : Only (fun j => j = g) wr w' := Only.of_grown hg (fun j e => by injection e with e; exact e.symm)
  refine ⟨⟨⟨nb, hE, h0.1, h0.2⟩, own_but h.su.own o1 (fun k e he => ?_), h.su.bel.trans (only_below hg h.su.lo h.su.bel.size), h.su.lo, h.su.lt⟩, h.blk.but o1 (fun e => by omega)⟩
  have := own_base h.su.own k e
  have := h.su.lt
  omega
set_option maxRecDepth 100000 in
set_option maxHeartbeats 1000000 in
theorem shaSums_any (w : World) (S : Nat → Prop) (A : Option Addr) (n c : Nat) (l : List (List UInt8)) (hx : RR w S A n c l) :
    Calls Try.prog 3 #[.slice A n c] w fun e w' => e = .returned (.bool true) ∧ Below w.heap.size w w' := by
  have HX := Lib.hid hx.old
  clear hx
  go_enter Try.func3, Try.ntmps3
  by_cases hn : n ≤ 20
  · have hn' : ¬ (20 : Int) < (n : Int) := by omega
    go_wp2_with fail
    refine (new_any w).mono ?_
    rintro e w1 ⟨rfl, hE, hb1⟩
    obtain ⟨g, hg⟩ : ∃ g, g = w.heap.size := ⟨_, rfl⟩
    rw [← hg] at hE
    rw [← hg]
    have HE := Lib.hid hE
    have HB1 := Lib.hid hb1
    have HX1 := Lib.hid (HX.out.below hb1)
    have hgl := hE.lt
    clear hE hb1
    go_wp2_with fail
    rw [← hg]
    refine (many_any w1 g 0 HE.out (by omega) (Lo w.heap.size) A n c l HX1.out (fun k hk _ e => by have : k < w.heap.size := hk; omega) hn).mono ?_
    rintro e w2 ⟨v, rfl, hown, ⟨nb', hE2, hn0, hn1⟩, hg2⟩
    obtain ⟨A2, c2, rfl, -⟩ := own_shape hown
    have HU : Hid (Su w w2 g w1.heap.size (.slice A2 n c2) n l 1000000000000000) := Lib.hid ⟨⟨nb', hE2, hn0, hn1⟩, hown, HB1.out.trans (only_below hg2 (by omega) HB1.out.size), by omega, hgl⟩
    clear hE2 hown hg2
    go_wp2_with fail
    go_loopw [5] (fun v5 wr => ∃ k : Nat, k ≤ n ∧ v5 = .int .i64 (k : Int) ∧ Hid (Su w wr g w1.heap.size (.slice A2 n c2) n l (1000000000000000 + 100 * (k : Int)))) (fun v5 _ => n - (intOf v5).toNat)
    case atStart => exact ⟨0, by omega, rfl, HU⟩
    case round =>
      subst hg
      obtain ⟨k, hk, rfl, HS⟩ := hrel
      by_cases hlt : k < n
      · have hlt' : (k : Int) < (n : Int) := by omega
        obtain ⟨ad, A', c', x, rfl, hs, Hl, hc, hb, hm⟩ := HX.out.at_ k hlt
        have HCW : Hid (∀ w', Below w.heap.size w w' → w'.cell? (ad.add k) = some (.slice A' x.length c') ∧ Bs w' (Lo w.heap.size) A' x.length c' x) := Lib.hid fun w' h => ⟨(h.cell (by rw [block_of_add]; exact hs)).trans hc, hb.below h⟩
        clear hb hs hc
        have hc := (HCW.out _ HS.out.bel).1
        have HB := Lib.hid (HCW.out _ HS.out.bel).2
        by_cases hx1 : x.length ≤ 1000
        · have hx1' : ¬ (1000 : Int) < (x.length : Int) := by omega
          go_wp2_with fail
          refine (rsum_any wr _ A' c' x HB.out (by omega)).mono ?_
          rintro e w3 ⟨rfl, hb3⟩
          have HS3 := Lib.hid (HS.out.after hb3)
          have HBX := Lib.hid (box30 w3)
          have HL := Lib.hid (Sha.sum_len x)
          clear hb3
          obtain ⟨y, hy⟩ : ∃ y, y = Sha.sum x := ⟨_, rfl⟩
          rw [← hy] at HL
          rw [← hy]
          have HY := Lib.hid hy
          clear hy
          go_wp2_with (obtain ⟨W0, hW0⟩ : ∃ W0, W0 = w3.alloc (.cells #[.int .u8 0, .int .u8 0, .int .u8 0, .int .u8 0, .int .u8 0, .int .u8 0, .int .u8 0, .int .u8 0, .int .u8 0, .int .u8 0, .int .u8 0, .int .u8 0, .int .u8 0, .int .u8 0, .int .u8 0, .int .u8 0, .int .u8 0, .int .u8 0, .int .u8 0, .int .u8 0, .int .u8 0, .int .u8 0, .int .u8 0, .int .u8 0, .int .u8 0, .int .u8 0, .int .u8 0, .int .u8 0, .int .u8 0, .int .u8 0, .int .u8 0, .int .u8 0] 30) := ⟨_, rfl⟩; rw [← hW0] at HBX; rw [← hW0]; have HB0 := Lib.hid (show Below w3.heap.size w3 W0 by rw [hW0]; exact (Below.refl _ _).alloc (Nat.le_refl _) _); clear hW0; refine wl_stN rfl (.tmp 6) (.tmp 37) rfl rfl HL.out rfl HBX.out (UB.size _) ?_; intro w4 hb4 hg4)
          obtain ⟨nb4, he4, h40, h41⟩ := (HS3.out.after HB0.out).eng
          have hg3 : w.heap.size < w3.heap.size := by
            obtain ⟨nb3, he3, -⟩ := HS3.out.eng
            exact he3.lt
          have HS4 : Hid (Sq w w4 w.heap.size w1.heap.size (.slice A2 n c2) n l (1000000000000000 + 100 * (k : Int)) w3.heap.size y) := Lib.hid (by
            have o1 : Only (fun j => j = w3.heap.size) W0 w4 := Only.of_grown hg4 (fun j e => by injection e with e; exact e.symm)
            have hu := HS3.out.after HB0.out
            refine ⟨⟨⟨nb4, he4.but o1 (by omega), h40, h41⟩, own_but hu.own o1 (fun j e he => ?_), hu.bel.trans (only_below hg4 (Nat.le_of_lt hg3) hu.bel.size), hu.lo, hu.lt⟩, hb4⟩
            have := (HS3.out.own.lt j e).2
            omega)
          clear hb4 hg4 he4 h40 h41 nb4
          obtain ⟨nb4, he4, h40, h41⟩ := HS4.out.su.eng
          have hYK : (sums l)[k]? = some y := by
            unfold sums
            rw [List.getElem?_map, Hl.out, HY.out]
            rfl
          obtain ⟨bm, hA2, hbm, -⟩ := hv_at HS4.out.su.own (sums_len l) hYK
          subst hA2
          have HMV : Hid (∀ w', Hid (Sq w w' w.heap.size w1.heap.size (.slice (some ⟨bm, 0, none⟩) n c2) n l (1000000000000000 + 100 * ((k + 1 : Nat) : Int)) w3.heap.size y) → ∀ j v, (u8s y)[j]? = some v → w'.cell? ((⟨bm, k * 32, none⟩ : Addr).add j) = some v) := Lib.hid fun w' h => by
            obtain ⟨b', e, -, hh⟩ := hv_at h.out.su.own (sums_len l) hYK
            injection e with e
            injection e with e
            subst e
            exact hh
          clear hc
          refine wp_region_held_drew (S := fun w' => Hid (Sq w w' w.heap.size w1.heap.size (.slice (some ⟨bm, 0, none⟩) n c2) n l (1000000000000000 + 100 * ((k + 1 : Nat) : Int)) w3.heap.size y)) (by kernel_rfl) ?_ (fun hHeld => ?_)
          · exact Lib.hid ⟨(HS4.out.su.mono (by omega)).after ((Below.refl _ _).drew), HS4.out.blk.after ((Below.refl _ _).drew)⟩
          refine wpAnyH_take (i := 0) (oi := { dst := some 38, op := Op.move (Operand.tmp 3), type := 24, pos := "law.go:30", after := #[], guard := none }) (v := ?v0) rfl (by kernel_rfl) (by kernel_rfl) (by kernel_rfl) (fun _ _ _ h => h) (Or.inl ⟨by rfl, ?hy0⟩) hHeld ?rest0
          case hy0 => (intro w hSw; go_simp; try with_reducible rfl)
          try simp only [Act.put, List.setIfInBounds_toArray, List.set_cons_zero, List.set_cons_succ]
          refine wpAnyH_take (i := 1) (oi := { dst := some 39, op := Op.move (Operand.tmp 0), type := 22, pos := "law.go:30", after := #[], guard := none }) (v := ?v1) rfl (by kernel_rfl) (by kernel_rfl) (by kernel_rfl) (fun _ _ _ h => h) (Or.inl ⟨by rfl, ?hy1⟩) hHeld ?rest1
          case hy1 => (intro w hSw; go_simp; try with_reducible rfl)
          try simp only [Act.put, List.setIfInBounds_toArray, List.set_cons_zero, List.set_cons_succ]
          refine wpAnyH_take (i := 2) (oi := { dst := some 40, op := Op.move (Operand.tmp 5), type := 3, pos := "law.go:30", after := #[], guard := none }) (v := ?v2) rfl (by kernel_rfl) (by kernel_rfl) (by kernel_rfl) (fun _ _ _ h => h) (Or.inl ⟨by rfl, ?hy2⟩) hHeld ?rest2
          case hy2 => (intro w hSw; go_simp; try with_reducible rfl)
          try simp only [Act.put, List.setIfInBounds_toArray, List.set_cons_zero, List.set_cons_succ]
          refine wpAnyH_take (i := 3) (oi := { dst := some 41, op := Op.indexAddr 22 (Operand.tmp 39) (Operand.tmp 40), type := 0, pos := "law.go:30", after := #[{ on := 1, ground := Ground.data }, { on := 2, ground := Ground.data }], guard := none }) (v := ?v3) rfl (by kernel_rfl) (by kernel_rfl) (by kernel_rfl) (fun _ _ _ h => h) (Or.inl ⟨by rfl, ?hy3⟩) hHeld ?rest3
          case hy3 => (intro w hSw; go_simp; try with_reducible rfl)
          try simp only [Act.put, List.setIfInBounds_toArray, List.set_cons_zero, List.set_cons_succ]
          refine wpAnyH_take (i := 4) (oi := { dst := some 42, op := Op.load 28 (Operand.tmp 41), type := 28, pos := "law.go:30", after := #[{ on := 3, ground := Ground.data }], guard := none }) (v := ?v4) rfl (by kernel_rfl) (by kernel_rfl) (by kernel_rfl) (fun _ _ _ h => h) (Or.inl ⟨by rfl, ?hy4⟩) hHeld ?rest4
          case hy4 => (intro w hSw; have hc := (HCW.out w hSw.out.su.bel).1; go_simp; try with_reducible rfl)
          try simp only [Act.put, List.setIfInBounds_toArray, List.set_cons_zero, List.set_cons_succ]
          refine wpAnyH_take (i := 6) (oi := { dst := some 44, op := Op.load 30 (Operand.tmp 6), type := 30, pos := "law.go:30", after := #[], guard := none }) (v := _) rfl (by kernel_rfl) (by kernel_rfl) (by kernel_rfl) (fun _ _ _ h => h) (yields_at rfl rfl rfl HL.out (fun _ h => nc_at h.out.blk)) hHeld ?_
          try simp only [Act.put, List.setIfInBounds_toArray, List.set_cons_zero, List.set_cons_succ]
          refine wpAnyH_ready (rs := [5]) (by kernel_rfl) (by simp) ?_
          refine AllReadyH.cons (o := { dst := some 43, op := Op.call { callee := Callee.value (Operand.func 11), args := #[Operand.tmp 38, Operand.tmp 42], argTypes := #[24, 28] }, type := 30, pos := "law.go:30", after := #[{ on := 0, ground := Ground.data }, { on := 4, ground := Ground.data }], guard := none }) rfl (fun K hK => ?_) AllReadyH.nil
          go_simp
          refine (esum_any _ _ nb4 (he4.after ((Below.refl _ _).drew)) ⟨h40, by omega⟩ _ A' c' x (HCW.out _ hHeld.out.su.bel).2 (fun j hj _ e => by have : j < w.heap.size := hj; omega) hm).mono ?_; rintro e w5 ⟨rfl, he5, hg5⟩; rw [← HY.out]
          refine hK.out _ _ (Lib.hid (hHeld.out.sum (.inl he5) ⟨by omega, by omega⟩ hg5 hg3)) (fun hHeld => ?_)
          clear hK K
          try simp only [Act.put, List.setIfInBounds_toArray, List.set_cons_zero, List.set_cons_succ]
          refine wpAnyH_take (i := 7) (oi := { dst := some 45, op := Op.binOp BinOp.neq 30 (Operand.tmp 43) (Operand.tmp 44) 30, type := 4, pos := "law.go:30", after := #[{ on := 5, ground := Ground.data }, { on := 6, ground := Ground.data }], guard := none }) (v := _) rfl (by kernel_rfl) (by kernel_rfl) (by kernel_rfl) (fun _ _ _ h => h) (yields_notne rfl (.tmp 43) (.tmp 44) 30 rfl rfl rfl HL.out) hHeld ?_
          try simp only [Act.put, List.setIfInBounds_toArray, List.set_cons_zero, List.set_cons_succ]
          refine wpAnyH_take (i := 8) (oi := { dst := some 46, op := Op.move (Operand.tmp 45), type := 4, pos := "law.go:30", after := #[{ on := 7, ground := Ground.data }, { on := 5, ground := Ground.chain }], guard := none }) (v := ?v8) rfl (by kernel_rfl) (by kernel_rfl) (by kernel_rfl) (fun _ _ _ h => h) (Or.inl ⟨by rfl, ?hy8⟩) hHeld ?rest8
          case hy8 => (intro w hSw; go_simp; try with_reducible rfl)
          try simp only [Act.put, List.setIfInBounds_toArray, List.set_cons_zero, List.set_cons_succ]
          refine wpAnyH_take (i := 9) (oi := { dst := some 47, op := Op.move (Operand.tmp 4), type := 26, pos := "law.go:30", after := #[{ on := 8, ground := Ground.guard }], guard := some (8, false) }) (v := ?v9) rfl (by kernel_rfl) (by kernel_rfl) (by kernel_rfl) (fun _ _ _ h => h) (Or.inl ⟨by rfl, ?hy9⟩) hHeld ?rest9
          case hy9 => (intro w hSw; go_simp; try with_reducible rfl)
          try simp only [Act.put, List.setIfInBounds_toArray, List.set_cons_zero, List.set_cons_succ]
          refine wpAnyH_take (i := 10) (oi := { dst := some 48, op := Op.move (Operand.tmp 5), type := 3, pos := "law.go:30", after := #[{ on := 8, ground := Ground.guard }], guard := some (8, false) }) (v := ?v10) rfl (by kernel_rfl) (by kernel_rfl) (by kernel_rfl) (fun _ _ _ h => h) (Or.inl ⟨by rfl, ?hy10⟩) hHeld ?rest10
          case hy10 => (intro w hSw; go_simp; try with_reducible rfl)
          try simp only [Act.put, List.setIfInBounds_toArray, List.set_cons_zero, List.set_cons_succ]
          refine wpAnyH_take (i := 11) (oi := { dst := some 49, op := Op.indexAddr 26 (Operand.tmp 47) (Operand.tmp 48), type := 0, pos := "law.go:30", after := #[{ on := 9, ground := Ground.data }, { on := 10, ground := Ground.data }, { on := 8, ground := Ground.guard }], guard := some (8, false) }) (v := ?v11) rfl (by kernel_rfl) (by kernel_rfl) (by kernel_rfl) (fun _ _ _ h => h) (Or.inl ⟨by rfl, ?hy11⟩) hHeld ?rest11
          case hy11 => (intro w hSw; go_simp; try with_reducible rfl)
          try simp only [Act.put, List.setIfInBounds_toArray, List.set_cons_zero, List.set_cons_succ]
          refine wpAnyH_take (i := 12) (oi := { dst := some 50, op := Op.load 30 (Operand.tmp 49), type := 30, pos := "law.go:30", after := #[{ on := 11, ground := Ground.data }, { on := 8, ground := Ground.guard }], guard := some (8, false) }) (v := _) rfl (by kernel_rfl) (by kernel_rfl) (by kernel_rfl) (fun _ _ _ h => h) (yields_at rfl rfl rfl HL.out (fun _ h => HMV.out _ h)) hHeld ?_
          try simp only [Act.put, List.setIfInBounds_toArray, List.set_cons_zero, List.set_cons_succ]
          refine wpAnyH_take (i := 13) (oi := { dst := some 51, op := Op.load 30 (Operand.tmp 6), type := 30, pos := "law.go:30", after := #[{ on := 8, ground := Ground.guard }], guard := some (8, false) }) (v := _) rfl (by kernel_rfl) (by kernel_rfl) (by kernel_rfl) (fun _ _ _ h => h) (yields_at rfl rfl rfl HL.out (fun _ h => nc_at h.out.blk)) hHeld ?_
          try simp only [Act.put, List.setIfInBounds_toArray, List.set_cons_zero, List.set_cons_succ]
          refine wpAnyH_take (i := 14) (oi := { dst := some 52, op := Op.binOp BinOp.neq 30 (Operand.tmp 50) (Operand.tmp 51) 30, type := 4, pos := "law.go:30", after := #[{ on := 12, ground := Ground.data }, { on := 13, ground := Ground.data }, { on := 8, ground := Ground.guard }], guard := some (8, false) }) (v := _) rfl (by kernel_rfl) (by kernel_rfl) (by kernel_rfl) (fun _ _ _ h => h) (yields_notne rfl (.tmp 50) (.tmp 51) 30 rfl rfl rfl HL.out) hHeld ?_
          try simp only [Act.put, List.setIfInBounds_toArray, List.set_cons_zero, List.set_cons_succ]
          refine wpAnyH_take (i := 15) (oi := { dst := some 53, op := Op.pick (Operand.tmp 46) (Operand.const (Value.bool true)) (Operand.tmp 52), type := 4, pos := "law.go:30", after := #[{ on := 8, ground := Ground.data }, { on := 14, ground := Ground.data }], guard := none }) (v := ?v15) rfl (by kernel_rfl) (by kernel_rfl) (by kernel_rfl) (fun _ _ _ h => h) (Or.inl ⟨by rfl, ?hy15⟩) hHeld ?rest15
          case hy15 => (intro w hSw; go_simp; try with_reducible rfl)
          try simp only [Act.put, List.setIfInBounds_toArray, List.set_cons_zero, List.set_cons_succ]
          refine wpAnyH_done (by kernel_rfl) ?_ _
          have HF := Lib.hid hHeld.out.su
          go_wp2_with fail
          exact ⟨⟨k + 1, by omega, by go_num, HF⟩, by simp [intOf]; omega⟩
        · have hx1' : (1000 : Int) < (x.length : Int) := by omega
          go_wp2_with fail
          refine (alive_any wr).mono ?_
          rintro e w3 ⟨rfl, hb3⟩
          have HF := Lib.hid (HS.out.bel.trans (hb3.mono HS.out.bel.size))
          clear hb3
          go_wp2_with fail
          go_ret
          exact ⟨rfl, HF.out⟩
      · obtain rfl : k = n := by omega
        go_wp2_with fail
        refine (alive_any wr).mono ?_
        rintro e w3 ⟨rfl, hb3⟩
        have HF := Lib.hid (HS.out.bel.trans (hb3.mono HS.out.bel.size))
        clear hb3
        go_wp2_with fail
        go_ret
        exact ⟨rfl, HF.out⟩
  · have hn' : (20 : Int) < (n : Int) := by omega
    go_wp2_with fail
    refine (alive_any w).mono ?_
    rintro e w1 ⟨rfl, hb1⟩
    have HB := Lib.hid hb1
    clear hb1
    go_wp2_with fail
    go_ret
    exact ⟨rfl, HB.out⟩
end Go.Proofs.Ytepcbnkhfiphdaa
