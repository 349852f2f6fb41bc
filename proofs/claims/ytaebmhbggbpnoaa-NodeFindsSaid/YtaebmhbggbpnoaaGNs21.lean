/- The walk of the reference's Sort. Conditions: each theorem's premises. -/
import Derived.Test.YtaebmhbggbpnoaaGNs20
namespace Go.Proofs.Ytaebmhbggbpnoaa
open Go.RowKit
set_option maxRecDepth 100000 in
set_option maxHeartbeats 8000000 in
theorem nd_rsort (w : World) (S : Nat → Prop) (A : Option Addr) (n c : Nat) (l : List EV) (hx : Es w S A n c l) (hn : n ≤ 100000) (hnm : ∀ e ∈ l, e.name.size ≤ 1000000) :
    Calls Try.prog 84 #[.slice A n c] w fun e w' => ∃ A' k c', e = .returned (.slice A' k c') ∧ Es w' (fun j => w.heap.size ≤ j) A' k c' (sortR l n) ∧ Below w.heap.size w w' := by
  have HX := Lib.hid hx
  have HL := Lib.hid hx.len
  have HNM := Lib.hid hnm
  have HOKA : Hid (∀ (j : Nat) (e : EV), j ≤ n → e ∈ sortR l j → e.ok ∧ e.name.size ≤ 1000000) := Lib.hid fun j e hj he => by
    have h1 : e ∈ l := List.mem_of_mem_take (((sortR_spec l j (by rw [hx.len]; exact hj)).2 e).1 he).mem
    exact ⟨by have := hx.all e h1; simp [EC, u8s] at this; exact this, hnm e h1⟩
  clear hx hnm
  go_enter Try.func84, Try.ntmps84
  go_wp2_with fail
  go_loopw [3, 4] (fun v3 v4 wr => ∃ (i m : Nat) (A3 : Option Addr) (c3 : Nat), i ≤ n ∧ m ≤ i ∧ v4 = .int .i64 (i : Int) ∧ v3 = .slice A3 m c3 ∧ Hid (Es wr (fun j => w.heap.size ≤ j) A3 m c3 (sortR l i)) ∧ Hid (Below w.heap.size w wr)) (fun _ v4 _ => n - (intOf v4).toNat)
  case atStart => exact ⟨0, 0, none, 0, Nat.zero_le _, Nat.le_refl _, rfl, rfl, Lib.hid (Ls.nil _ _ _), Lib.hid (Below.refl _ _)⟩
  case round =>
    obtain ⟨i, m, A3, c3, hi, hmi, rfl, rfl, HO, HB⟩ := hrel
    by_cases hlt : i < n
    · have hlt' : (i : Int) < (n : Int) := by omega
      obtain ⟨ad, p, x, rfl, hp, hl, hat, hsz, -⟩ := HX.out.at_ hlt
      obtain ⟨RX, hRX⟩ : ∃ R, R = EC x := ⟨_, rfl⟩
      have HCX : Hid (∀ w', Below w.heap.size w w' → w'.cell? p = some (.string x.name) ∧ At w' p RX) := Lib.hid fun w' hb => by
        have h1 := (hat.out).after hb (hat.out.lt (by rw [hsz]; omega))
        exact ⟨h1.str, by rw [hRX]; exact h1⟩
      have HOK : Hid x.ok := Lib.hid (by have := hsz; simp [EC, u8s] at this; exact this)
      have HRX := Lib.hid hRX
      have HRS : Hid (RX.size = 34) := Lib.hid (by rw [hRX]; exact hsz)
      have HOKL : Hid (∀ e ∈ sortR l (i + 1), e.ok) := Lib.hid fun e he => (HOKA.out (i + 1) e hlt he).1
      clear hat hsz hRX
      go_wp2_with fail
      rename World => wo
      go_loopw [5] (fun v5 ws => ∃ k : Nat, k ≤ m ∧ v5 = .int .i64 (k : Int) ∧ Hid (Below wo.heap.size wo ws) ∧ Hid (∀ (j : Nat) (y : EV), j < k → (sortR l i)[j]? = some y → kl y x)) (fun v5 _ => m - (intOf v5).toNat)
      case atStart => exact ⟨0, Nat.zero_le _, rfl, Lib.hid (Below.refl _ _), Lib.hid (fun j y h => absurd h (Nat.not_lt_zero _))⟩
      case round =>
        obtain ⟨k, hk, rfl, HS, HK⟩ := hrel
        by_cases hkm : k < m
        · have hkm' : (k : Int) < (m : Int) := by omega
          have dk : ((k : Int) == (m : Int)) = false := by simp; omega
          obtain ⟨ad3, p3, y, e, hp3, hl3, hat3, hsz3, -⟩ := HO.out.at_ hkm
          subst e
          have HCY : Hid (∀ w', Below wo.heap.size wo w' → w'.cell? p3 = some (.string y.name)) := Lib.hid fun w' hb => ((hat3.out).after hb (hat3.out.lt (by rw [hsz3]; omega))).str
          have HNY : Hid (y.name.size ≤ 1000000) := Lib.hid (HOKA.out i y hi (List.mem_of_getElem? hl3.out)).2
          obtain ⟨B, hB⟩ : ∃ B, decide (y.name.toList < x.name.toList) = B := ⟨_, rfl⟩
          have HBB : Hid (B = true ↔ kl y x) := Lib.hid (by rw [← hB, decide_eq_true_iff]; rfl)
          have HLS : Hid (∀ W, Calls Try.prog 119 #[.string y.name, .string x.name] W fun e w' => e = .returned (.bool B) ∧ Below W.heap.size W w') := Lib.hid (by rw [← hB]; exact fun W => nd_less W _ _ HNY.out)
          clear hat3 hsz3 hB
          cases B
          · have HNK : Hid (¬ kl y x) := Lib.hid (fun h => by have := HBB.out.2 h; cases this)
            obtain ⟨D, hD⟩ : ∃ D, (y.name.toList == x.name.toList) = D := ⟨_, rfl⟩
            go_wp2_with fail
            refine wp_region_held_drew (S := fun w' => Hid (Below wo.heap.size wo w')) (by kernel_rfl) (Lib.hid (HS.out).drew) (fun hHeld => ?_)
            refine wpAnyH_take (i := 0) (oi := { dst := some 12, op := Op.move (Operand.tmp 5), type := 3, pos := "ref.go:179", after := #[], guard := none }) (v := ?vA0) rfl (by kernel_rfl) (by kernel_rfl) (by kernel_rfl) (fun _ _ _ h => h) (Or.inl ⟨by rfl, ?hyA0⟩) hHeld ?restA0
            case hyA0 => (intro w hSw; go_simp; try with_reducible rfl)
            try simp only [Act.put, List.setIfInBounds_toArray, List.set_cons_zero, List.set_cons_succ]
            refine wpAnyH_take (i := 1) (oi := { dst := some 13, op := Op.move (Operand.tmp 3), type := 82, pos := "ref.go:179", after := #[], guard := none }) (v := ?vA1) rfl (by kernel_rfl) (by kernel_rfl) (by kernel_rfl) (fun _ _ _ h => h) (Or.inl ⟨by rfl, ?hyA1⟩) hHeld ?restA1
            case hyA1 => (intro w hSw; go_simp; try with_reducible rfl)
            try simp only [Act.put, List.setIfInBounds_toArray, List.set_cons_zero, List.set_cons_succ]
            refine wpAnyH_take (i := 2) (oi := { dst := some 14, op := Op.call { callee := Callee.builtin Builtin.len, args := #[Operand.tmp 13], argTypes := #[82] }, type := 3, pos := "ref.go:179", after := #[{ on := 1, ground := Ground.data }], guard := none }) (v := ?vA2) rfl (by kernel_rfl) (by kernel_rfl) (by kernel_rfl) (fun _ _ _ h => h) (Or.inl ⟨by rfl, ?hyA2⟩) hHeld ?restA2
            case hyA2 => (intro w hSw; go_simp; try with_reducible rfl)
            try simp only [Act.put, List.setIfInBounds_toArray, List.set_cons_zero, List.set_cons_succ]
            refine wpAnyH_take (i := 3) (oi := { dst := some 15, op := Op.binOp BinOp.lss 3 (Operand.tmp 12) (Operand.tmp 14) 3, type := 4, pos := "ref.go:179", after := #[{ on := 0, ground := Ground.data }, { on := 2, ground := Ground.data }], guard := none }) (v := ?vA3) rfl (by kernel_rfl) (by kernel_rfl) (by kernel_rfl) (fun _ _ _ h => h) (Or.inl ⟨by rfl, ?hyA3⟩) hHeld ?restA3
            case hyA3 => (intro w hSw; go_simp; try with_reducible rfl)
            try simp only [Act.put, List.setIfInBounds_toArray, List.set_cons_zero, List.set_cons_succ]
            refine wpAnyH_take (i := 4) (oi := { dst := some 16, op := Op.move (Operand.tmp 15), type := 4, pos := "ref.go:179", after := #[{ on := 3, ground := Ground.data }], guard := none }) (v := ?vA4) rfl (by kernel_rfl) (by kernel_rfl) (by kernel_rfl) (fun _ _ _ h => h) (Or.inl ⟨by rfl, ?hyA4⟩) hHeld ?restA4
            case hyA4 => (intro w hSw; go_simp; try with_reducible rfl)
            try simp only [Act.put, List.setIfInBounds_toArray, List.set_cons_zero, List.set_cons_succ]
            refine wpAnyH_take (i := 5) (oi := { dst := some 17, op := Op.move (Operand.tmp 3), type := 82, pos := "ref.go:179", after := #[{ on := 4, ground := Ground.guard }], guard := some (4, true) }) (v := ?vA5) rfl (by kernel_rfl) (by kernel_rfl) (by kernel_rfl) (fun _ _ _ h => h) (Or.inl ⟨by rfl, ?hyA5⟩) hHeld ?restA5
            case hyA5 => (intro w hSw; go_simp; try with_reducible rfl)
            try simp only [Act.put, List.setIfInBounds_toArray, List.set_cons_zero, List.set_cons_succ]
            refine wpAnyH_take (i := 6) (oi := { dst := some 18, op := Op.move (Operand.tmp 5), type := 3, pos := "ref.go:179", after := #[{ on := 4, ground := Ground.guard }], guard := some (4, true) }) (v := ?vA6) rfl (by kernel_rfl) (by kernel_rfl) (by kernel_rfl) (fun _ _ _ h => h) (Or.inl ⟨by rfl, ?hyA6⟩) hHeld ?restA6
            case hyA6 => (intro w hSw; go_simp; try with_reducible rfl)
            try simp only [Act.put, List.setIfInBounds_toArray, List.set_cons_zero, List.set_cons_succ]
            refine wpAnyH_take (i := 7) (oi := { dst := some 19, op := Op.indexAddr 82 (Operand.tmp 17) (Operand.tmp 18), type := 0, pos := "ref.go:179", after := #[{ on := 5, ground := Ground.data }, { on := 6, ground := Ground.data }, { on := 4, ground := Ground.guard }], guard := some (4, true) }) (v := ?vA7) rfl (by kernel_rfl) (by kernel_rfl) (by kernel_rfl) (fun _ _ _ h => h) (Or.inl ⟨by rfl, ?hyA7⟩) hHeld ?restA7
            case hyA7 => (intro w hSw; go_simp; try with_reducible rfl)
            try simp only [Act.put, List.setIfInBounds_toArray, List.set_cons_zero, List.set_cons_succ]
            refine wpAnyH_take (i := 8) (oi := { dst := some 20, op := Op.fieldAddr 182 (Operand.tmp 19) 0, type := 0, pos := "ref.go:179", after := #[{ on := 7, ground := Ground.data }, { on := 4, ground := Ground.guard }], guard := some (4, true) }) (v := ?vA8) rfl (by kernel_rfl) (by kernel_rfl) (by kernel_rfl) (fun _ _ _ h => h) (Or.inl ⟨by rfl, ?hyA8⟩) hHeld ?restA8
            case hyA8 => (intro w hSw; go_simp; try with_reducible rfl)
            try simp only [Act.put, List.setIfInBounds_toArray, List.set_cons_zero, List.set_cons_succ]
            refine wpAnyH_take (i := 9) (oi := { dst := some 21, op := Op.load 9 (Operand.tmp 20), type := 9, pos := "ref.go:179", after := #[{ on := 8, ground := Ground.data }, { on := 4, ground := Ground.guard }], guard := some (4, true) }) (v := ?vA9) rfl (by kernel_rfl) (by kernel_rfl) (by kernel_rfl) (fun _ _ _ h => h) (Or.inl ⟨by rfl, ?hyA9⟩) hHeld ?restA9
            case hyA9 => (intro w hSw; have hc := HCY.out _ (Hid.out hSw); go_simp; try with_reducible rfl)
            try simp only [Act.put, List.setIfInBounds_toArray, List.set_cons_zero, List.set_cons_succ]
            refine wpAnyH_take (i := 10) (oi := { dst := some 22, op := Op.move (Operand.tmp 0), type := 82, pos := "ref.go:179", after := #[{ on := 4, ground := Ground.guard }], guard := some (4, true) }) (v := ?vA10) rfl (by kernel_rfl) (by kernel_rfl) (by kernel_rfl) (fun _ _ _ h => h) (Or.inl ⟨by rfl, ?hyA10⟩) hHeld ?restA10
            case hyA10 => (intro w hSw; go_simp; try with_reducible rfl)
            try simp only [Act.put, List.setIfInBounds_toArray, List.set_cons_zero, List.set_cons_succ]
            refine wpAnyH_take (i := 11) (oi := { dst := some 23, op := Op.move (Operand.tmp 4), type := 3, pos := "ref.go:179", after := #[{ on := 4, ground := Ground.guard }], guard := some (4, true) }) (v := ?vA11) rfl (by kernel_rfl) (by kernel_rfl) (by kernel_rfl) (fun _ _ _ h => h) (Or.inl ⟨by rfl, ?hyA11⟩) hHeld ?restA11
            case hyA11 => (intro w hSw; go_simp; try with_reducible rfl)
            try simp only [Act.put, List.setIfInBounds_toArray, List.set_cons_zero, List.set_cons_succ]
            refine wpAnyH_take (i := 12) (oi := { dst := some 24, op := Op.indexAddr 82 (Operand.tmp 22) (Operand.tmp 23), type := 0, pos := "ref.go:179", after := #[{ on := 10, ground := Ground.data }, { on := 11, ground := Ground.data }, { on := 4, ground := Ground.guard }], guard := some (4, true) }) (v := ?vA12) rfl (by kernel_rfl) (by kernel_rfl) (by kernel_rfl) (fun _ _ _ h => h) (Or.inl ⟨by rfl, ?hyA12⟩) hHeld ?restA12
            case hyA12 => (intro w hSw; go_simp; try with_reducible rfl)
            try simp only [Act.put, List.setIfInBounds_toArray, List.set_cons_zero, List.set_cons_succ]
            refine wpAnyH_take (i := 13) (oi := { dst := some 25, op := Op.fieldAddr 182 (Operand.tmp 24) 0, type := 0, pos := "ref.go:179", after := #[{ on := 12, ground := Ground.data }, { on := 4, ground := Ground.guard }], guard := some (4, true) }) (v := ?vA13) rfl (by kernel_rfl) (by kernel_rfl) (by kernel_rfl) (fun _ _ _ h => h) (Or.inl ⟨by rfl, ?hyA13⟩) hHeld ?restA13
            case hyA13 => (intro w hSw; go_simp; try with_reducible rfl)
            try simp only [Act.put, List.setIfInBounds_toArray, List.set_cons_zero, List.set_cons_succ]
            refine wpAnyH_take (i := 14) (oi := { dst := some 26, op := Op.load 9 (Operand.tmp 25), type := 9, pos := "ref.go:179", after := #[{ on := 13, ground := Ground.data }, { on := 4, ground := Ground.guard }], guard := some (4, true) }) (v := ?vA14) rfl (by kernel_rfl) (by kernel_rfl) (by kernel_rfl) (fun _ _ _ h => h) (Or.inl ⟨by rfl, ?hyA14⟩) hHeld ?restA14
            case hyA14 => (intro w hSw; have hc := (HCX.out _ (HB.out.trans ((Hid.out hSw).mono HB.out.size))).1; go_simp; try with_reducible rfl)
            try simp only [Act.put, List.setIfInBounds_toArray, List.set_cons_zero, List.set_cons_succ]
            refine wpAnyH_ready (rs := [15]) (by kernel_rfl) (by simp) ?_
            refine AllReadyH.cons (o := { dst := some 27, op := Op.call { callee := Callee.value (Operand.func 119), args := #[Operand.tmp 21, Operand.tmp 26], argTypes := #[9, 9] }, type := 4, pos := "ref.go:179", after := #[{ on := 9, ground := Ground.data }, { on := 14, ground := Ground.data }, { on := 4, ground := Ground.chain }, { on := 4, ground := Ground.guard }], guard := some (4, true) }) rfl (fun K hK => ?_) AllReadyH.nil
            go_simp
            refine (HLS.out _).mono ?_; rintro e wq15 ⟨rfl, hq15⟩; have HQ15 := Lib.hid hq15; clear hq15
            refine hK.out _ _ ((Lib.hid ((Hid.out hHeld).trans (HQ15.out.mono (Hid.out hHeld).size)))) (fun hHeld => ?_)
            clear hK K
            try simp only [Act.put, List.setIfInBounds_toArray, List.set_cons_zero, List.set_cons_succ]
            refine wpAnyH_take (i := 16) (oi := { dst := some 28, op := Op.pick (Operand.tmp 16) (Operand.tmp 27) (Operand.const (Value.bool false)), type := 4, pos := "ref.go:179", after := #[{ on := 4, ground := Ground.data }, { on := 15, ground := Ground.data }], guard := none }) (v := ?vA16) rfl (by kernel_rfl) (by kernel_rfl) (by kernel_rfl) (fun _ _ _ h => h) (Or.inl ⟨by rfl, ?hyA16⟩) hHeld ?restA16
            case hyA16 => (intro w hSw; go_simp; try with_reducible rfl)
            try simp only [Act.put, List.setIfInBounds_toArray, List.set_cons_zero, List.set_cons_succ]
            refine wpAnyH_done (by kernel_rfl) ?_ _
            go_wp2_with fail
            cases D
            · have HEQ : Hid (sortR l (i + 1) = (([] ++ (sortR l i).take k) ++ [x]) ++ (sortR l i).drop k) := Lib.hid (by
                rw [sortR_next hl.out, insR_at HK.out hl3.out HNK.out, if_neg (fun h => by rw [h] at hD; simp at hD), List.nil_append])
              obtain ⟨q, hq⟩ : ∃ q, m - k = q := ⟨_, rfl⟩
              have HKM : Hid (k + q = m) := Lib.hid (by omega)
              obtain ⟨Au, cu, hcu, hsu⟩ := HO.out.uptoE (k := k) hk
              obtain ⟨Af, cf, hcf, hsf⟩ := HO.out.fromE HKM.out
              have HEU : Hid (∀ w', Below wo.heap.size wo w' → Es w' (fun j => w.heap.size ≤ j) Au k cu ((sortR l i).take k) ∧ Es w' (fun j => w.heap.size ≤ j) Af q cf ((sortR l i).drop k)) := Lib.hid fun w' h => ⟨hsu.after (by omega) h, hsf.after (by omega) h⟩
              have hqm : q ≤ m := by omega
              have hqk : k + q ≤ i := by omega
              clear hsu hsf hq
              refine wp_region_held_drew (S := fun w' => Hid (Below wo.heap.size wo w')) (by kernel_rfl) (Lib.hid ((Hid.out hHeld)).drew) (fun hHeld => ?_)
              refine wpAnyH_take (i := 0) (oi := { dst := some 31, op := Op.move (Operand.tmp 5), type := 3, pos := "ref.go:182", after := #[], guard := none }) (v := ?vAB0) rfl (by kernel_rfl) (by kernel_rfl) (by kernel_rfl) (fun _ _ _ h => h) (Or.inl ⟨by rfl, ?hyAB0⟩) hHeld ?restAB0
              case hyAB0 => (intro w hSw; go_simp; try with_reducible rfl)
              try simp only [Act.put, List.setIfInBounds_toArray, List.set_cons_zero, List.set_cons_succ]
              refine wpAnyH_take (i := 1) (oi := { dst := some 32, op := Op.move (Operand.tmp 3), type := 82, pos := "ref.go:182", after := #[], guard := none }) (v := ?vAB1) rfl (by kernel_rfl) (by kernel_rfl) (by kernel_rfl) (fun _ _ _ h => h) (Or.inl ⟨by rfl, ?hyAB1⟩) hHeld ?restAB1
              case hyAB1 => (intro w hSw; go_simp; try with_reducible rfl)
              try simp only [Act.put, List.setIfInBounds_toArray, List.set_cons_zero, List.set_cons_succ]
              refine wpAnyH_take (i := 2) (oi := { dst := some 33, op := Op.call { callee := Callee.builtin Builtin.len, args := #[Operand.tmp 32], argTypes := #[82] }, type := 3, pos := "ref.go:182", after := #[{ on := 1, ground := Ground.data }], guard := none }) (v := ?vAB2) rfl (by kernel_rfl) (by kernel_rfl) (by kernel_rfl) (fun _ _ _ h => h) (Or.inl ⟨by rfl, ?hyAB2⟩) hHeld ?restAB2
              case hyAB2 => (intro w hSw; go_simp; try with_reducible rfl)
              try simp only [Act.put, List.setIfInBounds_toArray, List.set_cons_zero, List.set_cons_succ]
              refine wpAnyH_take (i := 3) (oi := { dst := some 34, op := Op.binOp BinOp.eql 3 (Operand.tmp 31) (Operand.tmp 33) 3, type := 4, pos := "ref.go:182", after := #[{ on := 0, ground := Ground.data }, { on := 2, ground := Ground.data }], guard := none }) (v := ?vAB3) rfl (by kernel_rfl) (by kernel_rfl) (by kernel_rfl) (fun _ _ _ h => h) (Or.inl ⟨by rfl, ?hyAB3⟩) hHeld ?restAB3
              case hyAB3 => (intro w hSw; go_simp; try with_reducible rfl)
              try simp only [Act.put, List.setIfInBounds_toArray, List.set_cons_zero, List.set_cons_succ]
              refine wpAnyH_take (i := 4) (oi := { dst := some 35, op := Op.move (Operand.tmp 34), type := 4, pos := "ref.go:182", after := #[{ on := 3, ground := Ground.data }], guard := none }) (v := ?vAB4) rfl (by kernel_rfl) (by kernel_rfl) (by kernel_rfl) (fun _ _ _ h => h) (Or.inl ⟨by rfl, ?hyAB4⟩) hHeld ?restAB4
              case hyAB4 => (intro w hSw; go_simp; try with_reducible rfl)
              try simp only [Act.put, List.setIfInBounds_toArray, List.set_cons_zero, List.set_cons_succ]
              refine wpAnyH_take (i := 5) (oi := { dst := some 36, op := Op.move (Operand.tmp 3), type := 82, pos := "ref.go:182", after := #[{ on := 4, ground := Ground.guard }], guard := some (4, false) }) (v := ?vAB5) rfl (by kernel_rfl) (by kernel_rfl) (by kernel_rfl) (fun _ _ _ h => h) (Or.inl ⟨by rfl, ?hyAB5⟩) hHeld ?restAB5
              case hyAB5 => (intro w hSw; go_simp; try with_reducible rfl)
              try simp only [Act.put, List.setIfInBounds_toArray, List.set_cons_zero, List.set_cons_succ]
              refine wpAnyH_take (i := 6) (oi := { dst := some 37, op := Op.move (Operand.tmp 5), type := 3, pos := "ref.go:182", after := #[{ on := 4, ground := Ground.guard }], guard := some (4, false) }) (v := ?vAB6) rfl (by kernel_rfl) (by kernel_rfl) (by kernel_rfl) (fun _ _ _ h => h) (Or.inl ⟨by rfl, ?hyAB6⟩) hHeld ?restAB6
              case hyAB6 => (intro w hSw; go_simp; try with_reducible rfl)
              try simp only [Act.put, List.setIfInBounds_toArray, List.set_cons_zero, List.set_cons_succ]
              refine wpAnyH_take (i := 7) (oi := { dst := some 38, op := Op.indexAddr 82 (Operand.tmp 36) (Operand.tmp 37), type := 0, pos := "ref.go:182", after := #[{ on := 5, ground := Ground.data }, { on := 6, ground := Ground.data }, { on := 4, ground := Ground.guard }], guard := some (4, false) }) (v := ?vAB7) rfl (by kernel_rfl) (by kernel_rfl) (by kernel_rfl) (fun _ _ _ h => h) (Or.inl ⟨by rfl, ?hyAB7⟩) hHeld ?restAB7
              case hyAB7 => (intro w hSw; go_simp; try with_reducible rfl)
              try simp only [Act.put, List.setIfInBounds_toArray, List.set_cons_zero, List.set_cons_succ]
              refine wpAnyH_take (i := 8) (oi := { dst := some 39, op := Op.fieldAddr 182 (Operand.tmp 38) 0, type := 0, pos := "ref.go:182", after := #[{ on := 7, ground := Ground.data }, { on := 4, ground := Ground.guard }], guard := some (4, false) }) (v := ?vAB8) rfl (by kernel_rfl) (by kernel_rfl) (by kernel_rfl) (fun _ _ _ h => h) (Or.inl ⟨by rfl, ?hyAB8⟩) hHeld ?restAB8
              case hyAB8 => (intro w hSw; go_simp; try with_reducible rfl)
              try simp only [Act.put, List.setIfInBounds_toArray, List.set_cons_zero, List.set_cons_succ]
              refine wpAnyH_take (i := 9) (oi := { dst := some 40, op := Op.load 9 (Operand.tmp 39), type := 9, pos := "ref.go:182", after := #[{ on := 8, ground := Ground.data }, { on := 4, ground := Ground.guard }], guard := some (4, false) }) (v := ?vAB9) rfl (by kernel_rfl) (by kernel_rfl) (by kernel_rfl) (fun _ _ _ h => h) (Or.inl ⟨by rfl, ?hyAB9⟩) hHeld ?restAB9
              case hyAB9 => (intro w hSw; have hc := HCY.out _ (Hid.out hSw); go_simp; try with_reducible rfl)
              try simp only [Act.put, List.setIfInBounds_toArray, List.set_cons_zero, List.set_cons_succ]
              refine wpAnyH_take (i := 10) (oi := { dst := some 41, op := Op.move (Operand.tmp 0), type := 82, pos := "ref.go:182", after := #[{ on := 4, ground := Ground.guard }], guard := some (4, false) }) (v := ?vAB10) rfl (by kernel_rfl) (by kernel_rfl) (by kernel_rfl) (fun _ _ _ h => h) (Or.inl ⟨by rfl, ?hyAB10⟩) hHeld ?restAB10
              case hyAB10 => (intro w hSw; go_simp; try with_reducible rfl)
              try simp only [Act.put, List.setIfInBounds_toArray, List.set_cons_zero, List.set_cons_succ]
              refine wpAnyH_take (i := 11) (oi := { dst := some 42, op := Op.move (Operand.tmp 4), type := 3, pos := "ref.go:182", after := #[{ on := 4, ground := Ground.guard }], guard := some (4, false) }) (v := ?vAB11) rfl (by kernel_rfl) (by kernel_rfl) (by kernel_rfl) (fun _ _ _ h => h) (Or.inl ⟨by rfl, ?hyAB11⟩) hHeld ?restAB11
              case hyAB11 => (intro w hSw; go_simp; try with_reducible rfl)
              try simp only [Act.put, List.setIfInBounds_toArray, List.set_cons_zero, List.set_cons_succ]
              refine wpAnyH_take (i := 12) (oi := { dst := some 43, op := Op.indexAddr 82 (Operand.tmp 41) (Operand.tmp 42), type := 0, pos := "ref.go:182", after := #[{ on := 10, ground := Ground.data }, { on := 11, ground := Ground.data }, { on := 4, ground := Ground.guard }], guard := some (4, false) }) (v := ?vAB12) rfl (by kernel_rfl) (by kernel_rfl) (by kernel_rfl) (fun _ _ _ h => h) (Or.inl ⟨by rfl, ?hyAB12⟩) hHeld ?restAB12
              case hyAB12 => (intro w hSw; go_simp; try with_reducible rfl)
              try simp only [Act.put, List.setIfInBounds_toArray, List.set_cons_zero, List.set_cons_succ]
              refine wpAnyH_take (i := 13) (oi := { dst := some 44, op := Op.fieldAddr 182 (Operand.tmp 43) 0, type := 0, pos := "ref.go:182", after := #[{ on := 12, ground := Ground.data }, { on := 4, ground := Ground.guard }], guard := some (4, false) }) (v := ?vAB13) rfl (by kernel_rfl) (by kernel_rfl) (by kernel_rfl) (fun _ _ _ h => h) (Or.inl ⟨by rfl, ?hyAB13⟩) hHeld ?restAB13
              case hyAB13 => (intro w hSw; go_simp; try with_reducible rfl)
              try simp only [Act.put, List.setIfInBounds_toArray, List.set_cons_zero, List.set_cons_succ]
              refine wpAnyH_take (i := 14) (oi := { dst := some 45, op := Op.load 9 (Operand.tmp 44), type := 9, pos := "ref.go:182", after := #[{ on := 13, ground := Ground.data }, { on := 4, ground := Ground.guard }], guard := some (4, false) }) (v := ?vAB14) rfl (by kernel_rfl) (by kernel_rfl) (by kernel_rfl) (fun _ _ _ h => h) (Or.inl ⟨by rfl, ?hyAB14⟩) hHeld ?restAB14
              case hyAB14 => (intro w hSw; have hc := (HCX.out _ (HB.out.trans ((Hid.out hSw).mono HB.out.size))).1; go_simp; try with_reducible rfl)
              try simp only [Act.put, List.setIfInBounds_toArray, List.set_cons_zero, List.set_cons_succ]
              refine wpAnyH_take (i := 15) (oi := { dst := some 46, op := Op.binOp BinOp.neq 9 (Operand.tmp 40) (Operand.tmp 45) 9, type := 4, pos := "ref.go:182", after := #[{ on := 9, ground := Ground.data }, { on := 14, ground := Ground.data }, { on := 4, ground := Ground.guard }], guard := some (4, false) }) (v := ?vAB15) rfl (by kernel_rfl) (by kernel_rfl) (by kernel_rfl) (fun _ _ _ h => h) (Or.inl ⟨by rfl, ?hyAB15⟩) hHeld ?restAB15
              case hyAB15 => (intro w hSw; go_simp; try with_reducible rfl)
              try simp only [Act.put, List.setIfInBounds_toArray, List.set_cons_zero, List.set_cons_succ]
              refine wpAnyH_take (i := 16) (oi := { dst := some 47, op := Op.pick (Operand.tmp 35) (Operand.const (Value.bool true)) (Operand.tmp 46), type := 4, pos := "ref.go:182", after := #[{ on := 4, ground := Ground.data }, { on := 15, ground := Ground.data }], guard := none }) (v := ?vAB16) rfl (by kernel_rfl) (by kernel_rfl) (by kernel_rfl) (fun _ _ _ h => h) (Or.inl ⟨by rfl, ?hyAB16⟩) hHeld ?restAB16
              case hyAB16 => (intro w hSw; go_simp; try with_reducible rfl)
              try simp only [Act.put, List.setIfInBounds_toArray, List.set_cons_zero, List.set_cons_succ]
              refine wpAnyH_done (by kernel_rfl) ?_ _
              go_wp2_with fail
              refine wp_region_held_drew (S := fun w' => Hid (Below wo.heap.size wo w')) (by kernel_rfl) (Lib.hid (Hid.out hHeld).drew) (fun hHeld => ?_)
              refine wpAnyH_take (i := 1) (oi := { dst := some 49, op := Op.move (Operand.tmp 3), type := 82, pos := "ref.go:183", after := #[], guard := none }) (v := ?vABC1) rfl (by kernel_rfl) (by kernel_rfl) (by kernel_rfl) (fun _ _ _ h => h) (Or.inl ⟨by rfl, ?hyABC1⟩) hHeld ?restABC1
              case hyABC1 => (intro w hSw; go_simp; try with_reducible rfl)
              try simp only [Act.put, List.setIfInBounds_toArray, List.set_cons_zero, List.set_cons_succ]
              refine wpAnyH_take (i := 2) (oi := { dst := some 50, op := Op.move (Operand.tmp 5), type := 3, pos := "ref.go:183", after := #[], guard := none }) (v := ?vABC2) rfl (by kernel_rfl) (by kernel_rfl) (by kernel_rfl) (fun _ _ _ h => h) (Or.inl ⟨by rfl, ?hyABC2⟩) hHeld ?restABC2
              case hyABC2 => (intro w hSw; go_simp; try with_reducible rfl)
              try simp only [Act.put, List.setIfInBounds_toArray, List.set_cons_zero, List.set_cons_succ]
              refine wpAnyH_take (i := 3) (oi := { dst := some 51, op := Op.slice 82 (Operand.tmp 49) none (some (Operand.tmp 50)) none, type := 82, pos := "ref.go:183", after := #[{ on := 1, ground := Ground.data }, { on := 2, ground := Ground.data }], guard := none }) (v := ?vABC3) rfl (by kernel_rfl) (by kernel_rfl) (by kernel_rfl) (fun _ _ _ h => h) (Or.inl ⟨by rfl, ?hyABC3⟩) hHeld ?restABC3
              case hyABC3 => (intro w hSw; go_simp; try with_reducible rfl)
              try simp only [Act.put, List.setIfInBounds_toArray, List.set_cons_zero, List.set_cons_succ]
              refine wpAnyH_take (i := 5) (oi := { dst := some 53, op := Op.move (Operand.tmp 0), type := 82, pos := "ref.go:183", after := #[], guard := none }) (v := ?vABC5) rfl (by kernel_rfl) (by kernel_rfl) (by kernel_rfl) (fun _ _ _ h => h) (Or.inl ⟨by rfl, ?hyABC5⟩) hHeld ?restABC5
              case hyABC5 => (intro w hSw; go_simp; try with_reducible rfl)
              try simp only [Act.put, List.setIfInBounds_toArray, List.set_cons_zero, List.set_cons_succ]
              refine wpAnyH_take (i := 6) (oi := { dst := some 54, op := Op.move (Operand.tmp 4), type := 3, pos := "ref.go:183", after := #[], guard := none }) (v := ?vABC6) rfl (by kernel_rfl) (by kernel_rfl) (by kernel_rfl) (fun _ _ _ h => h) (Or.inl ⟨by rfl, ?hyABC6⟩) hHeld ?restABC6
              case hyABC6 => (intro w hSw; go_simp; try with_reducible rfl)
              try simp only [Act.put, List.setIfInBounds_toArray, List.set_cons_zero, List.set_cons_succ]
              refine wpAnyH_take (i := 7) (oi := { dst := some 55, op := Op.indexAddr 82 (Operand.tmp 53) (Operand.tmp 54), type := 0, pos := "ref.go:183", after := #[{ on := 5, ground := Ground.data }, { on := 6, ground := Ground.data }], guard := none }) (v := ?vABC7) rfl (by kernel_rfl) (by kernel_rfl) (by kernel_rfl) (fun _ _ _ h => h) (Or.inl ⟨by rfl, ?hyABC7⟩) hHeld ?restABC7
              case hyABC7 => (intro w hSw; go_simp; try with_reducible rfl)
              try simp only [Act.put, List.setIfInBounds_toArray, List.set_cons_zero, List.set_cons_succ]
              refine wpAnyH_take (i := 8) (oi := { dst := some 56, op := Op.load 182 (Operand.tmp 55), type := 182, pos := "ref.go:183", after := #[{ on := 7, ground := Ground.data }], guard := none }) (v := _) rfl (by kernel_rfl) (by kernel_rfl) (by kernel_rfl) (fun _ _ _ h => h) (yields_A rfl (by rfl) rfl (by rw [HRS.out]; exact wide182) (fun w' hs => (HCX.out w' (HB.out.trans ((Hid.out hs).mono HB.out.size))).2)) hHeld ?_
              try simp only [Act.put, List.setIfInBounds_toArray, List.set_cons_zero, List.set_cons_succ]
              refine wpAnyH_take (i := 11) (oi := { dst := some 59, op := Op.move (Operand.tmp 3), type := 82, pos := "ref.go:183", after := #[], guard := none }) (v := ?vABC11) rfl (by kernel_rfl) (by kernel_rfl) (by kernel_rfl) (fun _ _ _ h => h) (Or.inl ⟨by rfl, ?hyABC11⟩) hHeld ?restABC11
              case hyABC11 => (intro w hSw; go_simp; try with_reducible rfl)
              try simp only [Act.put, List.setIfInBounds_toArray, List.set_cons_zero, List.set_cons_succ]
              refine wpAnyH_take (i := 12) (oi := { dst := some 60, op := Op.move (Operand.tmp 5), type := 3, pos := "ref.go:183", after := #[], guard := none }) (v := ?vABC12) rfl (by kernel_rfl) (by kernel_rfl) (by kernel_rfl) (fun _ _ _ h => h) (Or.inl ⟨by rfl, ?hyABC12⟩) hHeld ?restABC12
              case hyABC12 => (intro w hSw; go_simp; try with_reducible rfl)
              try simp only [Act.put, List.setIfInBounds_toArray, List.set_cons_zero, List.set_cons_succ]
              refine wpAnyH_take (i := 13) (oi := { dst := some 61, op := Op.slice 82 (Operand.tmp 59) (some (Operand.tmp 60)) none none, type := 82, pos := "ref.go:183", after := #[{ on := 11, ground := Ground.data }, { on := 12, ground := Ground.data }], guard := none }) (v := ?vABC13) rfl (by kernel_rfl) (by kernel_rfl) (by kernel_rfl) (fun _ _ _ h => h) (Or.inl ⟨by rfl, ?hyABC13⟩) hHeld ?restABC13
              case hyABC13 => (intro w hSw; go_simp; try with_reducible rfl)
              try simp only [Act.put, List.setIfInBounds_toArray, List.set_cons_zero, List.set_cons_succ]
              refine wpAnyH_ready (rs := [0, 9]) (by kernel_rfl) (by simp) ?_
              refine AllReadyH.cons (o := { dst := some 48, op := Op.buildSlice 82 0 #[], type := 82, pos := "ref.go:183", after := #[], guard := none }) rfl (fun K hK => ?_) (AllReadyH.cons (o := { dst := some 57, op := Op.buildSlice 82 1 #[(0, Operand.tmp 56)], type := 82, pos := "ref.go:183", after := #[{ on := 8, ground := Ground.data }], guard := none }) rfl (fun K hK => ?_) AllReadyH.nil)
              · (refine step_made0 rfl rfl (base := wo.heap.size) (Hid.out hHeld).size ?_; intro g0 W0 hg0 hlt0 hown0 hbl0)
                refine hK.out _ _ ((Lib.hid ((Hid.out hHeld).trans (hbl0.mono (Hid.out hHeld).size)))) (fun hHeld => ?_)
                clear hK K
                try simp only [Act.put, List.setIfInBounds_toArray, List.set_cons_zero, List.set_cons_succ]
                refine wpAnyH_ready (rs := [4, 9]) (by kernel_rfl) (by simp) ?_
                refine AllReadyH.cons (o := { dst := some 52, op := Op.call { callee := Callee.builtin Builtin.append, args := #[Operand.tmp 48, Operand.tmp 51], argTypes := #[82, 82] }, type := 82, pos := "ref.go:183", after := #[{ on := 0, ground := Ground.data }, { on := 3, ground := Ground.data }], guard := none }) rfl (fun K hK => ?_) (AllReadyH.cons (o := { dst := some 57, op := Op.buildSlice 82 1 #[(0, Operand.tmp 56)], type := 82, pos := "ref.go:183", after := #[{ on := 8, ground := Ground.data }], guard := none }) rfl (fun K hK => ?_) AllReadyH.nil)
                · (refine step_appE rfl (.tmp 48) (.tmp 51) rfl (v := .slice (some ⟨g0, 0, none⟩) 0 0) (l := []) rfl rfl (base := wo.heap.size) (by first | exact hown0 | exact own_below hown0 hbl9 (Nat.le_refl _)) ((HEU.out _ (Hid.out hHeld)).1) (by omega) (Hid.out hHeld).size ?_; intro A4 c4 W4 hown4 hgr4 hbe4)
                  refine hK.out _ _ ((Lib.hid ((Hid.out hHeld).trans hbe4))) (fun hHeld => ?_)
                  clear hK K
                  try simp only [Act.put, List.setIfInBounds_toArray, List.set_cons_zero, List.set_cons_succ]
                  refine wpAnyH_ready (rs := [9]) (by kernel_rfl) (by simp) ?_
                  refine AllReadyH.cons (o := { dst := some 57, op := Op.buildSlice 82 1 #[(0, Operand.tmp 56)], type := 82, pos := "ref.go:183", after := #[{ on := 8, ground := Ground.data }], guard := none }) rfl (fun K hK => ?_) AllReadyH.nil
                  (refine step_made1 rfl (.tmp 56) rfl HRX.out HOK.out rfl ?_; intro g9 W9 hg9 hlt9 hb9 hbl9)
                  refine hK.out _ _ ((Lib.hid ((Hid.out hHeld).trans (hbl9.mono (Hid.out hHeld).size)))) (fun hHeld => ?_)
                  clear hK K
                  try simp only [Act.put, List.setIfInBounds_toArray, List.set_cons_zero, List.set_cons_succ]
                  refine wpAnyH_ready (rs := [10]) (by kernel_rfl) (by simp) ?_
                  refine AllReadyH.cons (o := { dst := some 58, op := Op.call { callee := Callee.builtin Builtin.append, args := #[Operand.tmp 52, Operand.tmp 57], argTypes := #[82, 82] }, type := 82, pos := "ref.go:183", after := #[{ on := 4, ground := Ground.data }, { on := 9, ground := Ground.data }, { on := 4, ground := Ground.chain }], guard := none }) rfl (fun K hK => ?_) AllReadyH.nil
                  (refine step_appA (enc := EC) (l := [] ++ (sortR l i).take k) (y := x) (base := wo.heap.size) (k := 0 + k) (g := g9) (t := 182) Try.underlying82 info182 (by rw [Value.cells]; exact EC_size (e := noEnt) noName_len) (by omega) (by omega) rfl (.tmp 52) (.tmp 57) rfl rfl rfl (by first | exact hown4 | exact own_below hown4 hbl9 (Nat.le_refl _)) (by first | exact hb9 | exact hb9.grown hgr4 (by simp [Value.ownBlock]; omega) | exact (hb9.after hbl0).grown hgr4 (by simp [Value.ownBlock]; omega)) (EC_size HOK.out) (EC_one x) (by omega) (Hid.out hHeld).size ?_; intro A10 c10 W10 hown10 hbe10)
                  refine hK.out _ _ ((Lib.hid ((Hid.out hHeld).trans hbe10))) (fun hHeld => ?_)
                  clear hK K
                  try simp only [Act.put, List.setIfInBounds_toArray, List.set_cons_zero, List.set_cons_succ]
                  refine wpAnyH_ready (rs := [14]) (by kernel_rfl) (by simp) ?_
                  refine AllReadyH.cons (o := { dst := some 62, op := Op.call { callee := Callee.builtin Builtin.append, args := #[Operand.tmp 58, Operand.tmp 61], argTypes := #[82, 82] }, type := 82, pos := "ref.go:183", after := #[{ on := 10, ground := Ground.data }, { on := 13, ground := Ground.data }, { on := 10, ground := Ground.chain }], guard := none }) rfl (fun K hK => ?_) AllReadyH.nil
                  (refine step_appE rfl (.tmp 58) (.tmp 61) rfl (l := ([] ++ (sortR l i).take k) ++ [x]) rfl rfl (base := wo.heap.size) hown10 ((HEU.out _ (Hid.out hHeld)).2) (by omega) (Hid.out hHeld).size ?_; intro A14 c14 W14 hown14 hgr14 hbe14)
                  refine hK.out _ _ ((Lib.hid ((Hid.out hHeld).trans hbe14))) (fun hHeld => ?_)
                  clear hK K
                  try simp only [Act.put, List.setIfInBounds_toArray, List.set_cons_zero, List.set_cons_succ]
                  refine wpAnyH_take (i := 15) (oi := { dst := some 3, op := Op.assign (Operand.tmp 62), type := 82, pos := "ref.go:183", after := #[{ on := 14, ground := Ground.data }, { on := 14, ground := Ground.chain }, { on := 0, ground := Ground.phase }, { on := 1, ground := Ground.phase }, { on := 2, ground := Ground.phase }, { on := 3, ground := Ground.phase }, { on := 4, ground := Ground.phase }, { on := 5, ground := Ground.phase }, { on := 6, ground := Ground.phase }, { on := 7, ground := Ground.phase }, { on := 8, ground := Ground.phase }, { on := 9, ground := Ground.phase }, { on := 10, ground := Ground.phase }, { on := 11, ground := Ground.phase }, { on := 12, ground := Ground.phase }, { on := 13, ground := Ground.phase }, { on := 14, ground := Ground.phase }], guard := none }) (v := ?vABCaa15) rfl (by kernel_rfl) (by kernel_rfl) (by kernel_rfl) (fun _ _ _ h => h) (Or.inl ⟨by rfl, ?hyABCaa15⟩) hHeld ?restABCaa15
                  case hyABCaa15 => (intro w hSw; go_simp; try with_reducible rfl)
                  try simp only [Act.put, List.setIfInBounds_toArray, List.set_cons_zero, List.set_cons_succ]
                  refine wpAnyH_done (by kernel_rfl) ?_ _
                  have HNEW := Lib.hid hown14
                  clear hown0 hbl0 hg0 hlt0 hown4 hgr4 hbe4 hb9 hbl9 hg9 hlt9 hown10 hbe10 hown14 hgr14 hbe14
                  go_wp2_with fail
                  exact ⟨⟨i + 1, k + 1 + q, A14, c14, hlt, by omega, by go_num, rfl, Lib.hid (by
                    have h := HNEW.out
                    simp only [Nat.zero_add] at h
                    have hl14 := sortR_len l (i + 1)
                    refine Ls.mono ?_ (S := fun j => wo.heap.size ≤ j) (fun j hj => Nat.le_trans HB.out.size hj)
                    rw [HEQ.out]
                    exact Ls.of_own h (by
                      have h2 := HO.out.len
                      have h3 := HKM.out
                      simp only [List.nil_append, List.length_append, List.length_take, List.length_drop, List.length_cons, List.length_nil]
                      omega) (fun e he => EC_size (HOKL.out e (by rw [HEQ.out]; exact he)))), Lib.hid (HB.out.trans ((Hid.out hHeld).mono HB.out.size))⟩, by simp [intOf]; omega⟩
                · (refine step_made1 rfl (.tmp 56) rfl HRX.out HOK.out rfl ?_; intro g9 W9 hg9 hlt9 hb9 hbl9)
                  refine hK.out _ _ ((Lib.hid ((Hid.out hHeld).trans (hbl9.mono (Hid.out hHeld).size)))) (fun hHeld => ?_)
                  clear hK K
                  try simp only [Act.put, List.setIfInBounds_toArray, List.set_cons_zero, List.set_cons_succ]
                  refine wpAnyH_ready (rs := [4]) (by kernel_rfl) (by simp) ?_
                  refine AllReadyH.cons (o := { dst := some 52, op := Op.call { callee := Callee.builtin Builtin.append, args := #[Operand.tmp 48, Operand.tmp 51], argTypes := #[82, 82] }, type := 82, pos := "ref.go:183", after := #[{ on := 0, ground := Ground.data }, { on := 3, ground := Ground.data }], guard := none }) rfl (fun K hK => ?_) AllReadyH.nil
                  (refine step_appE rfl (.tmp 48) (.tmp 51) rfl (v := .slice (some ⟨g0, 0, none⟩) 0 0) (l := []) rfl rfl (base := wo.heap.size) (by first | exact hown0 | exact own_below hown0 hbl9 (Nat.le_refl _)) ((HEU.out _ (Hid.out hHeld)).1) (by omega) (Hid.out hHeld).size ?_; intro A4 c4 W4 hown4 hgr4 hbe4)
                  refine hK.out _ _ ((Lib.hid ((Hid.out hHeld).trans hbe4))) (fun hHeld => ?_)
                  clear hK K
                  try simp only [Act.put, List.setIfInBounds_toArray, List.set_cons_zero, List.set_cons_succ]
                  refine wpAnyH_ready (rs := [10]) (by kernel_rfl) (by simp) ?_
                  refine AllReadyH.cons (o := { dst := some 58, op := Op.call { callee := Callee.builtin Builtin.append, args := #[Operand.tmp 52, Operand.tmp 57], argTypes := #[82, 82] }, type := 82, pos := "ref.go:183", after := #[{ on := 4, ground := Ground.data }, { on := 9, ground := Ground.data }, { on := 4, ground := Ground.chain }], guard := none }) rfl (fun K hK => ?_) AllReadyH.nil
                  (refine step_appA (enc := EC) (l := [] ++ (sortR l i).take k) (y := x) (base := wo.heap.size) (k := 0 + k) (g := g9) (t := 182) Try.underlying82 info182 (by rw [Value.cells]; exact EC_size (e := noEnt) noName_len) (by omega) (by omega) rfl (.tmp 52) (.tmp 57) rfl rfl rfl (by first | exact hown4 | exact own_below hown4 hbl9 (Nat.le_refl _)) (by first | exact hb9 | exact hb9.grown hgr4 (by simp [Value.ownBlock]; omega) | exact (hb9.after hbl0).grown hgr4 (by simp [Value.ownBlock]; omega)) (EC_size HOK.out) (EC_one x) (by omega) (Hid.out hHeld).size ?_; intro A10 c10 W10 hown10 hbe10)
                  refine hK.out _ _ ((Lib.hid ((Hid.out hHeld).trans hbe10))) (fun hHeld => ?_)
                  clear hK K
                  try simp only [Act.put, List.setIfInBounds_toArray, List.set_cons_zero, List.set_cons_succ]
                  refine wpAnyH_ready (rs := [14]) (by kernel_rfl) (by simp) ?_
                  refine AllReadyH.cons (o := { dst := some 62, op := Op.call { callee := Callee.builtin Builtin.append, args := #[Operand.tmp 58, Operand.tmp 61], argTypes := #[82, 82] }, type := 82, pos := "ref.go:183", after := #[{ on := 10, ground := Ground.data }, { on := 13, ground := Ground.data }, { on := 10, ground := Ground.chain }], guard := none }) rfl (fun K hK => ?_) AllReadyH.nil
                  (refine step_appE rfl (.tmp 58) (.tmp 61) rfl (l := ([] ++ (sortR l i).take k) ++ [x]) rfl rfl (base := wo.heap.size) hown10 ((HEU.out _ (Hid.out hHeld)).2) (by omega) (Hid.out hHeld).size ?_; intro A14 c14 W14 hown14 hgr14 hbe14)
                  refine hK.out _ _ ((Lib.hid ((Hid.out hHeld).trans hbe14))) (fun hHeld => ?_)
                  clear hK K
                  try simp only [Act.put, List.setIfInBounds_toArray, List.set_cons_zero, List.set_cons_succ]
                  refine wpAnyH_take (i := 15) (oi := { dst := some 3, op := Op.assign (Operand.tmp 62), type := 82, pos := "ref.go:183", after := #[{ on := 14, ground := Ground.data }, { on := 14, ground := Ground.chain }, { on := 0, ground := Ground.phase }, { on := 1, ground := Ground.phase }, { on := 2, ground := Ground.phase }, { on := 3, ground := Ground.phase }, { on := 4, ground := Ground.phase }, { on := 5, ground := Ground.phase }, { on := 6, ground := Ground.phase }, { on := 7, ground := Ground.phase }, { on := 8, ground := Ground.phase }, { on := 9, ground := Ground.phase }, { on := 10, ground := Ground.phase }, { on := 11, ground := Ground.phase }, { on := 12, ground := Ground.phase }, { on := 13, ground := Ground.phase }, { on := 14, ground := Ground.phase }], guard := none }) (v := ?vABCab15) rfl (by kernel_rfl) (by kernel_rfl) (by kernel_rfl) (fun _ _ _ h => h) (Or.inl ⟨by rfl, ?hyABCab15⟩) hHeld ?restABCab15
                  case hyABCab15 => (intro w hSw; go_simp; try with_reducible rfl)
                  try simp only [Act.put, List.setIfInBounds_toArray, List.set_cons_zero, List.set_cons_succ]
                  refine wpAnyH_done (by kernel_rfl) ?_ _
                  have HNEW := Lib.hid hown14
                  clear hown0 hbl0 hg0 hlt0 hown4 hgr4 hbe4 hb9 hbl9 hg9 hlt9 hown10 hbe10 hown14 hgr14 hbe14
                  go_wp2_with fail
                  exact ⟨⟨i + 1, k + 1 + q, A14, c14, hlt, by omega, by go_num, rfl, Lib.hid (by
                    have h := HNEW.out
                    simp only [Nat.zero_add] at h
                    have hl14 := sortR_len l (i + 1)
                    refine Ls.mono ?_ (S := fun j => wo.heap.size ≤ j) (fun j hj => Nat.le_trans HB.out.size hj)
                    rw [HEQ.out]
                    exact Ls.of_own h (by
                      have h2 := HO.out.len
                      have h3 := HKM.out
                      simp only [List.nil_append, List.length_append, List.length_take, List.length_drop, List.length_cons, List.length_nil]
                      omega) (fun e he => EC_size (HOKL.out e (by rw [HEQ.out]; exact he)))), Lib.hid (HB.out.trans ((Hid.out hHeld).mono HB.out.size))⟩, by simp [intOf]; omega⟩
              · (refine step_made1 rfl (.tmp 56) rfl HRX.out HOK.out rfl ?_; intro g9 W9 hg9 hlt9 hb9 hbl9)
                refine hK.out _ _ ((Lib.hid ((Hid.out hHeld).trans (hbl9.mono (Hid.out hHeld).size)))) (fun hHeld => ?_)
                clear hK K
                try simp only [Act.put, List.setIfInBounds_toArray, List.set_cons_zero, List.set_cons_succ]
                refine wpAnyH_ready (rs := [0]) (by kernel_rfl) (by simp) ?_
                refine AllReadyH.cons (o := { dst := some 48, op := Op.buildSlice 82 0 #[], type := 82, pos := "ref.go:183", after := #[], guard := none }) rfl (fun K hK => ?_) AllReadyH.nil
                (refine step_made0 rfl rfl (base := wo.heap.size) (Hid.out hHeld).size ?_; intro g0 W0 hg0 hlt0 hown0 hbl0)
                refine hK.out _ _ ((Lib.hid ((Hid.out hHeld).trans (hbl0.mono (Hid.out hHeld).size)))) (fun hHeld => ?_)
                clear hK K
                try simp only [Act.put, List.setIfInBounds_toArray, List.set_cons_zero, List.set_cons_succ]
                refine wpAnyH_ready (rs := [4]) (by kernel_rfl) (by simp) ?_
                refine AllReadyH.cons (o := { dst := some 52, op := Op.call { callee := Callee.builtin Builtin.append, args := #[Operand.tmp 48, Operand.tmp 51], argTypes := #[82, 82] }, type := 82, pos := "ref.go:183", after := #[{ on := 0, ground := Ground.data }, { on := 3, ground := Ground.data }], guard := none }) rfl (fun K hK => ?_) AllReadyH.nil
                (refine step_appE rfl (.tmp 48) (.tmp 51) rfl (v := .slice (some ⟨g0, 0, none⟩) 0 0) (l := []) rfl rfl (base := wo.heap.size) (by first | exact hown0 | exact own_below hown0 hbl9 (Nat.le_refl _)) ((HEU.out _ (Hid.out hHeld)).1) (by omega) (Hid.out hHeld).size ?_; intro A4 c4 W4 hown4 hgr4 hbe4)
                refine hK.out _ _ ((Lib.hid ((Hid.out hHeld).trans hbe4))) (fun hHeld => ?_)
                clear hK K
                try simp only [Act.put, List.setIfInBounds_toArray, List.set_cons_zero, List.set_cons_succ]
                refine wpAnyH_ready (rs := [10]) (by kernel_rfl) (by simp) ?_
                refine AllReadyH.cons (o := { dst := some 58, op := Op.call { callee := Callee.builtin Builtin.append, args := #[Operand.tmp 52, Operand.tmp 57], argTypes := #[82, 82] }, type := 82, pos := "ref.go:183", after := #[{ on := 4, ground := Ground.data }, { on := 9, ground := Ground.data }, { on := 4, ground := Ground.chain }], guard := none }) rfl (fun K hK => ?_) AllReadyH.nil
                (refine step_appA (enc := EC) (l := [] ++ (sortR l i).take k) (y := x) (base := wo.heap.size) (k := 0 + k) (g := g9) (t := 182) Try.underlying82 info182 (by rw [Value.cells]; exact EC_size (e := noEnt) noName_len) (by omega) (by omega) rfl (.tmp 52) (.tmp 57) rfl rfl rfl (by first | exact hown4 | exact own_below hown4 hbl9 (Nat.le_refl _)) (by first | exact hb9 | exact hb9.grown hgr4 (by simp [Value.ownBlock]; omega) | exact (hb9.after hbl0).grown hgr4 (by simp [Value.ownBlock]; omega)) (EC_size HOK.out) (EC_one x) (by omega) (Hid.out hHeld).size ?_; intro A10 c10 W10 hown10 hbe10)
                refine hK.out _ _ ((Lib.hid ((Hid.out hHeld).trans hbe10))) (fun hHeld => ?_)
                clear hK K
                try simp only [Act.put, List.setIfInBounds_toArray, List.set_cons_zero, List.set_cons_succ]
                refine wpAnyH_ready (rs := [14]) (by kernel_rfl) (by simp) ?_
                refine AllReadyH.cons (o := { dst := some 62, op := Op.call { callee := Callee.builtin Builtin.append, args := #[Operand.tmp 58, Operand.tmp 61], argTypes := #[82, 82] }, type := 82, pos := "ref.go:183", after := #[{ on := 10, ground := Ground.data }, { on := 13, ground := Ground.data }, { on := 10, ground := Ground.chain }], guard := none }) rfl (fun K hK => ?_) AllReadyH.nil
                (refine step_appE rfl (.tmp 58) (.tmp 61) rfl (l := ([] ++ (sortR l i).take k) ++ [x]) rfl rfl (base := wo.heap.size) hown10 ((HEU.out _ (Hid.out hHeld)).2) (by omega) (Hid.out hHeld).size ?_; intro A14 c14 W14 hown14 hgr14 hbe14)
                refine hK.out _ _ ((Lib.hid ((Hid.out hHeld).trans hbe14))) (fun hHeld => ?_)
                clear hK K
                try simp only [Act.put, List.setIfInBounds_toArray, List.set_cons_zero, List.set_cons_succ]
                refine wpAnyH_take (i := 15) (oi := { dst := some 3, op := Op.assign (Operand.tmp 62), type := 82, pos := "ref.go:183", after := #[{ on := 14, ground := Ground.data }, { on := 14, ground := Ground.chain }, { on := 0, ground := Ground.phase }, { on := 1, ground := Ground.phase }, { on := 2, ground := Ground.phase }, { on := 3, ground := Ground.phase }, { on := 4, ground := Ground.phase }, { on := 5, ground := Ground.phase }, { on := 6, ground := Ground.phase }, { on := 7, ground := Ground.phase }, { on := 8, ground := Ground.phase }, { on := 9, ground := Ground.phase }, { on := 10, ground := Ground.phase }, { on := 11, ground := Ground.phase }, { on := 12, ground := Ground.phase }, { on := 13, ground := Ground.phase }, { on := 14, ground := Ground.phase }], guard := none }) (v := ?vABCb15) rfl (by kernel_rfl) (by kernel_rfl) (by kernel_rfl) (fun _ _ _ h => h) (Or.inl ⟨by rfl, ?hyABCb15⟩) hHeld ?restABCb15
                case hyABCb15 => (intro w hSw; go_simp; try with_reducible rfl)
                try simp only [Act.put, List.setIfInBounds_toArray, List.set_cons_zero, List.set_cons_succ]
                refine wpAnyH_done (by kernel_rfl) ?_ _
                have HNEW := Lib.hid hown14
                clear hown0 hbl0 hg0 hlt0 hown4 hgr4 hbe4 hb9 hbl9 hg9 hlt9 hown10 hbe10 hown14 hgr14 hbe14
                go_wp2_with fail
                exact ⟨⟨i + 1, k + 1 + q, A14, c14, hlt, by omega, by go_num, rfl, Lib.hid (by
                  have h := HNEW.out
                  simp only [Nat.zero_add] at h
                  have hl14 := sortR_len l (i + 1)
                  refine Ls.mono ?_ (S := fun j => wo.heap.size ≤ j) (fun j hj => Nat.le_trans HB.out.size hj)
                  rw [HEQ.out]
                  exact Ls.of_own h (by
                    have h2 := HO.out.len
                    have h3 := HKM.out
                    simp only [List.nil_append, List.length_append, List.length_take, List.length_drop, List.length_cons, List.length_nil]
                    omega) (fun e he => EC_size (HOKL.out e (by rw [HEQ.out]; exact he)))), Lib.hid (HB.out.trans ((Hid.out hHeld).mono HB.out.size))⟩, by simp [intOf]; omega⟩
            · have HEQ : Hid (sortR l (i + 1) = sortR l i) := Lib.hid (by
                rw [sortR_next hl.out, insR_at HK.out hl3.out HNK.out, if_pos (name_ext (by simpa using hD))])
              refine wp_region_held_drew (S := fun w' => Hid (Below wo.heap.size wo w')) (by kernel_rfl) (Lib.hid ((Hid.out hHeld)).drew) (fun hHeld => ?_)
              refine wpAnyH_take (i := 0) (oi := { dst := some 31, op := Op.move (Operand.tmp 5), type := 3, pos := "ref.go:182", after := #[], guard := none }) (v := ?vAD0) rfl (by kernel_rfl) (by kernel_rfl) (by kernel_rfl) (fun _ _ _ h => h) (Or.inl ⟨by rfl, ?hyAD0⟩) hHeld ?restAD0
              case hyAD0 => (intro w hSw; go_simp; try with_reducible rfl)
              try simp only [Act.put, List.setIfInBounds_toArray, List.set_cons_zero, List.set_cons_succ]
              refine wpAnyH_take (i := 1) (oi := { dst := some 32, op := Op.move (Operand.tmp 3), type := 82, pos := "ref.go:182", after := #[], guard := none }) (v := ?vAD1) rfl (by kernel_rfl) (by kernel_rfl) (by kernel_rfl) (fun _ _ _ h => h) (Or.inl ⟨by rfl, ?hyAD1⟩) hHeld ?restAD1
              case hyAD1 => (intro w hSw; go_simp; try with_reducible rfl)
              try simp only [Act.put, List.setIfInBounds_toArray, List.set_cons_zero, List.set_cons_succ]
              refine wpAnyH_take (i := 2) (oi := { dst := some 33, op := Op.call { callee := Callee.builtin Builtin.len, args := #[Operand.tmp 32], argTypes := #[82] }, type := 3, pos := "ref.go:182", after := #[{ on := 1, ground := Ground.data }], guard := none }) (v := ?vAD2) rfl (by kernel_rfl) (by kernel_rfl) (by kernel_rfl) (fun _ _ _ h => h) (Or.inl ⟨by rfl, ?hyAD2⟩) hHeld ?restAD2
              case hyAD2 => (intro w hSw; go_simp; try with_reducible rfl)
              try simp only [Act.put, List.setIfInBounds_toArray, List.set_cons_zero, List.set_cons_succ]
              refine wpAnyH_take (i := 3) (oi := { dst := some 34, op := Op.binOp BinOp.eql 3 (Operand.tmp 31) (Operand.tmp 33) 3, type := 4, pos := "ref.go:182", after := #[{ on := 0, ground := Ground.data }, { on := 2, ground := Ground.data }], guard := none }) (v := ?vAD3) rfl (by kernel_rfl) (by kernel_rfl) (by kernel_rfl) (fun _ _ _ h => h) (Or.inl ⟨by rfl, ?hyAD3⟩) hHeld ?restAD3
              case hyAD3 => (intro w hSw; go_simp; try with_reducible rfl)
              try simp only [Act.put, List.setIfInBounds_toArray, List.set_cons_zero, List.set_cons_succ]
              refine wpAnyH_take (i := 4) (oi := { dst := some 35, op := Op.move (Operand.tmp 34), type := 4, pos := "ref.go:182", after := #[{ on := 3, ground := Ground.data }], guard := none }) (v := ?vAD4) rfl (by kernel_rfl) (by kernel_rfl) (by kernel_rfl) (fun _ _ _ h => h) (Or.inl ⟨by rfl, ?hyAD4⟩) hHeld ?restAD4
              case hyAD4 => (intro w hSw; go_simp; try with_reducible rfl)
              try simp only [Act.put, List.setIfInBounds_toArray, List.set_cons_zero, List.set_cons_succ]
              refine wpAnyH_take (i := 5) (oi := { dst := some 36, op := Op.move (Operand.tmp 3), type := 82, pos := "ref.go:182", after := #[{ on := 4, ground := Ground.guard }], guard := some (4, false) }) (v := ?vAD5) rfl (by kernel_rfl) (by kernel_rfl) (by kernel_rfl) (fun _ _ _ h => h) (Or.inl ⟨by rfl, ?hyAD5⟩) hHeld ?restAD5
              case hyAD5 => (intro w hSw; go_simp; try with_reducible rfl)
              try simp only [Act.put, List.setIfInBounds_toArray, List.set_cons_zero, List.set_cons_succ]
              refine wpAnyH_take (i := 6) (oi := { dst := some 37, op := Op.move (Operand.tmp 5), type := 3, pos := "ref.go:182", after := #[{ on := 4, ground := Ground.guard }], guard := some (4, false) }) (v := ?vAD6) rfl (by kernel_rfl) (by kernel_rfl) (by kernel_rfl) (fun _ _ _ h => h) (Or.inl ⟨by rfl, ?hyAD6⟩) hHeld ?restAD6
              case hyAD6 => (intro w hSw; go_simp; try with_reducible rfl)
              try simp only [Act.put, List.setIfInBounds_toArray, List.set_cons_zero, List.set_cons_succ]
              refine wpAnyH_take (i := 7) (oi := { dst := some 38, op := Op.indexAddr 82 (Operand.tmp 36) (Operand.tmp 37), type := 0, pos := "ref.go:182", after := #[{ on := 5, ground := Ground.data }, { on := 6, ground := Ground.data }, { on := 4, ground := Ground.guard }], guard := some (4, false) }) (v := ?vAD7) rfl (by kernel_rfl) (by kernel_rfl) (by kernel_rfl) (fun _ _ _ h => h) (Or.inl ⟨by rfl, ?hyAD7⟩) hHeld ?restAD7
              case hyAD7 => (intro w hSw; go_simp; try with_reducible rfl)
              try simp only [Act.put, List.setIfInBounds_toArray, List.set_cons_zero, List.set_cons_succ]
              refine wpAnyH_take (i := 8) (oi := { dst := some 39, op := Op.fieldAddr 182 (Operand.tmp 38) 0, type := 0, pos := "ref.go:182", after := #[{ on := 7, ground := Ground.data }, { on := 4, ground := Ground.guard }], guard := some (4, false) }) (v := ?vAD8) rfl (by kernel_rfl) (by kernel_rfl) (by kernel_rfl) (fun _ _ _ h => h) (Or.inl ⟨by rfl, ?hyAD8⟩) hHeld ?restAD8
              case hyAD8 => (intro w hSw; go_simp; try with_reducible rfl)
              try simp only [Act.put, List.setIfInBounds_toArray, List.set_cons_zero, List.set_cons_succ]
              refine wpAnyH_take (i := 9) (oi := { dst := some 40, op := Op.load 9 (Operand.tmp 39), type := 9, pos := "ref.go:182", after := #[{ on := 8, ground := Ground.data }, { on := 4, ground := Ground.guard }], guard := some (4, false) }) (v := ?vAD9) rfl (by kernel_rfl) (by kernel_rfl) (by kernel_rfl) (fun _ _ _ h => h) (Or.inl ⟨by rfl, ?hyAD9⟩) hHeld ?restAD9
              case hyAD9 => (intro w hSw; have hc := HCY.out _ (Hid.out hSw); go_simp; try with_reducible rfl)
              try simp only [Act.put, List.setIfInBounds_toArray, List.set_cons_zero, List.set_cons_succ]
              refine wpAnyH_take (i := 10) (oi := { dst := some 41, op := Op.move (Operand.tmp 0), type := 82, pos := "ref.go:182", after := #[{ on := 4, ground := Ground.guard }], guard := some (4, false) }) (v := ?vAD10) rfl (by kernel_rfl) (by kernel_rfl) (by kernel_rfl) (fun _ _ _ h => h) (Or.inl ⟨by rfl, ?hyAD10⟩) hHeld ?restAD10
              case hyAD10 => (intro w hSw; go_simp; try with_reducible rfl)
              try simp only [Act.put, List.setIfInBounds_toArray, List.set_cons_zero, List.set_cons_succ]
              refine wpAnyH_take (i := 11) (oi := { dst := some 42, op := Op.move (Operand.tmp 4), type := 3, pos := "ref.go:182", after := #[{ on := 4, ground := Ground.guard }], guard := some (4, false) }) (v := ?vAD11) rfl (by kernel_rfl) (by kernel_rfl) (by kernel_rfl) (fun _ _ _ h => h) (Or.inl ⟨by rfl, ?hyAD11⟩) hHeld ?restAD11
              case hyAD11 => (intro w hSw; go_simp; try with_reducible rfl)
              try simp only [Act.put, List.setIfInBounds_toArray, List.set_cons_zero, List.set_cons_succ]
              refine wpAnyH_take (i := 12) (oi := { dst := some 43, op := Op.indexAddr 82 (Operand.tmp 41) (Operand.tmp 42), type := 0, pos := "ref.go:182", after := #[{ on := 10, ground := Ground.data }, { on := 11, ground := Ground.data }, { on := 4, ground := Ground.guard }], guard := some (4, false) }) (v := ?vAD12) rfl (by kernel_rfl) (by kernel_rfl) (by kernel_rfl) (fun _ _ _ h => h) (Or.inl ⟨by rfl, ?hyAD12⟩) hHeld ?restAD12
              case hyAD12 => (intro w hSw; go_simp; try with_reducible rfl)
              try simp only [Act.put, List.setIfInBounds_toArray, List.set_cons_zero, List.set_cons_succ]
              refine wpAnyH_take (i := 13) (oi := { dst := some 44, op := Op.fieldAddr 182 (Operand.tmp 43) 0, type := 0, pos := "ref.go:182", after := #[{ on := 12, ground := Ground.data }, { on := 4, ground := Ground.guard }], guard := some (4, false) }) (v := ?vAD13) rfl (by kernel_rfl) (by kernel_rfl) (by kernel_rfl) (fun _ _ _ h => h) (Or.inl ⟨by rfl, ?hyAD13⟩) hHeld ?restAD13
              case hyAD13 => (intro w hSw; go_simp; try with_reducible rfl)
              try simp only [Act.put, List.setIfInBounds_toArray, List.set_cons_zero, List.set_cons_succ]
              refine wpAnyH_take (i := 14) (oi := { dst := some 45, op := Op.load 9 (Operand.tmp 44), type := 9, pos := "ref.go:182", after := #[{ on := 13, ground := Ground.data }, { on := 4, ground := Ground.guard }], guard := some (4, false) }) (v := ?vAD14) rfl (by kernel_rfl) (by kernel_rfl) (by kernel_rfl) (fun _ _ _ h => h) (Or.inl ⟨by rfl, ?hyAD14⟩) hHeld ?restAD14
              case hyAD14 => (intro w hSw; have hc := (HCX.out _ (HB.out.trans ((Hid.out hSw).mono HB.out.size))).1; go_simp; try with_reducible rfl)
              try simp only [Act.put, List.setIfInBounds_toArray, List.set_cons_zero, List.set_cons_succ]
              refine wpAnyH_take (i := 15) (oi := { dst := some 46, op := Op.binOp BinOp.neq 9 (Operand.tmp 40) (Operand.tmp 45) 9, type := 4, pos := "ref.go:182", after := #[{ on := 9, ground := Ground.data }, { on := 14, ground := Ground.data }, { on := 4, ground := Ground.guard }], guard := some (4, false) }) (v := ?vAD15) rfl (by kernel_rfl) (by kernel_rfl) (by kernel_rfl) (fun _ _ _ h => h) (Or.inl ⟨by rfl, ?hyAD15⟩) hHeld ?restAD15
              case hyAD15 => (intro w hSw; go_simp; try with_reducible rfl)
              try simp only [Act.put, List.setIfInBounds_toArray, List.set_cons_zero, List.set_cons_succ]
              refine wpAnyH_take (i := 16) (oi := { dst := some 47, op := Op.pick (Operand.tmp 35) (Operand.const (Value.bool true)) (Operand.tmp 46), type := 4, pos := "ref.go:182", after := #[{ on := 4, ground := Ground.data }, { on := 15, ground := Ground.data }], guard := none }) (v := ?vAD16) rfl (by kernel_rfl) (by kernel_rfl) (by kernel_rfl) (fun _ _ _ h => h) (Or.inl ⟨by rfl, ?hyAD16⟩) hHeld ?restAD16
              case hyAD16 => (intro w hSw; go_simp; try with_reducible rfl)
              try simp only [Act.put, List.setIfInBounds_toArray, List.set_cons_zero, List.set_cons_succ]
              refine wpAnyH_done (by kernel_rfl) ?_ _
              go_wp2_with fail
              exact ⟨⟨i + 1, m, _, c3, hlt, by omega, by go_num, rfl, Lib.hid (by rw [HEQ.out]; exact HO.out.after (by omega) (Hid.out hHeld)), Lib.hid (HB.out.trans ((Hid.out hHeld).mono HB.out.size))⟩, by simp [intOf]; omega⟩
          · have HYK : Hid (kl y x) := Lib.hid (HBB.out.1 (by first | rfl | trivial))
            go_wp2_with fail
            refine wp_region_held_drew (S := fun w' => Hid (Below wo.heap.size wo w')) (by kernel_rfl) (Lib.hid (HS.out).drew) (fun hHeld => ?_)
            refine wpAnyH_take (i := 0) (oi := { dst := some 12, op := Op.move (Operand.tmp 5), type := 3, pos := "ref.go:179", after := #[], guard := none }) (v := ?vE0) rfl (by kernel_rfl) (by kernel_rfl) (by kernel_rfl) (fun _ _ _ h => h) (Or.inl ⟨by rfl, ?hyE0⟩) hHeld ?restE0
            case hyE0 => (intro w hSw; go_simp; try with_reducible rfl)
            try simp only [Act.put, List.setIfInBounds_toArray, List.set_cons_zero, List.set_cons_succ]
            refine wpAnyH_take (i := 1) (oi := { dst := some 13, op := Op.move (Operand.tmp 3), type := 82, pos := "ref.go:179", after := #[], guard := none }) (v := ?vE1) rfl (by kernel_rfl) (by kernel_rfl) (by kernel_rfl) (fun _ _ _ h => h) (Or.inl ⟨by rfl, ?hyE1⟩) hHeld ?restE1
            case hyE1 => (intro w hSw; go_simp; try with_reducible rfl)
            try simp only [Act.put, List.setIfInBounds_toArray, List.set_cons_zero, List.set_cons_succ]
            refine wpAnyH_take (i := 2) (oi := { dst := some 14, op := Op.call { callee := Callee.builtin Builtin.len, args := #[Operand.tmp 13], argTypes := #[82] }, type := 3, pos := "ref.go:179", after := #[{ on := 1, ground := Ground.data }], guard := none }) (v := ?vE2) rfl (by kernel_rfl) (by kernel_rfl) (by kernel_rfl) (fun _ _ _ h => h) (Or.inl ⟨by rfl, ?hyE2⟩) hHeld ?restE2
            case hyE2 => (intro w hSw; go_simp; try with_reducible rfl)
            try simp only [Act.put, List.setIfInBounds_toArray, List.set_cons_zero, List.set_cons_succ]
            refine wpAnyH_take (i := 3) (oi := { dst := some 15, op := Op.binOp BinOp.lss 3 (Operand.tmp 12) (Operand.tmp 14) 3, type := 4, pos := "ref.go:179", after := #[{ on := 0, ground := Ground.data }, { on := 2, ground := Ground.data }], guard := none }) (v := ?vE3) rfl (by kernel_rfl) (by kernel_rfl) (by kernel_rfl) (fun _ _ _ h => h) (Or.inl ⟨by rfl, ?hyE3⟩) hHeld ?restE3
            case hyE3 => (intro w hSw; go_simp; try with_reducible rfl)
            try simp only [Act.put, List.setIfInBounds_toArray, List.set_cons_zero, List.set_cons_succ]
            refine wpAnyH_take (i := 4) (oi := { dst := some 16, op := Op.move (Operand.tmp 15), type := 4, pos := "ref.go:179", after := #[{ on := 3, ground := Ground.data }], guard := none }) (v := ?vE4) rfl (by kernel_rfl) (by kernel_rfl) (by kernel_rfl) (fun _ _ _ h => h) (Or.inl ⟨by rfl, ?hyE4⟩) hHeld ?restE4
            case hyE4 => (intro w hSw; go_simp; try with_reducible rfl)
            try simp only [Act.put, List.setIfInBounds_toArray, List.set_cons_zero, List.set_cons_succ]
            refine wpAnyH_take (i := 5) (oi := { dst := some 17, op := Op.move (Operand.tmp 3), type := 82, pos := "ref.go:179", after := #[{ on := 4, ground := Ground.guard }], guard := some (4, true) }) (v := ?vE5) rfl (by kernel_rfl) (by kernel_rfl) (by kernel_rfl) (fun _ _ _ h => h) (Or.inl ⟨by rfl, ?hyE5⟩) hHeld ?restE5
            case hyE5 => (intro w hSw; go_simp; try with_reducible rfl)
            try simp only [Act.put, List.setIfInBounds_toArray, List.set_cons_zero, List.set_cons_succ]
            refine wpAnyH_take (i := 6) (oi := { dst := some 18, op := Op.move (Operand.tmp 5), type := 3, pos := "ref.go:179", after := #[{ on := 4, ground := Ground.guard }], guard := some (4, true) }) (v := ?vE6) rfl (by kernel_rfl) (by kernel_rfl) (by kernel_rfl) (fun _ _ _ h => h) (Or.inl ⟨by rfl, ?hyE6⟩) hHeld ?restE6
            case hyE6 => (intro w hSw; go_simp; try with_reducible rfl)
            try simp only [Act.put, List.setIfInBounds_toArray, List.set_cons_zero, List.set_cons_succ]
            refine wpAnyH_take (i := 7) (oi := { dst := some 19, op := Op.indexAddr 82 (Operand.tmp 17) (Operand.tmp 18), type := 0, pos := "ref.go:179", after := #[{ on := 5, ground := Ground.data }, { on := 6, ground := Ground.data }, { on := 4, ground := Ground.guard }], guard := some (4, true) }) (v := ?vE7) rfl (by kernel_rfl) (by kernel_rfl) (by kernel_rfl) (fun _ _ _ h => h) (Or.inl ⟨by rfl, ?hyE7⟩) hHeld ?restE7
            case hyE7 => (intro w hSw; go_simp; try with_reducible rfl)
            try simp only [Act.put, List.setIfInBounds_toArray, List.set_cons_zero, List.set_cons_succ]
            refine wpAnyH_take (i := 8) (oi := { dst := some 20, op := Op.fieldAddr 182 (Operand.tmp 19) 0, type := 0, pos := "ref.go:179", after := #[{ on := 7, ground := Ground.data }, { on := 4, ground := Ground.guard }], guard := some (4, true) }) (v := ?vE8) rfl (by kernel_rfl) (by kernel_rfl) (by kernel_rfl) (fun _ _ _ h => h) (Or.inl ⟨by rfl, ?hyE8⟩) hHeld ?restE8
            case hyE8 => (intro w hSw; go_simp; try with_reducible rfl)
            try simp only [Act.put, List.setIfInBounds_toArray, List.set_cons_zero, List.set_cons_succ]
            refine wpAnyH_take (i := 9) (oi := { dst := some 21, op := Op.load 9 (Operand.tmp 20), type := 9, pos := "ref.go:179", after := #[{ on := 8, ground := Ground.data }, { on := 4, ground := Ground.guard }], guard := some (4, true) }) (v := ?vE9) rfl (by kernel_rfl) (by kernel_rfl) (by kernel_rfl) (fun _ _ _ h => h) (Or.inl ⟨by rfl, ?hyE9⟩) hHeld ?restE9
            case hyE9 => (intro w hSw; have hc := HCY.out _ (Hid.out hSw); go_simp; try with_reducible rfl)
            try simp only [Act.put, List.setIfInBounds_toArray, List.set_cons_zero, List.set_cons_succ]
            refine wpAnyH_take (i := 10) (oi := { dst := some 22, op := Op.move (Operand.tmp 0), type := 82, pos := "ref.go:179", after := #[{ on := 4, ground := Ground.guard }], guard := some (4, true) }) (v := ?vE10) rfl (by kernel_rfl) (by kernel_rfl) (by kernel_rfl) (fun _ _ _ h => h) (Or.inl ⟨by rfl, ?hyE10⟩) hHeld ?restE10
            case hyE10 => (intro w hSw; go_simp; try with_reducible rfl)
            try simp only [Act.put, List.setIfInBounds_toArray, List.set_cons_zero, List.set_cons_succ]
            refine wpAnyH_take (i := 11) (oi := { dst := some 23, op := Op.move (Operand.tmp 4), type := 3, pos := "ref.go:179", after := #[{ on := 4, ground := Ground.guard }], guard := some (4, true) }) (v := ?vE11) rfl (by kernel_rfl) (by kernel_rfl) (by kernel_rfl) (fun _ _ _ h => h) (Or.inl ⟨by rfl, ?hyE11⟩) hHeld ?restE11
            case hyE11 => (intro w hSw; go_simp; try with_reducible rfl)
            try simp only [Act.put, List.setIfInBounds_toArray, List.set_cons_zero, List.set_cons_succ]
            refine wpAnyH_take (i := 12) (oi := { dst := some 24, op := Op.indexAddr 82 (Operand.tmp 22) (Operand.tmp 23), type := 0, pos := "ref.go:179", after := #[{ on := 10, ground := Ground.data }, { on := 11, ground := Ground.data }, { on := 4, ground := Ground.guard }], guard := some (4, true) }) (v := ?vE12) rfl (by kernel_rfl) (by kernel_rfl) (by kernel_rfl) (fun _ _ _ h => h) (Or.inl ⟨by rfl, ?hyE12⟩) hHeld ?restE12
            case hyE12 => (intro w hSw; go_simp; try with_reducible rfl)
            try simp only [Act.put, List.setIfInBounds_toArray, List.set_cons_zero, List.set_cons_succ]
            refine wpAnyH_take (i := 13) (oi := { dst := some 25, op := Op.fieldAddr 182 (Operand.tmp 24) 0, type := 0, pos := "ref.go:179", after := #[{ on := 12, ground := Ground.data }, { on := 4, ground := Ground.guard }], guard := some (4, true) }) (v := ?vE13) rfl (by kernel_rfl) (by kernel_rfl) (by kernel_rfl) (fun _ _ _ h => h) (Or.inl ⟨by rfl, ?hyE13⟩) hHeld ?restE13
            case hyE13 => (intro w hSw; go_simp; try with_reducible rfl)
            try simp only [Act.put, List.setIfInBounds_toArray, List.set_cons_zero, List.set_cons_succ]
            refine wpAnyH_take (i := 14) (oi := { dst := some 26, op := Op.load 9 (Operand.tmp 25), type := 9, pos := "ref.go:179", after := #[{ on := 13, ground := Ground.data }, { on := 4, ground := Ground.guard }], guard := some (4, true) }) (v := ?vE14) rfl (by kernel_rfl) (by kernel_rfl) (by kernel_rfl) (fun _ _ _ h => h) (Or.inl ⟨by rfl, ?hyE14⟩) hHeld ?restE14
            case hyE14 => (intro w hSw; have hc := (HCX.out _ (HB.out.trans ((Hid.out hSw).mono HB.out.size))).1; go_simp; try with_reducible rfl)
            try simp only [Act.put, List.setIfInBounds_toArray, List.set_cons_zero, List.set_cons_succ]
            refine wpAnyH_ready (rs := [15]) (by kernel_rfl) (by simp) ?_
            refine AllReadyH.cons (o := { dst := some 27, op := Op.call { callee := Callee.value (Operand.func 119), args := #[Operand.tmp 21, Operand.tmp 26], argTypes := #[9, 9] }, type := 4, pos := "ref.go:179", after := #[{ on := 9, ground := Ground.data }, { on := 14, ground := Ground.data }, { on := 4, ground := Ground.chain }, { on := 4, ground := Ground.guard }], guard := some (4, true) }) rfl (fun K hK => ?_) AllReadyH.nil
            go_simp
            refine (HLS.out _).mono ?_; rintro e wq15 ⟨rfl, hq15⟩; have HQ15 := Lib.hid hq15; clear hq15
            refine hK.out _ _ ((Lib.hid ((Hid.out hHeld).trans (HQ15.out.mono (Hid.out hHeld).size)))) (fun hHeld => ?_)
            clear hK K
            try simp only [Act.put, List.setIfInBounds_toArray, List.set_cons_zero, List.set_cons_succ]
            refine wpAnyH_take (i := 16) (oi := { dst := some 28, op := Op.pick (Operand.tmp 16) (Operand.tmp 27) (Operand.const (Value.bool false)), type := 4, pos := "ref.go:179", after := #[{ on := 4, ground := Ground.data }, { on := 15, ground := Ground.data }], guard := none }) (v := ?vE16) rfl (by kernel_rfl) (by kernel_rfl) (by kernel_rfl) (fun _ _ _ h => h) (Or.inl ⟨by rfl, ?hyE16⟩) hHeld ?restE16
            case hyE16 => (intro w hSw; go_simp; try with_reducible rfl)
            try simp only [Act.put, List.setIfInBounds_toArray, List.set_cons_zero, List.set_cons_succ]
            refine wpAnyH_done (by kernel_rfl) ?_ _
            go_wp2_with fail
            exact ⟨⟨k + 1, hkm, by go_num, hHeld, Lib.hid (fun j z hj hz => by
              rcases Nat.lt_or_ge j k with h1 | h1
              · exact HK.out j z h1 hz
              · obtain rfl : j = k := by omega
                rw [hl3.out] at hz
                injection hz with hz
                exact hz ▸ HYK.out)⟩, by simp [intOf]; omega⟩
        · obtain rfl : k = m := by omega
          have HEQ : Hid (sortR l (i + 1) = (([] ++ (sortR l i).take k) ++ [x]) ++ (sortR l i).drop k) := Lib.hid (by
            have h1 := HO.out.len
            rw [sortR_next hl.out, insR_end (fun y hy => by
              obtain ⟨j, hj, he⟩ := List.mem_iff_getElem.1 hy
              exact HK.out j y (by omega) (by rw [← he]; exact List.getElem?_eq_getElem hj)), List.take_of_length_le (by omega), List.drop_of_length_le (by omega), List.append_nil, List.nil_append])
          go_wp2_with fail
          refine wp_region_held_drew (S := fun w' => Hid (Below wo.heap.size wo w')) (by kernel_rfl) (Lib.hid (HS.out).drew) (fun hHeld => ?_)
          refine wpAnyH_take (i := 0) (oi := { dst := some 12, op := Op.move (Operand.tmp 5), type := 3, pos := "ref.go:179", after := #[], guard := none }) (v := ?vF0) rfl (by kernel_rfl) (by kernel_rfl) (by kernel_rfl) (fun _ _ _ h => h) (Or.inl ⟨by rfl, ?hyF0⟩) hHeld ?restF0
          case hyF0 => (intro w hSw; go_simp; try with_reducible rfl)
          try simp only [Act.put, List.setIfInBounds_toArray, List.set_cons_zero, List.set_cons_succ]
          refine wpAnyH_take (i := 1) (oi := { dst := some 13, op := Op.move (Operand.tmp 3), type := 82, pos := "ref.go:179", after := #[], guard := none }) (v := ?vF1) rfl (by kernel_rfl) (by kernel_rfl) (by kernel_rfl) (fun _ _ _ h => h) (Or.inl ⟨by rfl, ?hyF1⟩) hHeld ?restF1
          case hyF1 => (intro w hSw; go_simp; try with_reducible rfl)
          try simp only [Act.put, List.setIfInBounds_toArray, List.set_cons_zero, List.set_cons_succ]
          refine wpAnyH_take (i := 2) (oi := { dst := some 14, op := Op.call { callee := Callee.builtin Builtin.len, args := #[Operand.tmp 13], argTypes := #[82] }, type := 3, pos := "ref.go:179", after := #[{ on := 1, ground := Ground.data }], guard := none }) (v := ?vF2) rfl (by kernel_rfl) (by kernel_rfl) (by kernel_rfl) (fun _ _ _ h => h) (Or.inl ⟨by rfl, ?hyF2⟩) hHeld ?restF2
          case hyF2 => (intro w hSw; go_simp; try with_reducible rfl)
          try simp only [Act.put, List.setIfInBounds_toArray, List.set_cons_zero, List.set_cons_succ]
          refine wpAnyH_take (i := 3) (oi := { dst := some 15, op := Op.binOp BinOp.lss 3 (Operand.tmp 12) (Operand.tmp 14) 3, type := 4, pos := "ref.go:179", after := #[{ on := 0, ground := Ground.data }, { on := 2, ground := Ground.data }], guard := none }) (v := ?vF3) rfl (by kernel_rfl) (by kernel_rfl) (by kernel_rfl) (fun _ _ _ h => h) (Or.inl ⟨by rfl, ?hyF3⟩) hHeld ?restF3
          case hyF3 => (intro w hSw; go_simp; try with_reducible rfl)
          try simp only [Act.put, List.setIfInBounds_toArray, List.set_cons_zero, List.set_cons_succ]
          refine wpAnyH_take (i := 4) (oi := { dst := some 16, op := Op.move (Operand.tmp 15), type := 4, pos := "ref.go:179", after := #[{ on := 3, ground := Ground.data }], guard := none }) (v := ?vF4) rfl (by kernel_rfl) (by kernel_rfl) (by kernel_rfl) (fun _ _ _ h => h) (Or.inl ⟨by rfl, ?hyF4⟩) hHeld ?restF4
          case hyF4 => (intro w hSw; go_simp; try with_reducible rfl)
          try simp only [Act.put, List.setIfInBounds_toArray, List.set_cons_zero, List.set_cons_succ]
          refine wpAnyH_take (i := 5) (oi := { dst := some 17, op := Op.move (Operand.tmp 3), type := 82, pos := "ref.go:179", after := #[{ on := 4, ground := Ground.guard }], guard := some (4, true) }) (v := undef) rfl (by kernel_rfl) (by kernel_rfl) (by kernel_rfl) (fun _ _ _ h => h) (Or.inr ⟨by rfl, rfl⟩) hHeld ?_
          try simp only [Act.put, List.setIfInBounds_toArray, List.set_cons_zero, List.set_cons_succ]
          refine wpAnyH_take (i := 6) (oi := { dst := some 18, op := Op.move (Operand.tmp 5), type := 3, pos := "ref.go:179", after := #[{ on := 4, ground := Ground.guard }], guard := some (4, true) }) (v := undef) rfl (by kernel_rfl) (by kernel_rfl) (by kernel_rfl) (fun _ _ _ h => h) (Or.inr ⟨by rfl, rfl⟩) hHeld ?_
          try simp only [Act.put, List.setIfInBounds_toArray, List.set_cons_zero, List.set_cons_succ]
          refine wpAnyH_take (i := 7) (oi := { dst := some 19, op := Op.indexAddr 82 (Operand.tmp 17) (Operand.tmp 18), type := 0, pos := "ref.go:179", after := #[{ on := 5, ground := Ground.data }, { on := 6, ground := Ground.data }, { on := 4, ground := Ground.guard }], guard := some (4, true) }) (v := undef) rfl (by kernel_rfl) (by kernel_rfl) (by kernel_rfl) (fun _ _ _ h => h) (Or.inr ⟨by rfl, rfl⟩) hHeld ?_
          try simp only [Act.put, List.setIfInBounds_toArray, List.set_cons_zero, List.set_cons_succ]
          refine wpAnyH_take (i := 8) (oi := { dst := some 20, op := Op.fieldAddr 182 (Operand.tmp 19) 0, type := 0, pos := "ref.go:179", after := #[{ on := 7, ground := Ground.data }, { on := 4, ground := Ground.guard }], guard := some (4, true) }) (v := undef) rfl (by kernel_rfl) (by kernel_rfl) (by kernel_rfl) (fun _ _ _ h => h) (Or.inr ⟨by rfl, rfl⟩) hHeld ?_
          try simp only [Act.put, List.setIfInBounds_toArray, List.set_cons_zero, List.set_cons_succ]
          refine wpAnyH_take (i := 9) (oi := { dst := some 21, op := Op.load 9 (Operand.tmp 20), type := 9, pos := "ref.go:179", after := #[{ on := 8, ground := Ground.data }, { on := 4, ground := Ground.guard }], guard := some (4, true) }) (v := undef) rfl (by kernel_rfl) (by kernel_rfl) (by kernel_rfl) (fun _ _ _ h => h) (Or.inr ⟨by rfl, rfl⟩) hHeld ?_
          try simp only [Act.put, List.setIfInBounds_toArray, List.set_cons_zero, List.set_cons_succ]
          refine wpAnyH_take (i := 10) (oi := { dst := some 22, op := Op.move (Operand.tmp 0), type := 82, pos := "ref.go:179", after := #[{ on := 4, ground := Ground.guard }], guard := some (4, true) }) (v := undef) rfl (by kernel_rfl) (by kernel_rfl) (by kernel_rfl) (fun _ _ _ h => h) (Or.inr ⟨by rfl, rfl⟩) hHeld ?_
          try simp only [Act.put, List.setIfInBounds_toArray, List.set_cons_zero, List.set_cons_succ]
          refine wpAnyH_take (i := 11) (oi := { dst := some 23, op := Op.move (Operand.tmp 4), type := 3, pos := "ref.go:179", after := #[{ on := 4, ground := Ground.guard }], guard := some (4, true) }) (v := undef) rfl (by kernel_rfl) (by kernel_rfl) (by kernel_rfl) (fun _ _ _ h => h) (Or.inr ⟨by rfl, rfl⟩) hHeld ?_
          try simp only [Act.put, List.setIfInBounds_toArray, List.set_cons_zero, List.set_cons_succ]
          refine wpAnyH_take (i := 12) (oi := { dst := some 24, op := Op.indexAddr 82 (Operand.tmp 22) (Operand.tmp 23), type := 0, pos := "ref.go:179", after := #[{ on := 10, ground := Ground.data }, { on := 11, ground := Ground.data }, { on := 4, ground := Ground.guard }], guard := some (4, true) }) (v := undef) rfl (by kernel_rfl) (by kernel_rfl) (by kernel_rfl) (fun _ _ _ h => h) (Or.inr ⟨by rfl, rfl⟩) hHeld ?_
          try simp only [Act.put, List.setIfInBounds_toArray, List.set_cons_zero, List.set_cons_succ]
          refine wpAnyH_take (i := 13) (oi := { dst := some 25, op := Op.fieldAddr 182 (Operand.tmp 24) 0, type := 0, pos := "ref.go:179", after := #[{ on := 12, ground := Ground.data }, { on := 4, ground := Ground.guard }], guard := some (4, true) }) (v := undef) rfl (by kernel_rfl) (by kernel_rfl) (by kernel_rfl) (fun _ _ _ h => h) (Or.inr ⟨by rfl, rfl⟩) hHeld ?_
          try simp only [Act.put, List.setIfInBounds_toArray, List.set_cons_zero, List.set_cons_succ]
          refine wpAnyH_take (i := 14) (oi := { dst := some 26, op := Op.load 9 (Operand.tmp 25), type := 9, pos := "ref.go:179", after := #[{ on := 13, ground := Ground.data }, { on := 4, ground := Ground.guard }], guard := some (4, true) }) (v := undef) rfl (by kernel_rfl) (by kernel_rfl) (by kernel_rfl) (fun _ _ _ h => h) (Or.inr ⟨by rfl, rfl⟩) hHeld ?_
          try simp only [Act.put, List.setIfInBounds_toArray, List.set_cons_zero, List.set_cons_succ]
          refine wpAnyH_ready (rs := [15]) (by kernel_rfl) (by simp) ?_
          refine AllReadyH.cons (o := { dst := some 27, op := Op.call { callee := Callee.value (Operand.func 119), args := #[Operand.tmp 21, Operand.tmp 26], argTypes := #[9, 9] }, type := 4, pos := "ref.go:179", after := #[{ on := 9, ground := Ground.data }, { on := 14, ground := Ground.data }, { on := 4, ground := Ground.chain }, { on := 4, ground := Ground.guard }], guard := some (4, true) }) rfl (fun K hK => ?_) AllReadyH.nil
          go_simp
          refine hK.out _ _ hHeld (fun hHeld => ?_)
          clear hK K
          try simp only [Act.put, List.setIfInBounds_toArray, List.set_cons_zero, List.set_cons_succ]
          refine wpAnyH_take (i := 16) (oi := { dst := some 28, op := Op.pick (Operand.tmp 16) (Operand.tmp 27) (Operand.const (Value.bool false)), type := 4, pos := "ref.go:179", after := #[{ on := 4, ground := Ground.data }, { on := 15, ground := Ground.data }], guard := none }) (v := ?vF16) rfl (by kernel_rfl) (by kernel_rfl) (by kernel_rfl) (fun _ _ _ h => h) (Or.inl ⟨by rfl, ?hyF16⟩) hHeld ?restF16
          case hyF16 => (intro w hSw; go_simp; try with_reducible rfl)
          try simp only [Act.put, List.setIfInBounds_toArray, List.set_cons_zero, List.set_cons_succ]
          refine wpAnyH_done (by kernel_rfl) ?_ _
          go_wp2_with fail
          obtain ⟨q, hq⟩ : ∃ q, k - k = q := ⟨_, rfl⟩
          have HKM : Hid (k + q = k) := Lib.hid (by omega)
          obtain ⟨Au, cu, hcu, hsu⟩ := HO.out.uptoE (k := k) hk
          obtain ⟨Af, cf, hcf, hsf⟩ := HO.out.fromE HKM.out
          have HEU : Hid (∀ w', Below wo.heap.size wo w' → Es w' (fun j => w.heap.size ≤ j) Au k cu ((sortR l i).take k) ∧ Es w' (fun j => w.heap.size ≤ j) Af q cf ((sortR l i).drop k)) := Lib.hid fun w' h => ⟨hsu.after (by omega) h, hsf.after (by omega) h⟩
          have hqm : q ≤ k := by omega
          have hqk : k + q ≤ i := by omega
          clear hsu hsf hq
          refine wp_region_held_drew (S := fun w' => Hid (Below wo.heap.size wo w')) (by kernel_rfl) (Lib.hid ((Hid.out hHeld)).drew) (fun hHeld => ?_)
          refine wpAnyH_take (i := 0) (oi := { dst := some 31, op := Op.move (Operand.tmp 5), type := 3, pos := "ref.go:182", after := #[], guard := none }) (v := ?vFG0) rfl (by kernel_rfl) (by kernel_rfl) (by kernel_rfl) (fun _ _ _ h => h) (Or.inl ⟨by rfl, ?hyFG0⟩) hHeld ?restFG0
          case hyFG0 => (intro w hSw; go_simp; try with_reducible rfl)
          try simp only [Act.put, List.setIfInBounds_toArray, List.set_cons_zero, List.set_cons_succ]
          refine wpAnyH_take (i := 1) (oi := { dst := some 32, op := Op.move (Operand.tmp 3), type := 82, pos := "ref.go:182", after := #[], guard := none }) (v := ?vFG1) rfl (by kernel_rfl) (by kernel_rfl) (by kernel_rfl) (fun _ _ _ h => h) (Or.inl ⟨by rfl, ?hyFG1⟩) hHeld ?restFG1
          case hyFG1 => (intro w hSw; go_simp; try with_reducible rfl)
          try simp only [Act.put, List.setIfInBounds_toArray, List.set_cons_zero, List.set_cons_succ]
          refine wpAnyH_take (i := 2) (oi := { dst := some 33, op := Op.call { callee := Callee.builtin Builtin.len, args := #[Operand.tmp 32], argTypes := #[82] }, type := 3, pos := "ref.go:182", after := #[{ on := 1, ground := Ground.data }], guard := none }) (v := ?vFG2) rfl (by kernel_rfl) (by kernel_rfl) (by kernel_rfl) (fun _ _ _ h => h) (Or.inl ⟨by rfl, ?hyFG2⟩) hHeld ?restFG2
          case hyFG2 => (intro w hSw; go_simp; try with_reducible rfl)
          try simp only [Act.put, List.setIfInBounds_toArray, List.set_cons_zero, List.set_cons_succ]
          refine wpAnyH_take (i := 3) (oi := { dst := some 34, op := Op.binOp BinOp.eql 3 (Operand.tmp 31) (Operand.tmp 33) 3, type := 4, pos := "ref.go:182", after := #[{ on := 0, ground := Ground.data }, { on := 2, ground := Ground.data }], guard := none }) (v := ?vFG3) rfl (by kernel_rfl) (by kernel_rfl) (by kernel_rfl) (fun _ _ _ h => h) (Or.inl ⟨by rfl, ?hyFG3⟩) hHeld ?restFG3
          case hyFG3 => (intro w hSw; go_simp; try with_reducible rfl)
          try simp only [Act.put, List.setIfInBounds_toArray, List.set_cons_zero, List.set_cons_succ]
          refine wpAnyH_take (i := 4) (oi := { dst := some 35, op := Op.move (Operand.tmp 34), type := 4, pos := "ref.go:182", after := #[{ on := 3, ground := Ground.data }], guard := none }) (v := ?vFG4) rfl (by kernel_rfl) (by kernel_rfl) (by kernel_rfl) (fun _ _ _ h => h) (Or.inl ⟨by rfl, ?hyFG4⟩) hHeld ?restFG4
          case hyFG4 => (intro w hSw; go_simp; try with_reducible rfl)
          try simp only [Act.put, List.setIfInBounds_toArray, List.set_cons_zero, List.set_cons_succ]
          refine wpAnyH_take (i := 5) (oi := { dst := some 36, op := Op.move (Operand.tmp 3), type := 82, pos := "ref.go:182", after := #[{ on := 4, ground := Ground.guard }], guard := some (4, false) }) (v := undef) rfl (by kernel_rfl) (by kernel_rfl) (by kernel_rfl) (fun _ _ _ h => h) (Or.inr ⟨by rfl, rfl⟩) hHeld ?_
          try simp only [Act.put, List.setIfInBounds_toArray, List.set_cons_zero, List.set_cons_succ]
          refine wpAnyH_take (i := 6) (oi := { dst := some 37, op := Op.move (Operand.tmp 5), type := 3, pos := "ref.go:182", after := #[{ on := 4, ground := Ground.guard }], guard := some (4, false) }) (v := undef) rfl (by kernel_rfl) (by kernel_rfl) (by kernel_rfl) (fun _ _ _ h => h) (Or.inr ⟨by rfl, rfl⟩) hHeld ?_
          try simp only [Act.put, List.setIfInBounds_toArray, List.set_cons_zero, List.set_cons_succ]
          refine wpAnyH_take (i := 7) (oi := { dst := some 38, op := Op.indexAddr 82 (Operand.tmp 36) (Operand.tmp 37), type := 0, pos := "ref.go:182", after := #[{ on := 5, ground := Ground.data }, { on := 6, ground := Ground.data }, { on := 4, ground := Ground.guard }], guard := some (4, false) }) (v := undef) rfl (by kernel_rfl) (by kernel_rfl) (by kernel_rfl) (fun _ _ _ h => h) (Or.inr ⟨by rfl, rfl⟩) hHeld ?_
          try simp only [Act.put, List.setIfInBounds_toArray, List.set_cons_zero, List.set_cons_succ]
          refine wpAnyH_take (i := 8) (oi := { dst := some 39, op := Op.fieldAddr 182 (Operand.tmp 38) 0, type := 0, pos := "ref.go:182", after := #[{ on := 7, ground := Ground.data }, { on := 4, ground := Ground.guard }], guard := some (4, false) }) (v := undef) rfl (by kernel_rfl) (by kernel_rfl) (by kernel_rfl) (fun _ _ _ h => h) (Or.inr ⟨by rfl, rfl⟩) hHeld ?_
          try simp only [Act.put, List.setIfInBounds_toArray, List.set_cons_zero, List.set_cons_succ]
          refine wpAnyH_take (i := 9) (oi := { dst := some 40, op := Op.load 9 (Operand.tmp 39), type := 9, pos := "ref.go:182", after := #[{ on := 8, ground := Ground.data }, { on := 4, ground := Ground.guard }], guard := some (4, false) }) (v := undef) rfl (by kernel_rfl) (by kernel_rfl) (by kernel_rfl) (fun _ _ _ h => h) (Or.inr ⟨by rfl, rfl⟩) hHeld ?_
          try simp only [Act.put, List.setIfInBounds_toArray, List.set_cons_zero, List.set_cons_succ]
          refine wpAnyH_take (i := 10) (oi := { dst := some 41, op := Op.move (Operand.tmp 0), type := 82, pos := "ref.go:182", after := #[{ on := 4, ground := Ground.guard }], guard := some (4, false) }) (v := undef) rfl (by kernel_rfl) (by kernel_rfl) (by kernel_rfl) (fun _ _ _ h => h) (Or.inr ⟨by rfl, rfl⟩) hHeld ?_
          try simp only [Act.put, List.setIfInBounds_toArray, List.set_cons_zero, List.set_cons_succ]
          refine wpAnyH_take (i := 11) (oi := { dst := some 42, op := Op.move (Operand.tmp 4), type := 3, pos := "ref.go:182", after := #[{ on := 4, ground := Ground.guard }], guard := some (4, false) }) (v := undef) rfl (by kernel_rfl) (by kernel_rfl) (by kernel_rfl) (fun _ _ _ h => h) (Or.inr ⟨by rfl, rfl⟩) hHeld ?_
          try simp only [Act.put, List.setIfInBounds_toArray, List.set_cons_zero, List.set_cons_succ]
          refine wpAnyH_take (i := 12) (oi := { dst := some 43, op := Op.indexAddr 82 (Operand.tmp 41) (Operand.tmp 42), type := 0, pos := "ref.go:182", after := #[{ on := 10, ground := Ground.data }, { on := 11, ground := Ground.data }, { on := 4, ground := Ground.guard }], guard := some (4, false) }) (v := undef) rfl (by kernel_rfl) (by kernel_rfl) (by kernel_rfl) (fun _ _ _ h => h) (Or.inr ⟨by rfl, rfl⟩) hHeld ?_
          try simp only [Act.put, List.setIfInBounds_toArray, List.set_cons_zero, List.set_cons_succ]
          refine wpAnyH_take (i := 13) (oi := { dst := some 44, op := Op.fieldAddr 182 (Operand.tmp 43) 0, type := 0, pos := "ref.go:182", after := #[{ on := 12, ground := Ground.data }, { on := 4, ground := Ground.guard }], guard := some (4, false) }) (v := undef) rfl (by kernel_rfl) (by kernel_rfl) (by kernel_rfl) (fun _ _ _ h => h) (Or.inr ⟨by rfl, rfl⟩) hHeld ?_
          try simp only [Act.put, List.setIfInBounds_toArray, List.set_cons_zero, List.set_cons_succ]
          refine wpAnyH_take (i := 14) (oi := { dst := some 45, op := Op.load 9 (Operand.tmp 44), type := 9, pos := "ref.go:182", after := #[{ on := 13, ground := Ground.data }, { on := 4, ground := Ground.guard }], guard := some (4, false) }) (v := undef) rfl (by kernel_rfl) (by kernel_rfl) (by kernel_rfl) (fun _ _ _ h => h) (Or.inr ⟨by rfl, rfl⟩) hHeld ?_
          try simp only [Act.put, List.setIfInBounds_toArray, List.set_cons_zero, List.set_cons_succ]
          refine wpAnyH_take (i := 15) (oi := { dst := some 46, op := Op.binOp BinOp.neq 9 (Operand.tmp 40) (Operand.tmp 45) 9, type := 4, pos := "ref.go:182", after := #[{ on := 9, ground := Ground.data }, { on := 14, ground := Ground.data }, { on := 4, ground := Ground.guard }], guard := some (4, false) }) (v := undef) rfl (by kernel_rfl) (by kernel_rfl) (by kernel_rfl) (fun _ _ _ h => h) (Or.inr ⟨by rfl, rfl⟩) hHeld ?_
          try simp only [Act.put, List.setIfInBounds_toArray, List.set_cons_zero, List.set_cons_succ]
          refine wpAnyH_take (i := 16) (oi := { dst := some 47, op := Op.pick (Operand.tmp 35) (Operand.const (Value.bool true)) (Operand.tmp 46), type := 4, pos := "ref.go:182", after := #[{ on := 4, ground := Ground.data }, { on := 15, ground := Ground.data }], guard := none }) (v := ?vFG16) rfl (by kernel_rfl) (by kernel_rfl) (by kernel_rfl) (fun _ _ _ h => h) (Or.inl ⟨by rfl, ?hyFG16⟩) hHeld ?restFG16
          case hyFG16 => (intro w hSw; go_simp; try with_reducible rfl)
          try simp only [Act.put, List.setIfInBounds_toArray, List.set_cons_zero, List.set_cons_succ]
          refine wpAnyH_done (by kernel_rfl) ?_ _
          go_wp2_with fail
          refine wp_region_held_drew (S := fun w' => Hid (Below wo.heap.size wo w')) (by kernel_rfl) (Lib.hid (Hid.out hHeld).drew) (fun hHeld => ?_)
          refine wpAnyH_take (i := 1) (oi := { dst := some 49, op := Op.move (Operand.tmp 3), type := 82, pos := "ref.go:183", after := #[], guard := none }) (v := ?vFGH1) rfl (by kernel_rfl) (by kernel_rfl) (by kernel_rfl) (fun _ _ _ h => h) (Or.inl ⟨by rfl, ?hyFGH1⟩) hHeld ?restFGH1
          case hyFGH1 => (intro w hSw; go_simp; try with_reducible rfl)
          try simp only [Act.put, List.setIfInBounds_toArray, List.set_cons_zero, List.set_cons_succ]
          refine wpAnyH_take (i := 2) (oi := { dst := some 50, op := Op.move (Operand.tmp 5), type := 3, pos := "ref.go:183", after := #[], guard := none }) (v := ?vFGH2) rfl (by kernel_rfl) (by kernel_rfl) (by kernel_rfl) (fun _ _ _ h => h) (Or.inl ⟨by rfl, ?hyFGH2⟩) hHeld ?restFGH2
          case hyFGH2 => (intro w hSw; go_simp; try with_reducible rfl)
          try simp only [Act.put, List.setIfInBounds_toArray, List.set_cons_zero, List.set_cons_succ]
          refine wpAnyH_take (i := 3) (oi := { dst := some 51, op := Op.slice 82 (Operand.tmp 49) none (some (Operand.tmp 50)) none, type := 82, pos := "ref.go:183", after := #[{ on := 1, ground := Ground.data }, { on := 2, ground := Ground.data }], guard := none }) (v := ?vFGH3) rfl (by kernel_rfl) (by kernel_rfl) (by kernel_rfl) (fun _ _ _ h => h) (Or.inl ⟨by rfl, ?hyFGH3⟩) hHeld ?restFGH3
          case hyFGH3 => (intro w hSw; go_simp; try with_reducible rfl)
          try simp only [Act.put, List.setIfInBounds_toArray, List.set_cons_zero, List.set_cons_succ]
          refine wpAnyH_take (i := 5) (oi := { dst := some 53, op := Op.move (Operand.tmp 0), type := 82, pos := "ref.go:183", after := #[], guard := none }) (v := ?vFGH5) rfl (by kernel_rfl) (by kernel_rfl) (by kernel_rfl) (fun _ _ _ h => h) (Or.inl ⟨by rfl, ?hyFGH5⟩) hHeld ?restFGH5
          case hyFGH5 => (intro w hSw; go_simp; try with_reducible rfl)
          try simp only [Act.put, List.setIfInBounds_toArray, List.set_cons_zero, List.set_cons_succ]
          refine wpAnyH_take (i := 6) (oi := { dst := some 54, op := Op.move (Operand.tmp 4), type := 3, pos := "ref.go:183", after := #[], guard := none }) (v := ?vFGH6) rfl (by kernel_rfl) (by kernel_rfl) (by kernel_rfl) (fun _ _ _ h => h) (Or.inl ⟨by rfl, ?hyFGH6⟩) hHeld ?restFGH6
          case hyFGH6 => (intro w hSw; go_simp; try with_reducible rfl)
          try simp only [Act.put, List.setIfInBounds_toArray, List.set_cons_zero, List.set_cons_succ]
          refine wpAnyH_take (i := 7) (oi := { dst := some 55, op := Op.indexAddr 82 (Operand.tmp 53) (Operand.tmp 54), type := 0, pos := "ref.go:183", after := #[{ on := 5, ground := Ground.data }, { on := 6, ground := Ground.data }], guard := none }) (v := ?vFGH7) rfl (by kernel_rfl) (by kernel_rfl) (by kernel_rfl) (fun _ _ _ h => h) (Or.inl ⟨by rfl, ?hyFGH7⟩) hHeld ?restFGH7
          case hyFGH7 => (intro w hSw; go_simp; try with_reducible rfl)
          try simp only [Act.put, List.setIfInBounds_toArray, List.set_cons_zero, List.set_cons_succ]
          refine wpAnyH_take (i := 8) (oi := { dst := some 56, op := Op.load 182 (Operand.tmp 55), type := 182, pos := "ref.go:183", after := #[{ on := 7, ground := Ground.data }], guard := none }) (v := _) rfl (by kernel_rfl) (by kernel_rfl) (by kernel_rfl) (fun _ _ _ h => h) (yields_A rfl (by rfl) rfl (by rw [HRS.out]; exact wide182) (fun w' hs => (HCX.out w' (HB.out.trans ((Hid.out hs).mono HB.out.size))).2)) hHeld ?_
          try simp only [Act.put, List.setIfInBounds_toArray, List.set_cons_zero, List.set_cons_succ]
          refine wpAnyH_take (i := 11) (oi := { dst := some 59, op := Op.move (Operand.tmp 3), type := 82, pos := "ref.go:183", after := #[], guard := none }) (v := ?vFGH11) rfl (by kernel_rfl) (by kernel_rfl) (by kernel_rfl) (fun _ _ _ h => h) (Or.inl ⟨by rfl, ?hyFGH11⟩) hHeld ?restFGH11
          case hyFGH11 => (intro w hSw; go_simp; try with_reducible rfl)
          try simp only [Act.put, List.setIfInBounds_toArray, List.set_cons_zero, List.set_cons_succ]
          refine wpAnyH_take (i := 12) (oi := { dst := some 60, op := Op.move (Operand.tmp 5), type := 3, pos := "ref.go:183", after := #[], guard := none }) (v := ?vFGH12) rfl (by kernel_rfl) (by kernel_rfl) (by kernel_rfl) (fun _ _ _ h => h) (Or.inl ⟨by rfl, ?hyFGH12⟩) hHeld ?restFGH12
          case hyFGH12 => (intro w hSw; go_simp; try with_reducible rfl)
          try simp only [Act.put, List.setIfInBounds_toArray, List.set_cons_zero, List.set_cons_succ]
          refine wpAnyH_take (i := 13) (oi := { dst := some 61, op := Op.slice 82 (Operand.tmp 59) (some (Operand.tmp 60)) none none, type := 82, pos := "ref.go:183", after := #[{ on := 11, ground := Ground.data }, { on := 12, ground := Ground.data }], guard := none }) (v := ?vFGH13) rfl (by kernel_rfl) (by kernel_rfl) (by kernel_rfl) (fun _ _ _ h => h) (Or.inl ⟨by rfl, ?hyFGH13⟩) hHeld ?restFGH13
          case hyFGH13 => (intro w hSw; go_simp; try with_reducible rfl)
          try simp only [Act.put, List.setIfInBounds_toArray, List.set_cons_zero, List.set_cons_succ]
          refine wpAnyH_ready (rs := [0, 9]) (by kernel_rfl) (by simp) ?_
          refine AllReadyH.cons (o := { dst := some 48, op := Op.buildSlice 82 0 #[], type := 82, pos := "ref.go:183", after := #[], guard := none }) rfl (fun K hK => ?_) (AllReadyH.cons (o := { dst := some 57, op := Op.buildSlice 82 1 #[(0, Operand.tmp 56)], type := 82, pos := "ref.go:183", after := #[{ on := 8, ground := Ground.data }], guard := none }) rfl (fun K hK => ?_) AllReadyH.nil)
          · (refine step_made0 rfl rfl (base := wo.heap.size) (Hid.out hHeld).size ?_; intro g0 W0 hg0 hlt0 hown0 hbl0)
            refine hK.out _ _ ((Lib.hid ((Hid.out hHeld).trans (hbl0.mono (Hid.out hHeld).size)))) (fun hHeld => ?_)
            clear hK K
            try simp only [Act.put, List.setIfInBounds_toArray, List.set_cons_zero, List.set_cons_succ]
            refine wpAnyH_ready (rs := [4, 9]) (by kernel_rfl) (by simp) ?_
            refine AllReadyH.cons (o := { dst := some 52, op := Op.call { callee := Callee.builtin Builtin.append, args := #[Operand.tmp 48, Operand.tmp 51], argTypes := #[82, 82] }, type := 82, pos := "ref.go:183", after := #[{ on := 0, ground := Ground.data }, { on := 3, ground := Ground.data }], guard := none }) rfl (fun K hK => ?_) (AllReadyH.cons (o := { dst := some 57, op := Op.buildSlice 82 1 #[(0, Operand.tmp 56)], type := 82, pos := "ref.go:183", after := #[{ on := 8, ground := Ground.data }], guard := none }) rfl (fun K hK => ?_) AllReadyH.nil)
            · (refine step_appE rfl (.tmp 48) (.tmp 51) rfl (v := .slice (some ⟨g0, 0, none⟩) 0 0) (l := []) rfl rfl (base := wo.heap.size) (by first | exact hown0 | exact own_below hown0 hbl9 (Nat.le_refl _)) ((HEU.out _ (Hid.out hHeld)).1) (by omega) (Hid.out hHeld).size ?_; intro A4 c4 W4 hown4 hgr4 hbe4)
              refine hK.out _ _ ((Lib.hid ((Hid.out hHeld).trans hbe4))) (fun hHeld => ?_)
              clear hK K
              try simp only [Act.put, List.setIfInBounds_toArray, List.set_cons_zero, List.set_cons_succ]
              refine wpAnyH_ready (rs := [9]) (by kernel_rfl) (by simp) ?_
              refine AllReadyH.cons (o := { dst := some 57, op := Op.buildSlice 82 1 #[(0, Operand.tmp 56)], type := 82, pos := "ref.go:183", after := #[{ on := 8, ground := Ground.data }], guard := none }) rfl (fun K hK => ?_) AllReadyH.nil
              (refine step_made1 rfl (.tmp 56) rfl HRX.out HOK.out rfl ?_; intro g9 W9 hg9 hlt9 hb9 hbl9)
              refine hK.out _ _ ((Lib.hid ((Hid.out hHeld).trans (hbl9.mono (Hid.out hHeld).size)))) (fun hHeld => ?_)
              clear hK K
              try simp only [Act.put, List.setIfInBounds_toArray, List.set_cons_zero, List.set_cons_succ]
              refine wpAnyH_ready (rs := [10]) (by kernel_rfl) (by simp) ?_
              refine AllReadyH.cons (o := { dst := some 58, op := Op.call { callee := Callee.builtin Builtin.append, args := #[Operand.tmp 52, Operand.tmp 57], argTypes := #[82, 82] }, type := 82, pos := "ref.go:183", after := #[{ on := 4, ground := Ground.data }, { on := 9, ground := Ground.data }, { on := 4, ground := Ground.chain }], guard := none }) rfl (fun K hK => ?_) AllReadyH.nil
              (refine step_appA (enc := EC) (l := [] ++ (sortR l i).take k) (y := x) (base := wo.heap.size) (k := 0 + k) (g := g9) (t := 182) Try.underlying82 info182 (by rw [Value.cells]; exact EC_size (e := noEnt) noName_len) (by omega) (by omega) rfl (.tmp 52) (.tmp 57) rfl rfl rfl (by first | exact hown4 | exact own_below hown4 hbl9 (Nat.le_refl _)) (by first | exact hb9 | exact hb9.grown hgr4 (by simp [Value.ownBlock]; omega) | exact (hb9.after hbl0).grown hgr4 (by simp [Value.ownBlock]; omega)) (EC_size HOK.out) (EC_one x) (by omega) (Hid.out hHeld).size ?_; intro A10 c10 W10 hown10 hbe10)
              refine hK.out _ _ ((Lib.hid ((Hid.out hHeld).trans hbe10))) (fun hHeld => ?_)
              clear hK K
              try simp only [Act.put, List.setIfInBounds_toArray, List.set_cons_zero, List.set_cons_succ]
              refine wpAnyH_ready (rs := [14]) (by kernel_rfl) (by simp) ?_
              refine AllReadyH.cons (o := { dst := some 62, op := Op.call { callee := Callee.builtin Builtin.append, args := #[Operand.tmp 58, Operand.tmp 61], argTypes := #[82, 82] }, type := 82, pos := "ref.go:183", after := #[{ on := 10, ground := Ground.data }, { on := 13, ground := Ground.data }, { on := 10, ground := Ground.chain }], guard := none }) rfl (fun K hK => ?_) AllReadyH.nil
              (refine step_appE rfl (.tmp 58) (.tmp 61) rfl (l := ([] ++ (sortR l i).take k) ++ [x]) rfl rfl (base := wo.heap.size) hown10 ((HEU.out _ (Hid.out hHeld)).2) (by omega) (Hid.out hHeld).size ?_; intro A14 c14 W14 hown14 hgr14 hbe14)
              refine hK.out _ _ ((Lib.hid ((Hid.out hHeld).trans hbe14))) (fun hHeld => ?_)
              clear hK K
              try simp only [Act.put, List.setIfInBounds_toArray, List.set_cons_zero, List.set_cons_succ]
              refine wpAnyH_take (i := 15) (oi := { dst := some 3, op := Op.assign (Operand.tmp 62), type := 82, pos := "ref.go:183", after := #[{ on := 14, ground := Ground.data }, { on := 14, ground := Ground.chain }, { on := 0, ground := Ground.phase }, { on := 1, ground := Ground.phase }, { on := 2, ground := Ground.phase }, { on := 3, ground := Ground.phase }, { on := 4, ground := Ground.phase }, { on := 5, ground := Ground.phase }, { on := 6, ground := Ground.phase }, { on := 7, ground := Ground.phase }, { on := 8, ground := Ground.phase }, { on := 9, ground := Ground.phase }, { on := 10, ground := Ground.phase }, { on := 11, ground := Ground.phase }, { on := 12, ground := Ground.phase }, { on := 13, ground := Ground.phase }, { on := 14, ground := Ground.phase }], guard := none }) (v := ?vFGHaa15) rfl (by kernel_rfl) (by kernel_rfl) (by kernel_rfl) (fun _ _ _ h => h) (Or.inl ⟨by rfl, ?hyFGHaa15⟩) hHeld ?restFGHaa15
              case hyFGHaa15 => (intro w hSw; go_simp; try with_reducible rfl)
              try simp only [Act.put, List.setIfInBounds_toArray, List.set_cons_zero, List.set_cons_succ]
              refine wpAnyH_done (by kernel_rfl) ?_ _
              have HNEW := Lib.hid hown14
              clear hown0 hbl0 hg0 hlt0 hown4 hgr4 hbe4 hb9 hbl9 hg9 hlt9 hown10 hbe10 hown14 hgr14 hbe14
              go_wp2_with fail
              exact ⟨⟨i + 1, k + 1 + q, A14, c14, hlt, by omega, by go_num, rfl, Lib.hid (by
                have h := HNEW.out
                simp only [Nat.zero_add] at h
                have hl14 := sortR_len l (i + 1)
                refine Ls.mono ?_ (S := fun j => wo.heap.size ≤ j) (fun j hj => Nat.le_trans HB.out.size hj)
                rw [HEQ.out]
                exact Ls.of_own h (by
                  have h2 := HO.out.len
                  have h3 := HKM.out
                  simp only [List.nil_append, List.length_append, List.length_take, List.length_drop, List.length_cons, List.length_nil]
                  omega) (fun e he => EC_size (HOKL.out e (by rw [HEQ.out]; exact he)))), Lib.hid (HB.out.trans ((Hid.out hHeld).mono HB.out.size))⟩, by simp [intOf]; omega⟩
            · (refine step_made1 rfl (.tmp 56) rfl HRX.out HOK.out rfl ?_; intro g9 W9 hg9 hlt9 hb9 hbl9)
              refine hK.out _ _ ((Lib.hid ((Hid.out hHeld).trans (hbl9.mono (Hid.out hHeld).size)))) (fun hHeld => ?_)
              clear hK K
              try simp only [Act.put, List.setIfInBounds_toArray, List.set_cons_zero, List.set_cons_succ]
              refine wpAnyH_ready (rs := [4]) (by kernel_rfl) (by simp) ?_
              refine AllReadyH.cons (o := { dst := some 52, op := Op.call { callee := Callee.builtin Builtin.append, args := #[Operand.tmp 48, Operand.tmp 51], argTypes := #[82, 82] }, type := 82, pos := "ref.go:183", after := #[{ on := 0, ground := Ground.data }, { on := 3, ground := Ground.data }], guard := none }) rfl (fun K hK => ?_) AllReadyH.nil
              (refine step_appE rfl (.tmp 48) (.tmp 51) rfl (v := .slice (some ⟨g0, 0, none⟩) 0 0) (l := []) rfl rfl (base := wo.heap.size) (by first | exact hown0 | exact own_below hown0 hbl9 (Nat.le_refl _)) ((HEU.out _ (Hid.out hHeld)).1) (by omega) (Hid.out hHeld).size ?_; intro A4 c4 W4 hown4 hgr4 hbe4)
              refine hK.out _ _ ((Lib.hid ((Hid.out hHeld).trans hbe4))) (fun hHeld => ?_)
              clear hK K
              try simp only [Act.put, List.setIfInBounds_toArray, List.set_cons_zero, List.set_cons_succ]
              refine wpAnyH_ready (rs := [10]) (by kernel_rfl) (by simp) ?_
              refine AllReadyH.cons (o := { dst := some 58, op := Op.call { callee := Callee.builtin Builtin.append, args := #[Operand.tmp 52, Operand.tmp 57], argTypes := #[82, 82] }, type := 82, pos := "ref.go:183", after := #[{ on := 4, ground := Ground.data }, { on := 9, ground := Ground.data }, { on := 4, ground := Ground.chain }], guard := none }) rfl (fun K hK => ?_) AllReadyH.nil
              (refine step_appA (enc := EC) (l := [] ++ (sortR l i).take k) (y := x) (base := wo.heap.size) (k := 0 + k) (g := g9) (t := 182) Try.underlying82 info182 (by rw [Value.cells]; exact EC_size (e := noEnt) noName_len) (by omega) (by omega) rfl (.tmp 52) (.tmp 57) rfl rfl rfl (by first | exact hown4 | exact own_below hown4 hbl9 (Nat.le_refl _)) (by first | exact hb9 | exact hb9.grown hgr4 (by simp [Value.ownBlock]; omega) | exact (hb9.after hbl0).grown hgr4 (by simp [Value.ownBlock]; omega)) (EC_size HOK.out) (EC_one x) (by omega) (Hid.out hHeld).size ?_; intro A10 c10 W10 hown10 hbe10)
              refine hK.out _ _ ((Lib.hid ((Hid.out hHeld).trans hbe10))) (fun hHeld => ?_)
              clear hK K
              try simp only [Act.put, List.setIfInBounds_toArray, List.set_cons_zero, List.set_cons_succ]
              refine wpAnyH_ready (rs := [14]) (by kernel_rfl) (by simp) ?_
              refine AllReadyH.cons (o := { dst := some 62, op := Op.call { callee := Callee.builtin Builtin.append, args := #[Operand.tmp 58, Operand.tmp 61], argTypes := #[82, 82] }, type := 82, pos := "ref.go:183", after := #[{ on := 10, ground := Ground.data }, { on := 13, ground := Ground.data }, { on := 10, ground := Ground.chain }], guard := none }) rfl (fun K hK => ?_) AllReadyH.nil
              (refine step_appE rfl (.tmp 58) (.tmp 61) rfl (l := ([] ++ (sortR l i).take k) ++ [x]) rfl rfl (base := wo.heap.size) hown10 ((HEU.out _ (Hid.out hHeld)).2) (by omega) (Hid.out hHeld).size ?_; intro A14 c14 W14 hown14 hgr14 hbe14)
              refine hK.out _ _ ((Lib.hid ((Hid.out hHeld).trans hbe14))) (fun hHeld => ?_)
              clear hK K
              try simp only [Act.put, List.setIfInBounds_toArray, List.set_cons_zero, List.set_cons_succ]
              refine wpAnyH_take (i := 15) (oi := { dst := some 3, op := Op.assign (Operand.tmp 62), type := 82, pos := "ref.go:183", after := #[{ on := 14, ground := Ground.data }, { on := 14, ground := Ground.chain }, { on := 0, ground := Ground.phase }, { on := 1, ground := Ground.phase }, { on := 2, ground := Ground.phase }, { on := 3, ground := Ground.phase }, { on := 4, ground := Ground.phase }, { on := 5, ground := Ground.phase }, { on := 6, ground := Ground.phase }, { on := 7, ground := Ground.phase }, { on := 8, ground := Ground.phase }, { on := 9, ground := Ground.phase }, { on := 10, ground := Ground.phase }, { on := 11, ground := Ground.phase }, { on := 12, ground := Ground.phase }, { on := 13, ground := Ground.phase }, { on := 14, ground := Ground.phase }], guard := none }) (v := ?vFGHab15) rfl (by kernel_rfl) (by kernel_rfl) (by kernel_rfl) (fun _ _ _ h => h) (Or.inl ⟨by rfl, ?hyFGHab15⟩) hHeld ?restFGHab15
              case hyFGHab15 => (intro w hSw; go_simp; try with_reducible rfl)
              try simp only [Act.put, List.setIfInBounds_toArray, List.set_cons_zero, List.set_cons_succ]
              refine wpAnyH_done (by kernel_rfl) ?_ _
              have HNEW := Lib.hid hown14
              clear hown0 hbl0 hg0 hlt0 hown4 hgr4 hbe4 hb9 hbl9 hg9 hlt9 hown10 hbe10 hown14 hgr14 hbe14
              go_wp2_with fail
              exact ⟨⟨i + 1, k + 1 + q, A14, c14, hlt, by omega, by go_num, rfl, Lib.hid (by
                have h := HNEW.out
                simp only [Nat.zero_add] at h
                have hl14 := sortR_len l (i + 1)
                refine Ls.mono ?_ (S := fun j => wo.heap.size ≤ j) (fun j hj => Nat.le_trans HB.out.size hj)
                rw [HEQ.out]
                exact Ls.of_own h (by
                  have h2 := HO.out.len
                  have h3 := HKM.out
                  simp only [List.nil_append, List.length_append, List.length_take, List.length_drop, List.length_cons, List.length_nil]
                  omega) (fun e he => EC_size (HOKL.out e (by rw [HEQ.out]; exact he)))), Lib.hid (HB.out.trans ((Hid.out hHeld).mono HB.out.size))⟩, by simp [intOf]; omega⟩
          · (refine step_made1 rfl (.tmp 56) rfl HRX.out HOK.out rfl ?_; intro g9 W9 hg9 hlt9 hb9 hbl9)
            refine hK.out _ _ ((Lib.hid ((Hid.out hHeld).trans (hbl9.mono (Hid.out hHeld).size)))) (fun hHeld => ?_)
            clear hK K
            try simp only [Act.put, List.setIfInBounds_toArray, List.set_cons_zero, List.set_cons_succ]
            refine wpAnyH_ready (rs := [0]) (by kernel_rfl) (by simp) ?_
            refine AllReadyH.cons (o := { dst := some 48, op := Op.buildSlice 82 0 #[], type := 82, pos := "ref.go:183", after := #[], guard := none }) rfl (fun K hK => ?_) AllReadyH.nil
            (refine step_made0 rfl rfl (base := wo.heap.size) (Hid.out hHeld).size ?_; intro g0 W0 hg0 hlt0 hown0 hbl0)
            refine hK.out _ _ ((Lib.hid ((Hid.out hHeld).trans (hbl0.mono (Hid.out hHeld).size)))) (fun hHeld => ?_)
            clear hK K
            try simp only [Act.put, List.setIfInBounds_toArray, List.set_cons_zero, List.set_cons_succ]
            refine wpAnyH_ready (rs := [4]) (by kernel_rfl) (by simp) ?_
            refine AllReadyH.cons (o := { dst := some 52, op := Op.call { callee := Callee.builtin Builtin.append, args := #[Operand.tmp 48, Operand.tmp 51], argTypes := #[82, 82] }, type := 82, pos := "ref.go:183", after := #[{ on := 0, ground := Ground.data }, { on := 3, ground := Ground.data }], guard := none }) rfl (fun K hK => ?_) AllReadyH.nil
            (refine step_appE rfl (.tmp 48) (.tmp 51) rfl (v := .slice (some ⟨g0, 0, none⟩) 0 0) (l := []) rfl rfl (base := wo.heap.size) (by first | exact hown0 | exact own_below hown0 hbl9 (Nat.le_refl _)) ((HEU.out _ (Hid.out hHeld)).1) (by omega) (Hid.out hHeld).size ?_; intro A4 c4 W4 hown4 hgr4 hbe4)
            refine hK.out _ _ ((Lib.hid ((Hid.out hHeld).trans hbe4))) (fun hHeld => ?_)
            clear hK K
            try simp only [Act.put, List.setIfInBounds_toArray, List.set_cons_zero, List.set_cons_succ]
            refine wpAnyH_ready (rs := [10]) (by kernel_rfl) (by simp) ?_
            refine AllReadyH.cons (o := { dst := some 58, op := Op.call { callee := Callee.builtin Builtin.append, args := #[Operand.tmp 52, Operand.tmp 57], argTypes := #[82, 82] }, type := 82, pos := "ref.go:183", after := #[{ on := 4, ground := Ground.data }, { on := 9, ground := Ground.data }, { on := 4, ground := Ground.chain }], guard := none }) rfl (fun K hK => ?_) AllReadyH.nil
            (refine step_appA (enc := EC) (l := [] ++ (sortR l i).take k) (y := x) (base := wo.heap.size) (k := 0 + k) (g := g9) (t := 182) Try.underlying82 info182 (by rw [Value.cells]; exact EC_size (e := noEnt) noName_len) (by omega) (by omega) rfl (.tmp 52) (.tmp 57) rfl rfl rfl (by first | exact hown4 | exact own_below hown4 hbl9 (Nat.le_refl _)) (by first | exact hb9 | exact hb9.grown hgr4 (by simp [Value.ownBlock]; omega) | exact (hb9.after hbl0).grown hgr4 (by simp [Value.ownBlock]; omega)) (EC_size HOK.out) (EC_one x) (by omega) (Hid.out hHeld).size ?_; intro A10 c10 W10 hown10 hbe10)
            refine hK.out _ _ ((Lib.hid ((Hid.out hHeld).trans hbe10))) (fun hHeld => ?_)
            clear hK K
            try simp only [Act.put, List.setIfInBounds_toArray, List.set_cons_zero, List.set_cons_succ]
            refine wpAnyH_ready (rs := [14]) (by kernel_rfl) (by simp) ?_
            refine AllReadyH.cons (o := { dst := some 62, op := Op.call { callee := Callee.builtin Builtin.append, args := #[Operand.tmp 58, Operand.tmp 61], argTypes := #[82, 82] }, type := 82, pos := "ref.go:183", after := #[{ on := 10, ground := Ground.data }, { on := 13, ground := Ground.data }, { on := 10, ground := Ground.chain }], guard := none }) rfl (fun K hK => ?_) AllReadyH.nil
            (refine step_appE rfl (.tmp 58) (.tmp 61) rfl (l := ([] ++ (sortR l i).take k) ++ [x]) rfl rfl (base := wo.heap.size) hown10 ((HEU.out _ (Hid.out hHeld)).2) (by omega) (Hid.out hHeld).size ?_; intro A14 c14 W14 hown14 hgr14 hbe14)
            refine hK.out _ _ ((Lib.hid ((Hid.out hHeld).trans hbe14))) (fun hHeld => ?_)
            clear hK K
            try simp only [Act.put, List.setIfInBounds_toArray, List.set_cons_zero, List.set_cons_succ]
            refine wpAnyH_take (i := 15) (oi := { dst := some 3, op := Op.assign (Operand.tmp 62), type := 82, pos := "ref.go:183", after := #[{ on := 14, ground := Ground.data }, { on := 14, ground := Ground.chain }, { on := 0, ground := Ground.phase }, { on := 1, ground := Ground.phase }, { on := 2, ground := Ground.phase }, { on := 3, ground := Ground.phase }, { on := 4, ground := Ground.phase }, { on := 5, ground := Ground.phase }, { on := 6, ground := Ground.phase }, { on := 7, ground := Ground.phase }, { on := 8, ground := Ground.phase }, { on := 9, ground := Ground.phase }, { on := 10, ground := Ground.phase }, { on := 11, ground := Ground.phase }, { on := 12, ground := Ground.phase }, { on := 13, ground := Ground.phase }, { on := 14, ground := Ground.phase }], guard := none }) (v := ?vFGHb15) rfl (by kernel_rfl) (by kernel_rfl) (by kernel_rfl) (fun _ _ _ h => h) (Or.inl ⟨by rfl, ?hyFGHb15⟩) hHeld ?restFGHb15
            case hyFGHb15 => (intro w hSw; go_simp; try with_reducible rfl)
            try simp only [Act.put, List.setIfInBounds_toArray, List.set_cons_zero, List.set_cons_succ]
            refine wpAnyH_done (by kernel_rfl) ?_ _
            have HNEW := Lib.hid hown14
            clear hown0 hbl0 hg0 hlt0 hown4 hgr4 hbe4 hb9 hbl9 hg9 hlt9 hown10 hbe10 hown14 hgr14 hbe14
            go_wp2_with fail
            exact ⟨⟨i + 1, k + 1 + q, A14, c14, hlt, by omega, by go_num, rfl, Lib.hid (by
              have h := HNEW.out
              simp only [Nat.zero_add] at h
              have hl14 := sortR_len l (i + 1)
              refine Ls.mono ?_ (S := fun j => wo.heap.size ≤ j) (fun j hj => Nat.le_trans HB.out.size hj)
              rw [HEQ.out]
              exact Ls.of_own h (by
                have h2 := HO.out.len
                have h3 := HKM.out
                simp only [List.nil_append, List.length_append, List.length_take, List.length_drop, List.length_cons, List.length_nil]
                omega) (fun e he => EC_size (HOKL.out e (by rw [HEQ.out]; exact he)))), Lib.hid (HB.out.trans ((Hid.out hHeld).mono HB.out.size))⟩, by simp [intOf]; omega⟩
    · obtain rfl : i = n := by omega
      go_wp2_with fail
      go_ret
      exact ⟨A3, m, c3, rfl, HO.out, HB.out⟩
end Go.Proofs.Ytaebmhbggbpnoaa
