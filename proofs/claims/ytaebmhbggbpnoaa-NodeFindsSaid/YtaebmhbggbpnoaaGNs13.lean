/- The walk of slices.CompactFunc over entries that are the same by their names. Conditions: each theorem's premises. -/
import Derived.Test.YtaebmhbggbpnoaaGNs12
import Derived.Lib.SliceRun
namespace Go.Proofs.Ytaebmhbggbpnoaa
open Go.RowKit
/-- What is left of the first of a list: an element that bears its forerunner's name is left out. -/
def cpt (L : List EV) : Nat → List EV
  | 0 => []
  | i + 1 => match L[i]? with
    | some x => if i = 0 ∨ ¬ ∃ y, L[i - 1]? = some y ∧ x.name = y.name then cpt L i ++ [x] else cpt L i
    | none => cpt L i
theorem cpt_one {L : List EV} {x : EV} (h : L[0]? = some x) : cpt L 1 = [x] := by
  simp [cpt, h]
theorem cpt_same {L : List EV} {i j : Nat} {x y : EV} (hj : j + 1 = i) (hx : L[i]? = some x) (hy : L[j]? = some y) (h : x.name = y.name) : cpt L (i + 1) = cpt L i := by
  subst hj
  rw [cpt, hx]
  simp only
  rw [if_neg]
  intro h1
  rcases h1 with h1 | h1
  · omega
  · exact h1 ⟨y, by simpa using hy, h⟩
theorem cpt_other {L : List EV} {i j : Nat} {x y : EV} (hj : j + 1 = i) (hx : L[i]? = some x) (hy : L[j]? = some y) (h : x.name ≠ y.name) : cpt L (i + 1) = cpt L i ++ [x] := by
  subst hj
  rw [cpt, hx]
  simp only
  rw [if_pos]
  right
  rintro ⟨z, hz, he⟩
  rw [Nat.add_sub_cancel, hy] at hz
  injection hz with hz
  subst hz
  exact h he
theorem take_set {L : List EV} {i : Nat} {x : EV} (hi : i < L.length) : (L.set i x).take (i + 1) = L.take i ++ [x] := by
  rw [take_snoc (b := x) (by rw [List.getElem?_set_self hi]), List.take_set_of_le (Nat.le_refl _)]
theorem ML.twoN {w : World} {g n c : Nat} {ad : Addr} {L : List EV} (h : ML w g (some ad) n c L) {i j : Nat} (hi : i < n) (hj : j < n) :
    ∃ p p2 x y RX RY B, ad.add (i * 34) = p ∧ ad.add (j * 34) = p2 ∧ Hid (p = ⟨g, i * 34, none⟩) ∧ Hid (p2 = ⟨g, j * 34, none⟩) ∧ Hid (L[i]? = some x) ∧ Hid (L[j]? = some y) ∧
      Hid (∀ w', Below w.heap.size w w' → At w' p RX) ∧ Hid (∀ w', Below w.heap.size w w' → At w' p2 RY) ∧ Hid (RX.size = 34) ∧ Hid (RY.size = 34) ∧
      Hid (∀ W, Calls Try.prog 118 #[.agg RX, .agg RY] W fun e w' => e = .returned (.bool B) ∧ Below W.heap.size W w') ∧ Hid (B = true ↔ x.name = y.name) ∧ Hid (RX = EC x ∧ x.ok) ∧ Hid (RY = EC y ∧ y.ok) := by
  obtain ⟨p, p2, x, y, RX, RY, z, hp, hp2, Hp, Hp2, hl, hl2, ha, ha2, hs, hs2, -, -, hx, hy⟩ := h.two hi hj
  refine ⟨p, p2, x, y, RX, RY, decide (x.name = y.name), hp, hp2, Hp, Hp2, hl, hl2, ha, ha2, hs, hs2, Lib.hid fun W => ?_, Lib.hid (by simp), hx, hy⟩
  rw [hx.out.1, hy.out.1]
  exact nd_names W x y
theorem ML.ad {w : World} {g n c : Nat} {A : Option Addr} {L : List EV} (h : ML w g A n c L) (hn : 0 < n) : A = some ⟨g, 0, none⟩ := (h.blk hn).1
theorem zero144 (w : World) : (zeroValue 144).run Try.prog w = .ok (.agg (EC noEnt)) w := by
  obtain ⟨i0, hi0, hz0, hz1, hz2⟩ := info_parts info144
  simp [zeroValue, typeInfo, hi0, hz0, Sem.run_bind, Result.andThen]
theorem zeros_len (z : Array Value) (n : Nat) : (Builtin.zeroCells z n).toList.length = n * z.size := by simp [Builtin.zeroCells]
theorem zeros_one (z : Array Value) (n : Nat) (h : z.all (·.oneCell') = true) : ∀ v ∈ (Builtin.zeroCells z n).toList, v.oneCell' = true := by
  intro v hv
  simp only [Builtin.zeroCells, Array.toList_map, List.mem_map] at hv
  obtain ⟨i, hi, rfl⟩ := hv
  have hi2 : i < n * z.size := by simpa using hi
  have hp : 0 < z.size := by
    rcases Nat.eq_zero_or_pos z.size with h0 | h0
    · rw [h0] at hi2; omega
    · exact h0
  have hm : i % z.size < z.size := Nat.mod_lt _ hp
  rw [getElem!_pos z _ hm]
  exact (Array.all_eq_true_iff_forall_mem.1 h) _ (Array.getElem_mem hm)
/-- The end of a slice is cleared. -/
theorem run_clear_end {w : World} {g n c k : Nat} {L : List EV} {A : Option Addr} (h : ML w g A n c L) (hk : k < n) (ty : TypeId) (c' m : Nat) (hm : k + m = n) :
    ∃ w', (Builtin.clear_ #[96] ty #[.slice (some ⟨g, k * 34, none⟩) m c']).run Try.prog w = .ok (.tuple #[]) w' ∧ ML w' g A k c (L.take k) ∧ w.grownBy w' (some g) := by
  obtain ⟨hA, rest, hb⟩ := h.blk (by omega)
  have hl := h.len
  have hok1 : ∀ e ∈ L.take k, e.ok := fun e he => h.ok e (List.mem_of_mem_take he)
  have hok2 : ∀ e ∈ L.drop k, e.ok := fun e he => h.ok e (List.mem_of_mem_drop he)
  have hl1 : (flatE (L.take k)).length = k * 34 := by rw [flatE_len hok1, List.length_take, Nat.min_eq_left (by omega)]
  have hl2 : (flatE (L.drop k)).length = m * 34 := by rw [flatE_len hok2, List.length_drop]; congr 1; omega
  have e1 : flatE L = flatE (L.take k) ++ flatE (L.drop k) := by
    simp only [flatE]
    rw [← List.flatMap_append, List.take_append_drop]
  rw [e1] at hb
  obtain ⟨Z, hZ⟩ : ∃ Z, EC noEnt = Z := ⟨_, rfl⟩
  have hz := zero144
  have hz34 := EC_size noEnt_ok
  have hz1 := EC_one noEnt
  rw [hZ] at hz hz34 hz1
  obtain ⟨vs, hvs⟩ : ∃ vs, (Builtin.zeroCells Z m).toList = vs := ⟨_, rfl⟩
  have hzl : vs.length = m * 34 := by rw [← hvs, zeros_len, hz34]
  have hbc : ∀ j, j < m * 34 → (w.cell? ⟨g, k * 34 + j, none⟩).isSome = true := fun j hj => by
    rw [hb.cell, Array.getElem?_eq_getElem (by
      rw [List.size_toArray, List.length_append, List.length_append, hl1, hl2]
      omega)]
    rfl
  have hst := run_storeCells_cells (P := Try.prog) g (k * 34) vs 0 w (by rw [hzl]; simpa using hbc) (fun j _ => by simpa using hb.frozen _) (fun v hv => zeros_one _ _ hz1 v (by rw [hvs]; exact hv))
  simp only [Nat.add_zero] at hst
  refine ⟨_, ?_, ?_, gb_setCells g vs (k * 34) w⟩
  · obtain ⟨m', rfl⟩ : ∃ m', m = m' + 1 := ⟨m - 1, by omega⟩
    simp [Builtin.clear_, run_underlying Try.underlying96, hz, Value.cells, hvs, hst]
  · refine ⟨by rw [List.length_take]; omega, by have := h.cap; omega, hok1, fun _ => ⟨hA, vs ++ rest, ?_⟩⟩
    have := blk_setCells g 144 vs (flatE (L.take k)) (flatE (L.drop k)) rest w (by rw [hzl, hl2]) hb
    rw [hl1] at this
    rw [← List.append_assoc]
    exact this
set_option maxRecDepth 100000 in
set_option maxHeartbeats 4000000 in
theorem nd_compact (w : World) (g : Nat) (A : Option Addr) (n c : Nat) (L : List EV) (h : ML w g A n c L) (hn : n ≤ 100000) :
    Calls Try.prog 117 #[.slice A n c, .func (.func 118) #[] #[]] w fun e w' => ∃ k, e = .returned (.slice A k c) ∧ ML w' g A k c (cpt L n) ∧ w.grownBy w' (some g) := by
  by_cases h2 : n < 2
  · have h2' : (n : Int) < 2 := by omega
    have HE : Hid (ML w g A n c (cpt L n)) := Lib.hid (by
      have hl := h.len
      have he : cpt L n = L := by
        match L, hl with
        | [], hl => subst hl; rfl
        | [x], hl => subst hl; exact cpt_one rfl
        | x :: y :: r, hl => simp at hl; omega
      rw [he]
      exact h)
    clear h
    go_enter Try.func117, Try.ntmps117
    go_wp2_with fail
    go_ret
    exact ⟨n, rfl, HE.out, gb_refl _ _⟩
  · have h2' : ¬ (n : Int) < 2 := by omega
    have hA := h.ad (by omega)
    obtain ⟨ad, had⟩ : ∃ ad : Addr, (⟨g, 0, none⟩ : Addr) = ad := ⟨_, rfl⟩
    rw [had] at hA
    subst hA
    have HAD := Lib.hid had.symm
    have HM := Lib.hid h
    have HLN := Lib.hid h.len
    have HCAP := Lib.hid h.cap
    have HX0 : Hid (cpt L 1 = L.take 1) := Lib.hid (by
      have hl := h.len
      match L, hl with
      | [], hl => simp at hl; omega
      | x :: r, hl => rw [cpt_one rfl]; rfl)
    clear h had
    go_enter Try.func117, Try.ntmps117
    go_wp2_with fail
    go_loopw [5] (fun v5 wr => ∃ k : Nat, v5 = .int .i64 (k : Int) ∧ 1 ≤ k ∧ k ≤ n ∧ Hid (Below w.heap.size w wr) ∧ Hid (cpt L k = L.take k)) (fun v5 _ => n - (intOf v5).toNat)
    case atStart => exact ⟨1, by go_num, Nat.le_refl _, by omega, Lib.hid (Below.refl _ _), HX0⟩
    case round =>
      obtain ⟨k, rfl, hk1, hk2, HB, HC⟩ := hrel
      by_cases hlt : k < n
      · have hlt' : (k : Int) < (n : Int) := by omega
        obtain ⟨km, hkm⟩ : ∃ j, k - 1 = j := ⟨_, rfl⟩
        have e1 : (k : Int) - 1 = (km : Int) := by omega
        have w1 : IntKind.i64.wrap (km : Int) = (km : Int) := by unfold IntKind.wrap; simp [IntKind.bits, IntKind.signed]; omega
        have l1 : (km : Int) < (n : Int) := by omega
        have HKM : Hid (km + 1 = k) := Lib.hid (by omega)
        obtain ⟨p, p2, x, y, RX, RY, B, hp, hp2, Hp, Hp2, hl, hl2, HATX, HATY, HSX, HSY, HEQ, HB2, HRX, HRY⟩ := HM.out.twoN (i := k) (j := km) hlt (by omega)
        clear hkm
        go_wp2_with fail
        refine wp_region_held_drew (S := fun w' => Hid (Below w.heap.size w w')) (by kernel_rfl) (Lib.hid HB.out.drew) (fun hHeld => ?_)
        refine wpAnyH_take (i := 0) (oi := { dst := some 18, op := Op.move (Operand.tmp 1), type := 207, pos := "slices.go:401", after := #[], guard := none }) (v := ?vA0) rfl (by kernel_rfl) (by kernel_rfl) (by kernel_rfl) (fun _ _ _ h => h) (Or.inl ⟨by rfl, ?hyA0⟩) hHeld ?restA0
        case hyA0 => (intro w hSw; go_simp; try with_reducible rfl)
        try simp only [Act.put, List.setIfInBounds_toArray, List.set_cons_zero, List.set_cons_succ]
        refine wpAnyH_take (i := 1) (oi := { dst := some 19, op := Op.move (Operand.tmp 0), type := 96, pos := "slices.go:401", after := #[], guard := none }) (v := ?vA1) rfl (by kernel_rfl) (by kernel_rfl) (by kernel_rfl) (fun _ _ _ h => h) (Or.inl ⟨by rfl, ?hyA1⟩) hHeld ?restA1
        case hyA1 => (intro w hSw; go_simp; try with_reducible rfl)
        try simp only [Act.put, List.setIfInBounds_toArray, List.set_cons_zero, List.set_cons_succ]
        refine wpAnyH_take (i := 2) (oi := { dst := some 20, op := Op.move (Operand.tmp 5), type := 3, pos := "slices.go:401", after := #[], guard := none }) (v := ?vA2) rfl (by kernel_rfl) (by kernel_rfl) (by kernel_rfl) (fun _ _ _ h => h) (Or.inl ⟨by rfl, ?hyA2⟩) hHeld ?restA2
        case hyA2 => (intro w hSw; go_simp; try with_reducible rfl)
        try simp only [Act.put, List.setIfInBounds_toArray, List.set_cons_zero, List.set_cons_succ]
        refine wpAnyH_take (i := 3) (oi := { dst := some 21, op := Op.indexAddr 96 (Operand.tmp 19) (Operand.tmp 20), type := 0, pos := "slices.go:401", after := #[{ on := 1, ground := Ground.data }, { on := 2, ground := Ground.data }], guard := none }) (v := ?vA3) rfl (by kernel_rfl) (by kernel_rfl) (by kernel_rfl) (fun _ _ _ h => h) (Or.inl ⟨by rfl, ?hyA3⟩) hHeld ?restA3
        case hyA3 => (intro w hSw; go_simp; try with_reducible rfl)
        try simp only [Act.put, List.setIfInBounds_toArray, List.set_cons_zero, List.set_cons_succ]
        refine wpAnyH_take (i := 4) (oi := { dst := some 22, op := Op.load 144 (Operand.tmp 21), type := 144, pos := "slices.go:401", after := #[{ on := 3, ground := Ground.data }], guard := none }) (v := _) rfl (by kernel_rfl) (by kernel_rfl) (by kernel_rfl) (fun _ _ _ h => h) (yields_A rfl (by rfl) rfl (by rw [HSX.out]; exact wide144) (fun w' hs => HATX.out w' (Hid.out hs))) hHeld ?_
        try simp only [Act.put, List.setIfInBounds_toArray, List.set_cons_zero, List.set_cons_succ]
        refine wpAnyH_take (i := 5) (oi := { dst := some 23, op := Op.move (Operand.tmp 0), type := 96, pos := "slices.go:401", after := #[], guard := none }) (v := ?vA5) rfl (by kernel_rfl) (by kernel_rfl) (by kernel_rfl) (fun _ _ _ h => h) (Or.inl ⟨by rfl, ?hyA5⟩) hHeld ?restA5
        case hyA5 => (intro w hSw; go_simp; try with_reducible rfl)
        try simp only [Act.put, List.setIfInBounds_toArray, List.set_cons_zero, List.set_cons_succ]
        refine wpAnyH_take (i := 6) (oi := { dst := some 24, op := Op.move (Operand.tmp 5), type := 3, pos := "slices.go:401", after := #[], guard := none }) (v := ?vA6) rfl (by kernel_rfl) (by kernel_rfl) (by kernel_rfl) (fun _ _ _ h => h) (Or.inl ⟨by rfl, ?hyA6⟩) hHeld ?restA6
        case hyA6 => (intro w hSw; go_simp; try with_reducible rfl)
        try simp only [Act.put, List.setIfInBounds_toArray, List.set_cons_zero, List.set_cons_succ]
        refine wpAnyH_take (i := 7) (oi := { dst := some 25, op := Op.binOp BinOp.sub 3 (Operand.tmp 24) (Operand.const (Value.int IntKind.i64 1)) 3, type := 3, pos := "slices.go:401", after := #[{ on := 6, ground := Ground.data }], guard := none }) (v := ?vA7) rfl (by kernel_rfl) (by kernel_rfl) (by kernel_rfl) (fun _ _ _ h => h) (Or.inl ⟨by rfl, ?hyA7⟩) hHeld ?restA7
        case hyA7 => (intro w hSw; go_simp; try with_reducible rfl)
        try simp only [Act.put, List.setIfInBounds_toArray, List.set_cons_zero, List.set_cons_succ]
        refine wpAnyH_take (i := 8) (oi := { dst := some 26, op := Op.indexAddr 96 (Operand.tmp 23) (Operand.tmp 25), type := 0, pos := "slices.go:401", after := #[{ on := 5, ground := Ground.data }, { on := 7, ground := Ground.data }], guard := none }) (v := ?vA8) rfl (by kernel_rfl) (by kernel_rfl) (by kernel_rfl) (fun _ _ _ h => h) (Or.inl ⟨by rfl, ?hyA8⟩) hHeld ?restA8
        case hyA8 => (intro w hSw; go_simp; try with_reducible rfl)
        try simp only [Act.put, List.setIfInBounds_toArray, List.set_cons_zero, List.set_cons_succ]
        refine wpAnyH_take (i := 9) (oi := { dst := some 27, op := Op.load 144 (Operand.tmp 26), type := 144, pos := "slices.go:401", after := #[{ on := 8, ground := Ground.data }], guard := none }) (v := _) rfl (by kernel_rfl) (by kernel_rfl) (by kernel_rfl) (fun _ _ _ h => h) (yields_A rfl (by rfl) rfl (by rw [HSY.out]; exact wide144) (fun w' hs => HATY.out w' (Hid.out hs))) hHeld ?_
        try simp only [Act.put, List.setIfInBounds_toArray, List.set_cons_zero, List.set_cons_succ]
        refine wpAnyH_ready (rs := [10]) (by kernel_rfl) (by simp) ?_
        refine AllReadyH.cons (o := { dst := some 28, op := Op.call { callee := Callee.value (Operand.tmp 18), args := #[Operand.tmp 22, Operand.tmp 27], argTypes := #[144, 144] }, type := 4, pos := "slices.go:401", after := #[{ on := 0, ground := Ground.data }, { on := 4, ground := Ground.data }, { on := 9, ground := Ground.data }], guard := none }) rfl (fun K hK => ?_) AllReadyH.nil
        go_simp
        refine (HEQ.out _).mono ?_; rintro e wq10 ⟨rfl, hq10⟩; have HQ10 := Lib.hid hq10; clear hq10
        refine hK.out _ _ ((Lib.hid ((Hid.out hHeld).trans (HQ10.out.mono (Hid.out hHeld).size)))) (fun hHeld => ?_)
        clear hK K
        try simp only [Act.put, List.setIfInBounds_toArray, List.set_cons_zero, List.set_cons_succ]
        refine wpAnyH_done (by kernel_rfl) ?_ _
        cases B
        · have HNE : Hid (x.name ≠ y.name) := Lib.hid (fun h => by have := HB2.out.2 h; cases this)
          go_wp2_with fail
          exact ⟨⟨k + 1, by go_num, by omega, hlt, hHeld, Lib.hid (by rw [cpt_other HKM.out hl.out hl2.out HNE.out, HC.out, take_snoc hl.out])⟩, by simp [intOf]; omega⟩
        · have HEN : Hid (x.name = y.name) := Lib.hid (HB2.out.1 (by first | rfl | trivial))
          obtain ⟨m, hm⟩ : ∃ m, n - k = m := ⟨_, rfl⟩
          have HMM : Hid (k + m = n) := Lib.hid (by omega)
          have hcap := HCAP.out
          obtain ⟨i0, hi0, hz0, hz1, hz2⟩ := info_parts info144
          have hcut := run_cut_from Try.underlying96 hi0 hz1 (some ad) n c (k : Int) k m rfl (by omega)
          rw [if_neg (by omega), Option.map_some, hp] at hcut
          have HI := Lib.hid (And.intro hi0 hz1)
          have hmn : m ≤ n := by omega
          have hl1' : IntKind.i64.wrap (m : Int) = (m : Int) := by unfold IntKind.wrap; simp [IntKind.bits, IntKind.signed]; omega
          clear hm hcap hi0 hz0 hz1 hz2
          go_wp2_with fail
          go_loopw [5, 7] (fun v5 v7 wr => ∃ (kk k2 : Nat) (C : List EV), v5 = .int .i64 (kk : Int) ∧ v7 = .int .i64 (k2 : Int) ∧ k ≤ kk ∧ 1 ≤ k2 ∧ k2 ≤ m ∧ Hid (kk + 1 ≤ k + k2) ∧ Hid (ML wr g (some ad) n c C) ∧ Hid (C.take kk = cpt L (k + k2)) ∧ Hid (∀ j, kk ≤ j → C[j]? = L[j]?) ∧ Hid (w.grownBy wr (some g))) (fun _ v7 _ => m - (intOf v7).toNat)
          case atStart => exact ⟨k, 1, L, by go_num, by go_num, Nat.le_refl _, Nat.le_refl _, by have := HMM.out; omega, Lib.hid (Nat.le_refl _), Lib.hid (HM.out.after (Hid.out hHeld)), Lib.hid (by rw [cpt_same HKM.out hl.out hl2.out HEN.out, HC.out]), Lib.hid (fun _ _ => rfl), Lib.hid (gb_below (Hid.out hHeld))⟩
          case round =>
            obtain ⟨kk, k2, C, rfl, rfl, hkk, hk21, hk22, HKK, HMC, HCC, HCL, HGC⟩ := hrel
            by_cases hlt2 : k2 < m
            · have hlt2' : (k2 : Int) < (m : Int) := by omega
              obtain ⟨kq, hkq⟩ : ∃ j, k2 - 1 = j := ⟨_, rfl⟩
              have e3 : (k2 : Int) - 1 = (kq : Int) := by omega
              have w3 : IntKind.i64.wrap (kq : Int) = (kq : Int) := by unfold IntKind.wrap; simp [IntKind.bits, IntKind.signed]; omega
              have hmm := HMM.out
              have l3 : (kq : Int) < (m : Int) := by omega
              have hko := HKK.out
              have l4 : (kk : Int) < (n : Int) := by omega
              have HQ : Hid (k + kq + 1 = k + k2 ∧ kk < n ∧ kk ≤ k + kq) := Lib.hid (by omega)
              obtain ⟨p3, p4, x2, y2, RX2, RY2, B2, hp3, hp4, Hp3, Hp4, hl3, hl4, HATX2, HATY2, HSX2, HSY2, HEQ2, HBB, HRX2, HRY2⟩ := HMC.out.twoN (i := k + k2) (j := k + kq) (by omega) (by omega)
              have hp5 : p.add (k2 * 34) = p3 := by rw [← hp, add_of_add, ← Nat.add_mul]; exact hp3
              have hp6 : p.add (kq * 34) = p4 := by rw [← hp, add_of_add, ← Nat.add_mul]; exact hp4
              obtain ⟨pk, hpk⟩ : ∃ q, ad.add (kk * 34) = q := ⟨_, rfl⟩
              have HPK : Hid (pk = ⟨g, kk * 34, none⟩) := Lib.hid (by rw [← hpk, HAD.out, add_plain])
              clear hp3 hp4 hkq hmm hko
              go_wp2_with fail
              refine wp_region_held_drew (S := fun w' => Hid (Below wr.heap.size wr w')) (by kernel_rfl) (Lib.hid (Below.refl _ _).drew) (fun hHeld => ?_)
              refine wpAnyH_take (i := 0) (oi := { dst := some 38, op := Op.move (Operand.tmp 1), type := 207, pos := "slices.go:404", after := #[], guard := none }) (v := ?vAB0) rfl (by kernel_rfl) (by kernel_rfl) (by kernel_rfl) (fun _ _ _ h => h) (Or.inl ⟨by rfl, ?hyAB0⟩) hHeld ?restAB0
              case hyAB0 => (intro w hSw; go_simp; try with_reducible rfl)
              try simp only [Act.put, List.setIfInBounds_toArray, List.set_cons_zero, List.set_cons_succ]
              refine wpAnyH_take (i := 1) (oi := { dst := some 39, op := Op.move (Operand.tmp 6), type := 96, pos := "slices.go:404", after := #[], guard := none }) (v := ?vAB1) rfl (by kernel_rfl) (by kernel_rfl) (by kernel_rfl) (fun _ _ _ h => h) (Or.inl ⟨by rfl, ?hyAB1⟩) hHeld ?restAB1
              case hyAB1 => (intro w hSw; go_simp; try with_reducible rfl)
              try simp only [Act.put, List.setIfInBounds_toArray, List.set_cons_zero, List.set_cons_succ]
              refine wpAnyH_take (i := 2) (oi := { dst := some 40, op := Op.move (Operand.tmp 7), type := 3, pos := "slices.go:404", after := #[], guard := none }) (v := ?vAB2) rfl (by kernel_rfl) (by kernel_rfl) (by kernel_rfl) (fun _ _ _ h => h) (Or.inl ⟨by rfl, ?hyAB2⟩) hHeld ?restAB2
              case hyAB2 => (intro w hSw; go_simp; try with_reducible rfl)
              try simp only [Act.put, List.setIfInBounds_toArray, List.set_cons_zero, List.set_cons_succ]
              refine wpAnyH_take (i := 3) (oi := { dst := some 41, op := Op.indexAddr 96 (Operand.tmp 39) (Operand.tmp 40), type := 0, pos := "slices.go:404", after := #[{ on := 1, ground := Ground.data }, { on := 2, ground := Ground.data }], guard := none }) (v := ?vAB3) rfl (by kernel_rfl) (by kernel_rfl) (by kernel_rfl) (fun _ _ _ h => h) (Or.inl ⟨by rfl, ?hyAB3⟩) hHeld ?restAB3
              case hyAB3 => (intro w hSw; go_simp; try with_reducible rfl)
              try simp only [Act.put, List.setIfInBounds_toArray, List.set_cons_zero, List.set_cons_succ]
              refine wpAnyH_take (i := 4) (oi := { dst := some 42, op := Op.load 144 (Operand.tmp 41), type := 144, pos := "slices.go:404", after := #[{ on := 3, ground := Ground.data }], guard := none }) (v := _) rfl (by kernel_rfl) (by kernel_rfl) (by kernel_rfl) (fun _ _ _ h => h) (yields_A rfl (by rfl) rfl (by rw [HSX2.out]; exact wide144) (fun w' hs => HATX2.out w' (Hid.out hs))) hHeld ?_
              try simp only [Act.put, List.setIfInBounds_toArray, List.set_cons_zero, List.set_cons_succ]
              refine wpAnyH_take (i := 5) (oi := { dst := some 43, op := Op.move (Operand.tmp 6), type := 96, pos := "slices.go:404", after := #[], guard := none }) (v := ?vAB5) rfl (by kernel_rfl) (by kernel_rfl) (by kernel_rfl) (fun _ _ _ h => h) (Or.inl ⟨by rfl, ?hyAB5⟩) hHeld ?restAB5
              case hyAB5 => (intro w hSw; go_simp; try with_reducible rfl)
              try simp only [Act.put, List.setIfInBounds_toArray, List.set_cons_zero, List.set_cons_succ]
              refine wpAnyH_take (i := 6) (oi := { dst := some 44, op := Op.move (Operand.tmp 7), type := 3, pos := "slices.go:404", after := #[], guard := none }) (v := ?vAB6) rfl (by kernel_rfl) (by kernel_rfl) (by kernel_rfl) (fun _ _ _ h => h) (Or.inl ⟨by rfl, ?hyAB6⟩) hHeld ?restAB6
              case hyAB6 => (intro w hSw; go_simp; try with_reducible rfl)
              try simp only [Act.put, List.setIfInBounds_toArray, List.set_cons_zero, List.set_cons_succ]
              refine wpAnyH_take (i := 7) (oi := { dst := some 45, op := Op.binOp BinOp.sub 3 (Operand.tmp 44) (Operand.const (Value.int IntKind.i64 1)) 3, type := 3, pos := "slices.go:404", after := #[{ on := 6, ground := Ground.data }], guard := none }) (v := ?vAB7) rfl (by kernel_rfl) (by kernel_rfl) (by kernel_rfl) (fun _ _ _ h => h) (Or.inl ⟨by rfl, ?hyAB7⟩) hHeld ?restAB7
              case hyAB7 => (intro w hSw; go_simp; try with_reducible rfl)
              try simp only [Act.put, List.setIfInBounds_toArray, List.set_cons_zero, List.set_cons_succ]
              refine wpAnyH_take (i := 8) (oi := { dst := some 46, op := Op.indexAddr 96 (Operand.tmp 43) (Operand.tmp 45), type := 0, pos := "slices.go:404", after := #[{ on := 5, ground := Ground.data }, { on := 7, ground := Ground.data }], guard := none }) (v := ?vAB8) rfl (by kernel_rfl) (by kernel_rfl) (by kernel_rfl) (fun _ _ _ h => h) (Or.inl ⟨by rfl, ?hyAB8⟩) hHeld ?restAB8
              case hyAB8 => (intro w hSw; go_simp; try with_reducible rfl)
              try simp only [Act.put, List.setIfInBounds_toArray, List.set_cons_zero, List.set_cons_succ]
              refine wpAnyH_take (i := 9) (oi := { dst := some 47, op := Op.load 144 (Operand.tmp 46), type := 144, pos := "slices.go:404", after := #[{ on := 8, ground := Ground.data }], guard := none }) (v := _) rfl (by kernel_rfl) (by kernel_rfl) (by kernel_rfl) (fun _ _ _ h => h) (yields_A rfl (by rfl) rfl (by rw [HSY2.out]; exact wide144) (fun w' hs => HATY2.out w' (Hid.out hs))) hHeld ?_
              try simp only [Act.put, List.setIfInBounds_toArray, List.set_cons_zero, List.set_cons_succ]
              refine wpAnyH_ready (rs := [10]) (by kernel_rfl) (by simp) ?_
              refine AllReadyH.cons (o := { dst := some 48, op := Op.call { callee := Callee.value (Operand.tmp 38), args := #[Operand.tmp 42, Operand.tmp 47], argTypes := #[144, 144] }, type := 4, pos := "slices.go:404", after := #[{ on := 0, ground := Ground.data }, { on := 4, ground := Ground.data }, { on := 9, ground := Ground.data }], guard := none }) rfl (fun K hK => ?_) AllReadyH.nil
              go_simp
              refine (HEQ2.out _).mono ?_; rintro e wq10 ⟨rfl, hq10⟩; have HQ10 := Lib.hid hq10; clear hq10
              refine hK.out _ _ ((Lib.hid ((Hid.out hHeld).trans (HQ10.out.mono (Hid.out hHeld).size)))) (fun hHeld => ?_)
              clear hK K
              try simp only [Act.put, List.setIfInBounds_toArray, List.set_cons_zero, List.set_cons_succ]
              refine wpAnyH_take (i := 11) (oi := { dst := some 49, op := Op.unOp UnOp.not 4 (Operand.tmp 48), type := 4, pos := "slices.go:404", after := #[{ on := 10, ground := Ground.data }], guard := none }) (v := ?vAB11) rfl (by kernel_rfl) (by kernel_rfl) (by kernel_rfl) (fun _ _ _ h => h) (Or.inl ⟨by rfl, ?hyAB11⟩) hHeld ?restAB11
              case hyAB11 => (intro w hSw; go_simp; try with_reducible rfl)
              try simp only [Act.put, List.setIfInBounds_toArray, List.set_cons_zero, List.set_cons_succ]
              refine wpAnyH_done (by kernel_rfl) ?_ _
              cases B2
              · have HNE : Hid (x2.name ≠ y2.name) := Lib.hid (fun h => by have := HBB.out.2 h; cases this)
                have HM6 := Lib.hid (HMC.out.after (Hid.out hHeld))
                have HG6 := Lib.hid (gb_trans HGC.out (gb_below (Hid.out hHeld)))
                go_wp2_with (first | (refine wl_ldA (cs := RX2) rfl 144 (.tmp 54) rfl (by rw [HSX2.out]; exact wide144) rfl (HATX2.out _ (Hid.out hHeld)) ?_) | (refine wl_stM (i := kk) rfl (.tmp 56) (.tmp 55) rfl rfl HPK.out rfl HRX2.out.1 HRX2.out.2 HM6.out HQ.out.2.1 ?_; intro w7 hm7 hg7; go_must ((have HM7 := Lib.hid hm7; have HG7 := Lib.hid (gb_trans HG6.out hg7); clear hm7 hg7))))
                exact ⟨⟨kk + 1, k2 + 1, _, by go_num, by go_num, by omega, by omega, hlt2, Lib.hid (by have := HKK.out; omega), HM7, Lib.hid (by
                  rw [take_set (by rw [HMC.out.len]; exact HQ.out.2.1), HCC.out]
                  exact (cpt_other HQ.out.1 ((HCL.out _ (by have := HQ.out; omega)).symm.trans hl3.out) ((HCL.out _ (by have := HQ.out; omega)).symm.trans hl4.out) HNE.out).symm), Lib.hid (fun j hj => by rw [List.getElem?_set_ne (by omega)]; exact HCL.out j (by omega)), HG7⟩, by simp [intOf]; omega⟩
              · have HEN2 : Hid (x2.name = y2.name) := Lib.hid (HBB.out.1 (by first | rfl | trivial))
                have HM6 := Lib.hid (HMC.out.after (Hid.out hHeld))
                have HG6 := Lib.hid (gb_trans HGC.out (gb_below (Hid.out hHeld)))
                go_wp2_with fail
                exact ⟨⟨kk, k2 + 1, C, rfl, by go_num, hkk, by omega, hlt2, Lib.hid (by have := HKK.out; omega), HM6, Lib.hid (by
                  rw [HCC.out]
                  exact (cpt_same HQ.out.1 ((HCL.out _ (by have := HQ.out; omega)).symm.trans hl3.out) ((HCL.out _ (by have := HQ.out; omega)).symm.trans hl4.out) HEN2.out).symm), HCL, HG6⟩, by simp [intOf]; omega⟩
            · obtain rfl : k2 = m := by omega
              obtain ⟨r, hr⟩ : ∃ r, n - kk = r := ⟨_, rfl⟩
              have hmm := HMM.out
              have hko := HKK.out
              have hcap := HCAP.out
              have hrr : kk + r = n := by omega
              have hcut2 := run_cut_from Try.underlying96 HI.out.1 HI.out.2 (some ad) n c (kk : Int) kk r rfl hrr
              have hcut3 := run_cut_upto Try.underlying96 HI.out.1 HI.out.2 (some ad) n c (kk : Int) kk rfl (by omega)
              rw [if_neg (by omega), Option.map_some, HAD.out, add_plain] at hcut2 hcut3
              rw [Nat.zero_mul, ← HAD.out] at hcut3
              rw [← HAD.out] at hcut2
              obtain ⟨w9, hcl, hm9, hg9⟩ := run_clear_end HMC.out (k := kk) (by omega) 0 (c - kk) r hrr
              have H9 := Lib.hid (And.intro hm9 (gb_trans HGC.out hg9))
              have HCN : Hid (C.take kk = cpt L n) := Lib.hid (by rw [HCC.out, hmm])
              clear hm9 hg9 hmm hko hcap hr hrr
              go_wp2_with fail
              go_ret
              exact ⟨kk, rfl, by rw [← HCN.out]; exact H9.out.1, H9.out.2⟩
      · obtain rfl : k = n := by omega
        go_wp2_with fail
        go_ret
        exact ⟨k, rfl, by rw [HC.out, ← HLN.out, List.take_length]; rw [HLN.out]; exact HM.out.after HB.out, gb_below HB.out⟩
end Go.Proofs.Ytaebmhbggbpnoaa
