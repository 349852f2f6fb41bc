/- The walk of asEntry (node). Conditions: each theorem's premises. -/
import Derived.Test.YtaebmhbggbpnoaaGNd11
import Derived.Lib.BufferRead
namespace Go.Proofs.Ytaebmhbggbpnoaa
open Go.RowKit
theorem ec_zero : EC noEnt = #[.string ⟨#[]⟩, .bool false, .int .u8 0, .int .u8 0, .int .u8 0, .int .u8 0, .int .u8 0, .int .u8 0, .int .u8 0, .int .u8 0, .int .u8 0, .int .u8 0, .int .u8 0, .int .u8 0, .int .u8 0, .int .u8 0, .int .u8 0, .int .u8 0, .int .u8 0, .int .u8 0, .int .u8 0, .int .u8 0, .int .u8 0, .int .u8 0, .int .u8 0, .int .u8 0, .int .u8 0, .int .u8 0, .int .u8 0, .int .u8 0, .int .u8 0, .int .u8 0, .int .u8 0, .int .u8 0] := by kernel_rfl
theorem noEnt_ok : noEnt.ok := noName_len
theorem box144 (w : World) : Blk (w.alloc (.cells #[.string ⟨#[]⟩, .bool false, .int .u8 0, .int .u8 0, .int .u8 0, .int .u8 0, .int .u8 0, .int .u8 0, .int .u8 0, .int .u8 0, .int .u8 0, .int .u8 0, .int .u8 0, .int .u8 0, .int .u8 0, .int .u8 0, .int .u8 0, .int .u8 0, .int .u8 0, .int .u8 0, .int .u8 0, .int .u8 0, .int .u8 0, .int .u8 0, .int .u8 0, .int .u8 0, .int .u8 0, .int .u8 0, .int .u8 0, .int .u8 0, .int .u8 0, .int .u8 0, .int .u8 0, .int .u8 0] 144)) w.heap.size 144 (EC noEnt) := by
  rw [ec_zero]
  exact Blk.new w 144 _
theorem results144 {fn : Func} {p q : Tmp} (h : fn.results = #[.cell p 144, .tmp q]) (tmps : Array Value) (w : World) (g t : Nat) (x : EV) (hx : x.ok) (hp : tmps.getD p undef = .pointer (some ⟨g, 0, none⟩)) (hg : Blk w g t (EC x)) : (results fn tmps).run Try.prog w = .ok (.tuple #[.agg (EC x), tmps.getD q undef]) w :=
  results_cell2 h hp ((At.blk hg).load (by rw [EC_size hx]; exact wide144))
theorem set2_ent {w : World} {g t : Nat} {x : EV} (h : Blk w g t (EC x)) (s : ByteArray) (d : Bool) : Blk ((w.setCell ⟨g, 0, none⟩ (.string s)).setCell ⟨g, 1, none⟩ (.bool d)) g t (EC ⟨s, d, x.h⟩) := by
  have := (h.set_ 0 (.string s)).set_ 1 (.bool d)
  simpa [EC] using this
theorem blk_setCells (g t : Nat) : ∀ (vs : List Value) (pre old post : List Value) (w : World), old.length = vs.length → Blk w g t (pre ++ old ++ post).toArray → Blk (w.setCells g pre.length vs) g t (pre ++ vs ++ post).toArray
  | [], pre, old, post, w, hl, h => by
    obtain rfl : old = [] := List.eq_nil_of_length_eq_zero (by simpa using hl)
    exact h
  | v :: vs, pre, old, post, w, hl, h => by
    match old, hl with
    | o :: old, hl =>
      have h1 := h.set_ pre.length v
      have e : ((pre ++ o :: old ++ post).toArray.setIfInBounds pre.length v) = (pre ++ [v] ++ old ++ post).toArray := by
        rw [List.setIfInBounds_toArray]
        congr 1
        rw [List.append_assoc, List.set_append_right _ _ (Nat.le_refl _), Nat.sub_self]
        simp
      rw [e] at h1
      have ih := blk_setCells g t vs (pre ++ [v]) old post _ (by simpa using hl) h1
      simp only [World.setCells]
      have e2 : (pre ++ [v]).length = pre.length + 1 := by simp
      rw [e2] at ih
      simpa using ih
/-- The name within an entry's block is stored. -/
theorem wl_stH {ops : Array Oper} {rest : List Oper} {o : Oper} {a : Act} {Q : Exit → Act → World → Prop} {w : World} (hw : Region.wanted o (yielded ops a.tmps) = true) (x y : Operand) (ho : o.op = .store 107 x y) {g t : Nat} (hx : a.eval x = .pointer (some ⟨g, 2, none⟩)) {nm : List UInt8} (hn : nm.length = 32) (hy : a.eval y = .agg (NC nm)) {e : EV} (he : e.ok) (h : Blk w g t (EC e))
    (hk : ∀ w', Blk w' g t (EC ⟨e.name, e.dir, nm⟩) → (∀ B, B ≤ g → Below B w w') → wpList Try.prog ops Q rest (a.put o.dst undef) w') : wpList Try.prog ops Q (o :: rest) a w := by
  refine BigFrame.wpList_want hw fun _ hK => wp_store_mid 107 x y ho g 2 (NC nm) hx hy (fun j hj => ?_) (by rw [NC_size hn]; exact size107) (NC_one nm) (hK _ _ (hk _ ?_ ?_))
  · rw [NC_size hn] at hj
    refine ⟨?_, h.frozen _⟩
    rw [h.cell, Array.getElem?_eq_getElem (by rw [EC_size he]; omega)]
    rfl
  · have h1 := blk_setCells g t (u8s nm) [.string e.name, .bool e.dir] (u8s e.h) [] w (by rw [u8s_length, u8s_length, hn]; exact he) (by simpa [EC] using h)
    simpa [EC, NC] using h1
  · intro B hB
    have : ∀ (vs : List Value) (o : Nat) (w' : World), Below B w w' → Below B w (w'.setCells g o vs) := by
      intro vs
      induction vs with
      | nil => intro o w' h; exact h
      | cons v vs ih => intro o w' h; exact ih _ _ (h.setCell (p := ⟨g, o, none⟩) hB v)
    exact this _ _ _ (Below.refl _ _)
theorem conv_str {w : World} {S : Nat → Prop} {A : Option Addr} {n c : Nat} {bs : List UInt8} (h : Bs w S A n c bs) : (convert 22 9 (.slice A n c)).run Try.prog w = .ok (.string ⟨bs.toArray⟩) w := by
  cases A with
  | none =>
    obtain ⟨rfl, rfl⟩ := h.nil0
    exact Lib.run_convert_nil_bytes (P := Try.prog) w 22 9 5 c Try.underlying22 Try.underlying5 Try.underlying9
  | some a =>
    have hl := h.len
    subst hl
    refine run_convert_bytes_back (P := Try.prog) w 22 9 5 a c bs Try.underlying22 Try.underlying5 Try.underlying9 (fun j hj => ?_)
    obtain ⟨ad, b, e, hb, hc⟩ := h.at_ hj
    injection e with e
    subst e
    have hb' := hb.out
    rw [List.getElem?_eq_getElem hj] at hb'
    injection hb' with hb'
    rw [hb']
    exact hc
theorem yields_conv {ops : Array Oper} {S : World → Prop} {o : Oper} {a : Act} {x : Operand} {A : Option Addr} {n c : Nat} {s : ByteArray} (ho : o.op = .convert 22 9 x) (hw : Region.wanted o (yielded ops a.tmps) = true) (hx : a.eval x = .slice A n c) (hB : ∀ w', S w' → (convert 22 9 (.slice A n c)).run Try.prog w' = .ok (.string s) w') : YieldsIf Try.prog ops S o (.string s) a :=
  .inl ⟨hw, fun w' hs => by
    unfold execOp
    simp only [ho, hx, Sem.run_bind, Sem.run_pure, Result.andThen_ok, hB w' hs]⟩
/-- What asEntry's answer says of a value. -/
def AsEnt (w : World) (v : TV) (e : Ending) (w' : World) : Prop := ∃ x : EV, e = .returned (.tuple #[.agg (EC x), .bool (asEntT v).isSome]) ∧ x.ok ∧ (∀ y, asEntT v = some y → x = y) ∧ Below w.heap.size w w'
theorem AsEnt.no {w w' : World} {v : TV} {x : EV} (hx : x.ok) (h : asEntT v = none) (hb : Below w.heap.size w w') : AsEnt w v (.returned (.tuple #[.agg (EC x), .bool false])) w' :=
  ⟨x, by rw [h]; rfl, hx, (fun y hy => by rw [h] at hy; cases hy), hb⟩
set_option maxRecDepth 100000 in
set_option maxHeartbeats 4000000 in
theorem nd_asentry (w : World) (S : Nat → Prop) (q : Quad) (v : TV) (h : VR w S q v) : Calls Try.prog 110 #[q.agg] w (AsEnt w v) := by
  obtain ⟨tag, N, b, l, A2, A3, n2, c2, n3, c3, rfl, rfl, hu, -, -, hl⟩ := h.opens
  clear h
  dsimp only [Quad.agg]
  obtain ⟨W, hW⟩ : ∃ W, W = (w.alloc (.cells #[.int .i64 tag, .int .u64 (N : Int), .slice A2 n2 c2, .slice A3 n3 c3] 27)).alloc (.cells #[.string ⟨#[]⟩, .bool false, .int .u8 0, .int .u8 0, .int .u8 0, .int .u8 0, .int .u8 0, .int .u8 0, .int .u8 0, .int .u8 0, .int .u8 0, .int .u8 0, .int .u8 0, .int .u8 0, .int .u8 0, .int .u8 0, .int .u8 0, .int .u8 0, .int .u8 0, .int .u8 0, .int .u8 0, .int .u8 0, .int .u8 0, .int .u8 0, .int .u8 0, .int .u8 0, .int .u8 0, .int .u8 0, .int .u8 0, .int .u8 0, .int .u8 0, .int .u8 0, .int .u8 0, .int .u8 0] 144) := ⟨_, rfl⟩
  have HB : Hid (∀ w', Below W.heap.size W w' → Below w.heap.size w w' ∧ Blk w' w.heap.size 27 #[.int .i64 tag, .int .u64 (N : Int), .slice A2 n2 c2, .slice A3 n3 c3] ∧ Blk w' (w.heap.size + 1) 144 (EC noEnt)) := Lib.hid fun w' h => by
    have h0 : Below w.heap.size w W := by rw [hW]; exact ((Below.refl _ _).alloc (Nat.le_refl _) _).alloc (by simp) _
    exact ⟨h0.trans (h.mono h0.size), Blk.below (by rw [hW]; exact (Blk.new w 27 _).alloc _) h (by rw [hW]; simp; omega), Blk.below (by rw [hW, ← ec_zero]; exact blk_new' (by simp)) h (by rw [hW]; simp)⟩
  have HSZ : Hid (W.heap.size = w.heap.size + 2) := Lib.hid (by rw [hW]; simp)
  have HL := Lib.hid hl.oldS
  have HLN := Lib.hid hl.len
  have HEO := Lib.hid noEnt_ok
  have HES := Lib.hid (EC_size noEnt_ok)
  have HE1 := Lib.hid (EC_one noEnt)
  clear hl
  go_enter Try.func110, Try.ntmps110
  go_wp2_with fail
  rw [← hW]
  clear hW
  obtain ⟨p0, p1, p2, p3, -⟩ := (HB.out W (Below.refl _ _)).2.1.four
  go_wp2_with fail
  refine (nd_parts_n W tag N A2 A3 n2 c2 n3 c3 3).mono ?_
  rintro e w1 ⟨rfl, hb1⟩
  have HB1 := Lib.hid hb1
  obtain ⟨hbw1, hk1, hk2⟩ := HB.out w1 hb1
  have HBW1 := Lib.hid hbw1
  have HK2 := Lib.hid hk2
  have HL1 := Lib.hid (HL.out.under (fun k h => h.2) hbw1)
  have HZ1 : Hid (w.heap.size + 2 ≤ w1.heap.size) := Lib.hid (by have := HSZ.out; have := hb1.size; omega)
  clear hb1 hbw1 hk1 hk2 p0 p1 p2 p3
  obtain ⟨RZ, hRZ⟩ : ∃ R, R = EC noEnt := ⟨_, rfl⟩
  have HRZ := Lib.hid hRZ
  rw [← hRZ] at HES HE1
  have HK2' : Hid (Blk w1 (w.heap.size + 1) 144 RZ) := Lib.hid (by rw [hRZ]; exact HK2.out)
  clear hRZ
  by_cases hp : tag = 3 ∧ n3 = 3
  · obtain ⟨rfl, rfl⟩ := hp
    rw [decide_eq_true ⟨rfl, rfl⟩]
    obtain ⟨ad, x0, qx, tx, ea, ex, hx, hvx, x00, x01, x02, x03, hxS, hxl⟩ := HL1.out.at_ (k := 0) (by omega)
    subst ea
    obtain ⟨ad', x1, qy, ty, ea, ey, hy, hvy, y00, y01, y02, y03, hyS, hyl⟩ := HL1.out.at_ (k := 1) (by omega)
    injection ea with ea
    subst ea
    obtain ⟨ad', x2, qz, tz, ea, ez, hz, hvz, z00, z01, z02, z03, hzS, hzl⟩ := HL1.out.at_ (k := 2) (by omega)
    injection ea with ea
    subst ea
    obtain ⟨tg1, N1, b1, l1, A12, A13, n12, c12, n13, c13, rfl, rfl, -, hb1, hn12, -⟩ := hvx.opens
    obtain ⟨tg2, N2, b2, l2, A22, A23, n22, c22, n23, c23, rfl, rfl, -⟩ := hvy.opens
    obtain ⟨tg3, N3, b3, l3, A32, A33, n32, c32, n33, c33, rfl, rfl, -, hb3, -⟩ := hvz.opens
    have HSX := Lib.hid (sub_of (t := 3) (N := N) (b := b) hx.out)
    have HSY := Lib.hid (sub_of (t := 3) (N := N) (b := b) hy.out)
    have HSZ' := Lib.hid (sub_of (t := 3) (N := N) (b := b) hz.out)
    dsimp only at x00 x01 x02 y00 y01 z00 z01 z02 z03
    have HSH : Hid (entShape (.mk 3 N b l) ↔ tg1 = 2 ∧ tg2 = 1 ∧ N2 ≤ 1) := Lib.hid (by
      unfold entShape
      rw [HSX.out, HSY.out]
      simp only [TV.tag, TV.num, TV.list, HLN.out, true_and])
    have HX1 := Lib.hid hb1
    have HX3 := Lib.hid hb3
    have HZS := Lib.hid hzS
    have HCX : Hid (∀ w', Below (w.heap.size + 1) w1 w' → w'.cell? ⟨x0.block, x0.off + 2, none⟩ = some (.slice A12 n12 c12) ∧ w'.cell? ⟨x1.block, x1.off + 1, none⟩ = some (.int .u64 (N2 : Int)) ∧ (convert 22 9 (.slice A12 n12 c12)).run Try.prog w' = .ok (.string ⟨b1.toArray⟩) w') := Lib.hid fun w' hb => ⟨(hb.cell (by have := hxS.2; simp; omega)).trans x02, (hb.cell (by have := hyS.2; simp; omega)).trans y01, conv_str (hb1.under (fun k hk => by have := hk.2; omega) hb)⟩
    have HCZ : Hid (∀ w', Below (w.heap.size + 1) w1 w' → At w' x2 #[.int .i64 tg3, .int .u64 (N3 : Int), .slice A32 n32 c32, .slice A33 n33 c33]) := Lib.hid fun w' hb => (at_quad z00 z01 z02 z03).after hb (by have := hzS.2; omega)
    have HX3' : Hid (∀ w', Below (w.heap.size + 1) w1 w' → Bs w' (fun k => S k ∧ k < w.heap.size) A32 n32 c32 b3) := Lib.hid fun w' hb => hb3.under (fun k hk => by have := hk.2; omega) hb
    clear hx hy hz hvx hvy hvz x03 hxS hxl hyS hyl hzl y02 y03 hb1 hb3 hzS
    by_cases ht : tg1 = 2 ∧ tg2 = 1 ∧ N2 ≤ 1
    · obtain ⟨rfl, rfl, hN2⟩ := ht
      have d3 : decide ((1 : Int) < (N2 : Int)) = false := by simp; omega
      have HC0 : Hid (w1.cell? ⟨w.heap.size + 1, 0, none⟩ = some (.string ⟨#[]⟩) ∧ w1.cell? ⟨w.heap.size + 1, 1, none⟩ = some (.bool false) ∧ w1.frozen? ⟨w.heap.size + 1, 0, none⟩ = false ∧ w1.frozen? ⟨w.heap.size + 1, 1, none⟩ = false) := Lib.hid ⟨by rw [HK2.out.cell]; exact EC_0 noEnt, by rw [HK2.out.cell]; exact EC_1 noEnt, HK2.out.frozen 0, HK2.out.frozen 1⟩
      rcases (show N2 = 1 ∨ N2 = 0 by omega) with rfl | rfl
      · have HZ0 : Hid (w.heap.size + 1 ≤ w1.heap.size) := Lib.hid (by have := HZ1.out; omega)
        go_wp2_with fail
        refine wp_region_held_drew (S := fun w' => Hid (Below (w.heap.size + 1) w1 w')) (by kernel_rfl) (Lib.hid ((Below.refl _ _).drew)) (fun hHeld => ?_)
        refine wpAnyH_take (i := 0) (oi := { dst := some 34, op := Op.move (Operand.tmp 4), type := 25, pos := "node.go:147", after := #[], guard := none }) (v := ?vA0) rfl (by kernel_rfl) (by kernel_rfl) (by kernel_rfl) (fun _ _ _ h => h) (Or.inl ⟨by rfl, ?hyA0⟩) hHeld ?restA0
        case hyA0 => (intro w hSw; go_simp; try with_reducible rfl)
        try simp only [Act.put, List.setIfInBounds_toArray, List.set_cons_zero, List.set_cons_succ]
        refine wpAnyH_take (i := 1) (oi := { dst := some 35, op := Op.indexAddr 25 (Operand.tmp 34) (Operand.const (Value.int IntKind.i64 0)), type := 0, pos := "node.go:147", after := #[{ on := 0, ground := Ground.data }], guard := none }) (v := ?vA1) rfl (by kernel_rfl) (by kernel_rfl) (by kernel_rfl) (fun _ _ _ h => h) (Or.inl ⟨by rfl, ?hyA1⟩) hHeld ?restA1
        case hyA1 => (intro w hSw; go_simp; try with_reducible rfl)
        try simp only [Act.put, List.setIfInBounds_toArray, List.set_cons_zero, List.set_cons_succ]
        refine wpAnyH_take (i := 2) (oi := { dst := some 36, op := Op.fieldAddr 27 (Operand.tmp 35) 2, type := 0, pos := "node.go:147", after := #[{ on := 1, ground := Ground.data }], guard := none }) (v := ?vA2) rfl (by kernel_rfl) (by kernel_rfl) (by kernel_rfl) (fun _ _ _ h => h) (Or.inl ⟨by rfl, ?hyA2⟩) hHeld ?restA2
        case hyA2 => (intro w hSw; go_simp; try with_reducible rfl)
        try simp only [Act.put, List.setIfInBounds_toArray, List.set_cons_zero, List.set_cons_succ]
        refine wpAnyH_take (i := 3) (oi := { dst := some 37, op := Op.load 22 (Operand.tmp 36), type := 22, pos := "node.go:147", after := #[{ on := 2, ground := Ground.data }], guard := none }) (v := ?vA3) rfl (by kernel_rfl) (by kernel_rfl) (by kernel_rfl) (fun _ _ _ h => h) (Or.inl ⟨by rfl, ?hyA3⟩) hHeld ?restA3
        case hyA3 => (intro w hSw; have hc := (HCX.out _ (Hid.out hSw)).1; go_simp; try with_reducible rfl)
        try simp only [Act.put, List.setIfInBounds_toArray, List.set_cons_zero, List.set_cons_succ]
        refine wpAnyH_take (i := 4) (oi := { dst := some 38, op := Op.convert 22 9 (Operand.tmp 37), type := 9, pos := "node.go:147", after := #[{ on := 3, ground := Ground.data }], guard := none }) (v := _) rfl (by kernel_rfl) (by kernel_rfl) (by kernel_rfl) (fun _ _ _ h => h) (yields_conv rfl (by rfl) rfl (fun w' hs => (HCX.out w' hs).2.2)) hHeld ?_
        try simp only [Act.put, List.setIfInBounds_toArray, List.set_cons_zero, List.set_cons_succ]
        refine wpAnyH_take (i := 5) (oi := { dst := some 39, op := Op.move (Operand.tmp 4), type := 25, pos := "node.go:147", after := #[{ on := 11, ground := Ground.gcOnly Departure.lateStores }], guard := none }) (v := ?vA5) rfl (by kernel_rfl) (by kernel_rfl) (by kernel_rfl) (fun _ _ _ h => h) (Or.inl ⟨by rfl, ?hyA5⟩) hHeld ?restA5
        case hyA5 => (intro w hSw; go_simp; try with_reducible rfl)
        try simp only [Act.put, List.setIfInBounds_toArray, List.set_cons_zero, List.set_cons_succ]
        refine wpAnyH_take (i := 6) (oi := { dst := some 40, op := Op.indexAddr 25 (Operand.tmp 39) (Operand.const (Value.int IntKind.i64 1)), type := 0, pos := "node.go:147", after := #[{ on := 5, ground := Ground.data }, { on := 11, ground := Ground.gcOnly Departure.lateStores }], guard := none }) (v := ?vA6) rfl (by kernel_rfl) (by kernel_rfl) (by kernel_rfl) (fun _ _ _ h => h) (Or.inl ⟨by rfl, ?hyA6⟩) hHeld ?restA6
        case hyA6 => (intro w hSw; go_simp; try with_reducible rfl)
        try simp only [Act.put, List.setIfInBounds_toArray, List.set_cons_zero, List.set_cons_succ]
        refine wpAnyH_take (i := 7) (oi := { dst := some 41, op := Op.fieldAddr 27 (Operand.tmp 40) 1, type := 0, pos := "node.go:147", after := #[{ on := 6, ground := Ground.data }, { on := 11, ground := Ground.gcOnly Departure.lateStores }], guard := none }) (v := ?vA7) rfl (by kernel_rfl) (by kernel_rfl) (by kernel_rfl) (fun _ _ _ h => h) (Or.inl ⟨by rfl, ?hyA7⟩) hHeld ?restA7
        case hyA7 => (intro w hSw; go_simp; try with_reducible rfl)
        try simp only [Act.put, List.setIfInBounds_toArray, List.set_cons_zero, List.set_cons_succ]
        refine wpAnyH_take (i := 8) (oi := { dst := some 42, op := Op.load 24 (Operand.tmp 41), type := 24, pos := "node.go:147", after := #[{ on := 7, ground := Ground.data }, { on := 11, ground := Ground.gcOnly Departure.lateStores }], guard := none }) (v := ?vA8) rfl (by kernel_rfl) (by kernel_rfl) (by kernel_rfl) (fun _ _ _ h => h) (Or.inl ⟨by rfl, ?hyA8⟩) hHeld ?restA8
        case hyA8 => (intro w hSw; have hc := (HCX.out _ (Hid.out hSw)).2.1; go_simp; try with_reducible rfl)
        try simp only [Act.put, List.setIfInBounds_toArray, List.set_cons_zero, List.set_cons_succ]
        refine wpAnyH_take (i := 9) (oi := { dst := some 43, op := Op.binOp BinOp.eql 24 (Operand.tmp 42) (Operand.const (Value.int IntKind.u64 1)) 24, type := 4, pos := "node.go:147", after := #[{ on := 8, ground := Ground.data }, { on := 11, ground := Ground.gcOnly Departure.lateStores }], guard := none }) (v := ?vA9) rfl (by kernel_rfl) (by kernel_rfl) (by kernel_rfl) (fun _ _ _ h => h) (Or.inl ⟨by rfl, ?hyA9⟩) hHeld ?restA9
        case hyA9 => (intro w hSw; go_simp; try with_reducible rfl)
        try simp only [Act.put, List.setIfInBounds_toArray, List.set_cons_zero, List.set_cons_succ]
        refine wpAnyH_take (i := 10) (oi := { dst := some 44, op := Op.fieldAddr 144 (Operand.tmp 2) 0, type := 0, pos := "node.go:147", after := #[{ on := 0, ground := Ground.phase }, { on := 1, ground := Ground.phase }, { on := 2, ground := Ground.phase }, { on := 3, ground := Ground.phase }, { on := 4, ground := Ground.phase }, { on := 5, ground := Ground.textOnly Departure.lateStores }, { on := 6, ground := Ground.textOnly Departure.lateStores }, { on := 7, ground := Ground.textOnly Departure.lateStores }, { on := 8, ground := Ground.textOnly Departure.lateStores }, { on := 9, ground := Ground.textOnly Departure.lateStores }], guard := none }) (v := ?vA10) rfl (by kernel_rfl) (by kernel_rfl) (by kernel_rfl) (fun _ _ _ h => h) (Or.inl ⟨by rfl, ?hyA10⟩) hHeld ?restA10
        case hyA10 => (intro w hSw; go_simp; try with_reducible rfl)
        try simp only [Act.put, List.setIfInBounds_toArray, List.set_cons_zero, List.set_cons_succ]
        refine wpAnyH_ready (rs := [11]) (by kernel_rfl) (by simp) ?_
        refine AllReadyH.cons (o := { dst := none, op := Op.store 9 (Operand.tmp 44) (Operand.tmp 38), type := 0, pos := "node.go:147", after := #[{ on := 10, ground := Ground.data }, { on := 4, ground := Ground.data }, { on := 0, ground := Ground.phase }, { on := 1, ground := Ground.phase }, { on := 2, ground := Ground.phase }, { on := 3, ground := Ground.phase }, { on := 4, ground := Ground.phase }, { on := 5, ground := Ground.textOnly Departure.lateStores }, { on := 6, ground := Ground.textOnly Departure.lateStores }, { on := 7, ground := Ground.textOnly Departure.lateStores }, { on := 8, ground := Ground.textOnly Departure.lateStores }, { on := 9, ground := Ground.textOnly Departure.lateStores }], guard := none }) rfl (fun K hK => ?_) AllReadyH.nil
        (obtain ⟨s0, s1, f0, f1⟩ := HC0.out; go_simp)
        refine hK.out _ _ ((Lib.hid ((Hid.out hHeld).setCell (p := ⟨w.heap.size + 1, 0, none⟩) (Nat.le_refl _) _))) (fun hHeld => ?_)
        clear hK K
        try simp only [Act.put]
        refine wpAnyH_take (i := 12) (oi := { dst := some 45, op := Op.fieldAddr 144 (Operand.tmp 2) 1, type := 0, pos := "node.go:147", after := #[{ on := 0, ground := Ground.phase }, { on := 1, ground := Ground.phase }, { on := 2, ground := Ground.phase }, { on := 3, ground := Ground.phase }, { on := 4, ground := Ground.phase }, { on := 5, ground := Ground.phase }, { on := 6, ground := Ground.phase }, { on := 7, ground := Ground.phase }, { on := 8, ground := Ground.phase }, { on := 9, ground := Ground.phase }, { on := 10, ground := Ground.phase }, { on := 11, ground := Ground.phase }], guard := none }) (v := ?vA12) rfl (by kernel_rfl) (by kernel_rfl) (by kernel_rfl) (fun _ _ _ h => h) (Or.inl ⟨by rfl, ?hyA12⟩) hHeld ?restA12
        case hyA12 => (intro w hSw; go_simp; try with_reducible rfl)
        try simp only [Act.put, List.setIfInBounds_toArray, List.set_cons_zero, List.set_cons_succ]
        refine wpAnyH_ready (rs := [13]) (by kernel_rfl) (by simp) ?_
        refine AllReadyH.cons (o := { dst := none, op := Op.store 4 (Operand.tmp 45) (Operand.tmp 43), type := 0, pos := "node.go:147", after := #[{ on := 12, ground := Ground.data }, { on := 9, ground := Ground.data }, { on := 11, ground := Ground.chain }, { on := 0, ground := Ground.phase }, { on := 1, ground := Ground.phase }, { on := 2, ground := Ground.phase }, { on := 3, ground := Ground.phase }, { on := 4, ground := Ground.phase }, { on := 5, ground := Ground.phase }, { on := 6, ground := Ground.phase }, { on := 7, ground := Ground.phase }, { on := 8, ground := Ground.phase }, { on := 9, ground := Ground.phase }, { on := 10, ground := Ground.phase }, { on := 11, ground := Ground.phase }], guard := none }) rfl (fun K hK => ?_) AllReadyH.nil
        (obtain ⟨s0, s1, f0, f1⟩ := HC0.out; go_simp)
        refine hK.out _ _ ((Lib.hid ((Hid.out hHeld).setCell (p := ⟨w.heap.size + 1, 1, none⟩) (by simp) _))) (fun hHeld => ?_)
        clear hK K
        try simp only [Act.put]
        refine wpAnyH_done (by kernel_rfl) ?_ _
        obtain ⟨W4, hW4⟩ : ∃ W4, W4 = ((w1.setCell ⟨w.heap.size + 1, 0, none⟩ (.string ⟨b1.toArray⟩)).setCell ⟨w.heap.size + 1, 1, none⟩ (.bool true)).drew := ⟨_, rfl⟩
        have HB4 : Hid (Blk W4 (w.heap.size + 1) 144 (EC ⟨⟨b1.toArray⟩, true, noName⟩)) := Lib.hid (by rw [hW4]; exact (set2_ent HK2.out ⟨b1.toArray⟩ true).drew)
        have HBL4 : Hid (Below (w.heap.size + 1) w1 W4) := Lib.hid (by rw [hW4]; exact Hid.out hHeld)
        rw [← hW4]
        clear hW4 hHeld
        have HCZ4 := Lib.hid (HCZ.out W4 HBL4.out)
        have HE : Hid (asEntT (.mk 3 N b l) = (asHash (.mk tg3 N3 b3 l3)).map fun h => ⟨⟨b1.toArray⟩, true, h⟩) := Lib.hid (by
          unfold asEntT
          rw [if_pos (HSH.out.2 ⟨by trivial, by trivial, by omega⟩), HSZ'.out, HSX.out, HSY.out]
          rfl)
        go_wp2_with (refine wl_ldA (cs := #[.int .i64 tg3, .int .u64 (N3 : Int), .slice A32 n32 c32, .slice A33 n33 c33]) rfl 27 (.tmp 48) rfl wide27 rfl HCZ4.out ?_)
        refine (nd_hash W4 _ tg3 N3 A32 A33 n32 c32 n33 c33 b3 (HX3'.out W4 HBL4.out)).mono ?_
        rintro e w5 ⟨rfl, hb5⟩
        have HB5 := Lib.hid (HB4.out.after hb5)
        have HBL5 : Hid (Below (w.heap.size + 1) w1 w5) := Lib.hid (HBL4.out.trans (hb5.mono (Nat.le_trans HZ0.out HBL4.out.size)))
        have HLN3 : Hid (b3.length = n32) := Lib.hid HX3.out.len
        have HHX : Hid ((hashX tg3 n32 b3).length = 32) := Lib.hid (by
          unfold hashX
          split
          · next h => rw [HLN3.out]; exact h.2
          · exact noName_len)
        clear hb5
        obtain ⟨HH, hHH⟩ : ∃ H, H = hashX tg3 n32 b3 := ⟨_, rfl⟩
        obtain ⟨IS, hIS⟩ : ∃ I, I = decide (tg3 = 2 ∧ n32 = 32) := ⟨_, rfl⟩
        rw [← hHH] at HHX
        rw [← hHH, ← hIS]
        have HHH := Lib.hid hHH
        have HIS := Lib.hid hIS
        obtain ⟨RN, hRN⟩ : ∃ R, R = NC HH := ⟨_, rfl⟩
        have HRN := Lib.hid hRN
        obtain ⟨RE, hRE⟩ : ∃ R, R = EC ⟨⟨b1.toArray⟩, true, HH⟩ := ⟨_, rfl⟩
        have HRES : Hid (RE.size = 34) := Lib.hid (by rw [hRE]; exact EC_size HHX.out)
        have HREO : Hid (RE.all (·.oneCell') = true) := Lib.hid (by rw [hRE]; exact EC_one _)
        have HRE := Lib.hid hRE
        clear hHH hIS hRE hRN
        go_wp2_with (first | (refine wl_stH (nm := HH) (e := ⟨⟨b1.toArray⟩, true, noName⟩) rfl (.tmp 53) (.tmp 51) rfl rfl HHX.out (by first | rfl | (simp [Act.eval]; done)) noName_len HB5.out ?_; intro w6 hb6 hf6; go_must ((have HB6 : Hid (Blk w6 (w.heap.size + 1) 144 RE) := Lib.hid (by rw [HRE.out]; exact hb6); have HF6 := Lib.hid (hf6 (w.heap.size + 1) (Nat.le_refl _)); clear hb6 hf6))) | (refine wl_ldA (cs := RE) rfl 144 (.tmp 2) rfl (by rw [HRES.out]; exact wide144) rfl (At.blk HB6.out) ?_) | (refine wl_stA (cs := RE) rfl 144 (.tmp 2) (.tmp 54) rfl (by rw [HRES.out]; exact wide144) rfl (by first | rfl | (simp [Act.eval]; done)) HB6.out rfl HREO.out ?_; intro w7 hb7 hg7 hf7))
        have hb7' : Blk w7 (w.heap.size + 1) 144 (EC ⟨⟨b1.toArray⟩, true, HH⟩) := by rw [← HRE.out]; exact hb7
        refine bodyPost_ret (results144 rfl _ _ _ _ _ (show EV.ok ⟨⟨b1.toArray⟩, true, HH⟩ from HHX.out) rfl hb7') rfl ?_
        refine ⟨⟨⟨b1.toArray⟩, true, HH⟩, ?_, HHX.out, fun y hy => ?_, HBW1.out.trans ((HBL5.out.mono (Nat.le_succ _)).trans ((HF6.out.mono (Nat.le_succ _)).trans (hf7 _ (Nat.le_succ _))))⟩
        · rw [HE.out, Option.isSome_map]
          by_cases hok : tg3 = 2 ∧ n32 = 32
          · rw [asHash_of hok HLN3.out]
            have : IS = true := by rw [HIS.out]; exact decide_eq_true hok
            rw [this]
            rfl
          · rw [asHash_not hok HLN3.out]
            have : IS = false := by rw [HIS.out]; exact decide_eq_false hok
            rw [this]
            rfl
        · rw [HE.out] at hy
          by_cases hok : tg3 = 2 ∧ n32 = 32
          · rw [asHash_of hok HLN3.out] at hy
            simp only [Option.map_some, Option.some.injEq] at hy
            rw [← hy, HHH.out]
            unfold hashX
            rw [if_pos hok]
          · rw [asHash_not hok HLN3.out] at hy
            cases hy
      · have HZ0 : Hid (w.heap.size + 1 ≤ w1.heap.size) := Lib.hid (by have := HZ1.out; omega)
        go_wp2_with fail
        refine wp_region_held_drew (S := fun w' => Hid (Below (w.heap.size + 1) w1 w')) (by kernel_rfl) (Lib.hid ((Below.refl _ _).drew)) (fun hHeld => ?_)
        refine wpAnyH_take (i := 0) (oi := { dst := some 34, op := Op.move (Operand.tmp 4), type := 25, pos := "node.go:147", after := #[], guard := none }) (v := ?vB0) rfl (by kernel_rfl) (by kernel_rfl) (by kernel_rfl) (fun _ _ _ h => h) (Or.inl ⟨by rfl, ?hyB0⟩) hHeld ?restB0
        case hyB0 => (intro w hSw; go_simp; try with_reducible rfl)
        try simp only [Act.put, List.setIfInBounds_toArray, List.set_cons_zero, List.set_cons_succ]
        refine wpAnyH_take (i := 1) (oi := { dst := some 35, op := Op.indexAddr 25 (Operand.tmp 34) (Operand.const (Value.int IntKind.i64 0)), type := 0, pos := "node.go:147", after := #[{ on := 0, ground := Ground.data }], guard := none }) (v := ?vB1) rfl (by kernel_rfl) (by kernel_rfl) (by kernel_rfl) (fun _ _ _ h => h) (Or.inl ⟨by rfl, ?hyB1⟩) hHeld ?restB1
        case hyB1 => (intro w hSw; go_simp; try with_reducible rfl)
        try simp only [Act.put, List.setIfInBounds_toArray, List.set_cons_zero, List.set_cons_succ]
        refine wpAnyH_take (i := 2) (oi := { dst := some 36, op := Op.fieldAddr 27 (Operand.tmp 35) 2, type := 0, pos := "node.go:147", after := #[{ on := 1, ground := Ground.data }], guard := none }) (v := ?vB2) rfl (by kernel_rfl) (by kernel_rfl) (by kernel_rfl) (fun _ _ _ h => h) (Or.inl ⟨by rfl, ?hyB2⟩) hHeld ?restB2
        case hyB2 => (intro w hSw; go_simp; try with_reducible rfl)
        try simp only [Act.put, List.setIfInBounds_toArray, List.set_cons_zero, List.set_cons_succ]
        refine wpAnyH_take (i := 3) (oi := { dst := some 37, op := Op.load 22 (Operand.tmp 36), type := 22, pos := "node.go:147", after := #[{ on := 2, ground := Ground.data }], guard := none }) (v := ?vB3) rfl (by kernel_rfl) (by kernel_rfl) (by kernel_rfl) (fun _ _ _ h => h) (Or.inl ⟨by rfl, ?hyB3⟩) hHeld ?restB3
        case hyB3 => (intro w hSw; have hc := (HCX.out _ (Hid.out hSw)).1; go_simp; try with_reducible rfl)
        try simp only [Act.put, List.setIfInBounds_toArray, List.set_cons_zero, List.set_cons_succ]
        refine wpAnyH_take (i := 4) (oi := { dst := some 38, op := Op.convert 22 9 (Operand.tmp 37), type := 9, pos := "node.go:147", after := #[{ on := 3, ground := Ground.data }], guard := none }) (v := _) rfl (by kernel_rfl) (by kernel_rfl) (by kernel_rfl) (fun _ _ _ h => h) (yields_conv rfl (by rfl) rfl (fun w' hs => (HCX.out w' hs).2.2)) hHeld ?_
        try simp only [Act.put, List.setIfInBounds_toArray, List.set_cons_zero, List.set_cons_succ]
        refine wpAnyH_take (i := 5) (oi := { dst := some 39, op := Op.move (Operand.tmp 4), type := 25, pos := "node.go:147", after := #[{ on := 11, ground := Ground.gcOnly Departure.lateStores }], guard := none }) (v := ?vB5) rfl (by kernel_rfl) (by kernel_rfl) (by kernel_rfl) (fun _ _ _ h => h) (Or.inl ⟨by rfl, ?hyB5⟩) hHeld ?restB5
        case hyB5 => (intro w hSw; go_simp; try with_reducible rfl)
        try simp only [Act.put, List.setIfInBounds_toArray, List.set_cons_zero, List.set_cons_succ]
        refine wpAnyH_take (i := 6) (oi := { dst := some 40, op := Op.indexAddr 25 (Operand.tmp 39) (Operand.const (Value.int IntKind.i64 1)), type := 0, pos := "node.go:147", after := #[{ on := 5, ground := Ground.data }, { on := 11, ground := Ground.gcOnly Departure.lateStores }], guard := none }) (v := ?vB6) rfl (by kernel_rfl) (by kernel_rfl) (by kernel_rfl) (fun _ _ _ h => h) (Or.inl ⟨by rfl, ?hyB6⟩) hHeld ?restB6
        case hyB6 => (intro w hSw; go_simp; try with_reducible rfl)
        try simp only [Act.put, List.setIfInBounds_toArray, List.set_cons_zero, List.set_cons_succ]
        refine wpAnyH_take (i := 7) (oi := { dst := some 41, op := Op.fieldAddr 27 (Operand.tmp 40) 1, type := 0, pos := "node.go:147", after := #[{ on := 6, ground := Ground.data }, { on := 11, ground := Ground.gcOnly Departure.lateStores }], guard := none }) (v := ?vB7) rfl (by kernel_rfl) (by kernel_rfl) (by kernel_rfl) (fun _ _ _ h => h) (Or.inl ⟨by rfl, ?hyB7⟩) hHeld ?restB7
        case hyB7 => (intro w hSw; go_simp; try with_reducible rfl)
        try simp only [Act.put, List.setIfInBounds_toArray, List.set_cons_zero, List.set_cons_succ]
        refine wpAnyH_take (i := 8) (oi := { dst := some 42, op := Op.load 24 (Operand.tmp 41), type := 24, pos := "node.go:147", after := #[{ on := 7, ground := Ground.data }, { on := 11, ground := Ground.gcOnly Departure.lateStores }], guard := none }) (v := ?vB8) rfl (by kernel_rfl) (by kernel_rfl) (by kernel_rfl) (fun _ _ _ h => h) (Or.inl ⟨by rfl, ?hyB8⟩) hHeld ?restB8
        case hyB8 => (intro w hSw; have hc := (HCX.out _ (Hid.out hSw)).2.1; go_simp; try with_reducible rfl)
        try simp only [Act.put, List.setIfInBounds_toArray, List.set_cons_zero, List.set_cons_succ]
        refine wpAnyH_take (i := 9) (oi := { dst := some 43, op := Op.binOp BinOp.eql 24 (Operand.tmp 42) (Operand.const (Value.int IntKind.u64 1)) 24, type := 4, pos := "node.go:147", after := #[{ on := 8, ground := Ground.data }, { on := 11, ground := Ground.gcOnly Departure.lateStores }], guard := none }) (v := ?vB9) rfl (by kernel_rfl) (by kernel_rfl) (by kernel_rfl) (fun _ _ _ h => h) (Or.inl ⟨by rfl, ?hyB9⟩) hHeld ?restB9
        case hyB9 => (intro w hSw; go_simp; try with_reducible rfl)
        try simp only [Act.put, List.setIfInBounds_toArray, List.set_cons_zero, List.set_cons_succ]
        refine wpAnyH_take (i := 10) (oi := { dst := some 44, op := Op.fieldAddr 144 (Operand.tmp 2) 0, type := 0, pos := "node.go:147", after := #[{ on := 0, ground := Ground.phase }, { on := 1, ground := Ground.phase }, { on := 2, ground := Ground.phase }, { on := 3, ground := Ground.phase }, { on := 4, ground := Ground.phase }, { on := 5, ground := Ground.textOnly Departure.lateStores }, { on := 6, ground := Ground.textOnly Departure.lateStores }, { on := 7, ground := Ground.textOnly Departure.lateStores }, { on := 8, ground := Ground.textOnly Departure.lateStores }, { on := 9, ground := Ground.textOnly Departure.lateStores }], guard := none }) (v := ?vB10) rfl (by kernel_rfl) (by kernel_rfl) (by kernel_rfl) (fun _ _ _ h => h) (Or.inl ⟨by rfl, ?hyB10⟩) hHeld ?restB10
        case hyB10 => (intro w hSw; go_simp; try with_reducible rfl)
        try simp only [Act.put, List.setIfInBounds_toArray, List.set_cons_zero, List.set_cons_succ]
        refine wpAnyH_ready (rs := [11]) (by kernel_rfl) (by simp) ?_
        refine AllReadyH.cons (o := { dst := none, op := Op.store 9 (Operand.tmp 44) (Operand.tmp 38), type := 0, pos := "node.go:147", after := #[{ on := 10, ground := Ground.data }, { on := 4, ground := Ground.data }, { on := 0, ground := Ground.phase }, { on := 1, ground := Ground.phase }, { on := 2, ground := Ground.phase }, { on := 3, ground := Ground.phase }, { on := 4, ground := Ground.phase }, { on := 5, ground := Ground.textOnly Departure.lateStores }, { on := 6, ground := Ground.textOnly Departure.lateStores }, { on := 7, ground := Ground.textOnly Departure.lateStores }, { on := 8, ground := Ground.textOnly Departure.lateStores }, { on := 9, ground := Ground.textOnly Departure.lateStores }], guard := none }) rfl (fun K hK => ?_) AllReadyH.nil
        (obtain ⟨s0, s1, f0, f1⟩ := HC0.out; go_simp)
        refine hK.out _ _ ((Lib.hid ((Hid.out hHeld).setCell (p := ⟨w.heap.size + 1, 0, none⟩) (Nat.le_refl _) _))) (fun hHeld => ?_)
        clear hK K
        try simp only [Act.put]
        refine wpAnyH_take (i := 12) (oi := { dst := some 45, op := Op.fieldAddr 144 (Operand.tmp 2) 1, type := 0, pos := "node.go:147", after := #[{ on := 0, ground := Ground.phase }, { on := 1, ground := Ground.phase }, { on := 2, ground := Ground.phase }, { on := 3, ground := Ground.phase }, { on := 4, ground := Ground.phase }, { on := 5, ground := Ground.phase }, { on := 6, ground := Ground.phase }, { on := 7, ground := Ground.phase }, { on := 8, ground := Ground.phase }, { on := 9, ground := Ground.phase }, { on := 10, ground := Ground.phase }, { on := 11, ground := Ground.phase }], guard := none }) (v := ?vB12) rfl (by kernel_rfl) (by kernel_rfl) (by kernel_rfl) (fun _ _ _ h => h) (Or.inl ⟨by rfl, ?hyB12⟩) hHeld ?restB12
        case hyB12 => (intro w hSw; go_simp; try with_reducible rfl)
        try simp only [Act.put, List.setIfInBounds_toArray, List.set_cons_zero, List.set_cons_succ]
        refine wpAnyH_ready (rs := [13]) (by kernel_rfl) (by simp) ?_
        refine AllReadyH.cons (o := { dst := none, op := Op.store 4 (Operand.tmp 45) (Operand.tmp 43), type := 0, pos := "node.go:147", after := #[{ on := 12, ground := Ground.data }, { on := 9, ground := Ground.data }, { on := 11, ground := Ground.chain }, { on := 0, ground := Ground.phase }, { on := 1, ground := Ground.phase }, { on := 2, ground := Ground.phase }, { on := 3, ground := Ground.phase }, { on := 4, ground := Ground.phase }, { on := 5, ground := Ground.phase }, { on := 6, ground := Ground.phase }, { on := 7, ground := Ground.phase }, { on := 8, ground := Ground.phase }, { on := 9, ground := Ground.phase }, { on := 10, ground := Ground.phase }, { on := 11, ground := Ground.phase }], guard := none }) rfl (fun K hK => ?_) AllReadyH.nil
        (obtain ⟨s0, s1, f0, f1⟩ := HC0.out; go_simp)
        refine hK.out _ _ ((Lib.hid ((Hid.out hHeld).setCell (p := ⟨w.heap.size + 1, 1, none⟩) (by simp) _))) (fun hHeld => ?_)
        clear hK K
        try simp only [Act.put]
        refine wpAnyH_done (by kernel_rfl) ?_ _
        obtain ⟨W4, hW4⟩ : ∃ W4, W4 = ((w1.setCell ⟨w.heap.size + 1, 0, none⟩ (.string ⟨b1.toArray⟩)).setCell ⟨w.heap.size + 1, 1, none⟩ (.bool false)).drew := ⟨_, rfl⟩
        have HB4 : Hid (Blk W4 (w.heap.size + 1) 144 (EC ⟨⟨b1.toArray⟩, false, noName⟩)) := Lib.hid (by rw [hW4]; exact (set2_ent HK2.out ⟨b1.toArray⟩ false).drew)
        have HBL4 : Hid (Below (w.heap.size + 1) w1 W4) := Lib.hid (by rw [hW4]; exact Hid.out hHeld)
        rw [← hW4]
        clear hW4 hHeld
        have HCZ4 := Lib.hid (HCZ.out W4 HBL4.out)
        have HE : Hid (asEntT (.mk 3 N b l) = (asHash (.mk tg3 N3 b3 l3)).map fun h => ⟨⟨b1.toArray⟩, false, h⟩) := Lib.hid (by
          unfold asEntT
          rw [if_pos (HSH.out.2 ⟨by trivial, by trivial, by omega⟩), HSZ'.out, HSX.out, HSY.out]
          rfl)
        go_wp2_with (refine wl_ldA (cs := #[.int .i64 tg3, .int .u64 (N3 : Int), .slice A32 n32 c32, .slice A33 n33 c33]) rfl 27 (.tmp 48) rfl wide27 rfl HCZ4.out ?_)
        refine (nd_hash W4 _ tg3 N3 A32 A33 n32 c32 n33 c33 b3 (HX3'.out W4 HBL4.out)).mono ?_
        rintro e w5 ⟨rfl, hb5⟩
        have HB5 := Lib.hid (HB4.out.after hb5)
        have HBL5 : Hid (Below (w.heap.size + 1) w1 w5) := Lib.hid (HBL4.out.trans (hb5.mono (Nat.le_trans HZ0.out HBL4.out.size)))
        have HLN3 : Hid (b3.length = n32) := Lib.hid HX3.out.len
        have HHX : Hid ((hashX tg3 n32 b3).length = 32) := Lib.hid (by
          unfold hashX
          split
          · next h => rw [HLN3.out]; exact h.2
          · exact noName_len)
        clear hb5
        obtain ⟨HH, hHH⟩ : ∃ H, H = hashX tg3 n32 b3 := ⟨_, rfl⟩
        obtain ⟨IS, hIS⟩ : ∃ I, I = decide (tg3 = 2 ∧ n32 = 32) := ⟨_, rfl⟩
        rw [← hHH] at HHX
        rw [← hHH, ← hIS]
        have HHH := Lib.hid hHH
        have HIS := Lib.hid hIS
        obtain ⟨RN, hRN⟩ : ∃ R, R = NC HH := ⟨_, rfl⟩
        have HRN := Lib.hid hRN
        obtain ⟨RE, hRE⟩ : ∃ R, R = EC ⟨⟨b1.toArray⟩, false, HH⟩ := ⟨_, rfl⟩
        have HRES : Hid (RE.size = 34) := Lib.hid (by rw [hRE]; exact EC_size HHX.out)
        have HREO : Hid (RE.all (·.oneCell') = true) := Lib.hid (by rw [hRE]; exact EC_one _)
        have HRE := Lib.hid hRE
        clear hHH hIS hRE hRN
        go_wp2_with (first | (refine wl_stH (nm := HH) (e := ⟨⟨b1.toArray⟩, false, noName⟩) rfl (.tmp 53) (.tmp 51) rfl rfl HHX.out (by first | rfl | (simp [Act.eval]; done)) noName_len HB5.out ?_; intro w6 hb6 hf6; go_must ((have HB6 : Hid (Blk w6 (w.heap.size + 1) 144 RE) := Lib.hid (by rw [HRE.out]; exact hb6); have HF6 := Lib.hid (hf6 (w.heap.size + 1) (Nat.le_refl _)); clear hb6 hf6))) | (refine wl_ldA (cs := RE) rfl 144 (.tmp 2) rfl (by rw [HRES.out]; exact wide144) rfl (At.blk HB6.out) ?_) | (refine wl_stA (cs := RE) rfl 144 (.tmp 2) (.tmp 54) rfl (by rw [HRES.out]; exact wide144) rfl (by first | rfl | (simp [Act.eval]; done)) HB6.out rfl HREO.out ?_; intro w7 hb7 hg7 hf7))
        have hb7' : Blk w7 (w.heap.size + 1) 144 (EC ⟨⟨b1.toArray⟩, false, HH⟩) := by rw [← HRE.out]; exact hb7
        refine bodyPost_ret (results144 rfl _ _ _ _ _ (show EV.ok ⟨⟨b1.toArray⟩, false, HH⟩ from HHX.out) rfl hb7') rfl ?_
        refine ⟨⟨⟨b1.toArray⟩, false, HH⟩, ?_, HHX.out, fun y hy => ?_, HBW1.out.trans ((HBL5.out.mono (Nat.le_succ _)).trans ((HF6.out.mono (Nat.le_succ _)).trans (hf7 _ (Nat.le_succ _))))⟩
        · rw [HE.out, Option.isSome_map]
          by_cases hok : tg3 = 2 ∧ n32 = 32
          · rw [asHash_of hok HLN3.out]
            have : IS = true := by rw [HIS.out]; exact decide_eq_true hok
            rw [this]
            rfl
          · rw [asHash_not hok HLN3.out]
            have : IS = false := by rw [HIS.out]; exact decide_eq_false hok
            rw [this]
            rfl
        · rw [HE.out] at hy
          by_cases hok : tg3 = 2 ∧ n32 = 32
          · rw [asHash_of hok HLN3.out] at hy
            simp only [Option.map_some, Option.some.injEq] at hy
            rw [← hy, HHH.out]
            unfold hashX
            rw [if_pos hok]
          · rw [asHash_not hok HLN3.out] at hy
            cases hy
    · have HNO : Hid (asEntT (.mk 3 N b l) = none) := Lib.hid (if_neg (fun e => ht (HSH.out.1 e)))
      rcases (show tg1 ≠ 2 ∨ (tg1 = 2 ∧ tg2 ≠ 1) ∨ (tg1 = 2 ∧ tg2 = 1 ∧ 1 < N2) by omega) with h1 | ⟨h1, h2⟩ | ⟨h1, h2, h3⟩
      · have d1 : (tg1 != 2) = true := by simpa using h1
        clear ht h1
        go_wp2_with (first | (refine wl_ldA (cs := RZ) rfl 144 (.tmp 2) rfl (by rw [HES.out]; exact wide144) rfl (At.blk HK2'.out) ?_) | (refine wl_stA (cs := RZ) rfl 144 (.tmp 2) (.tmp 33) rfl (by rw [HES.out]; exact wide144) rfl rfl HK2'.out rfl HE1.out ?_; intro w4 hb4 hg4 hf4))
        rw [HRZ.out] at hb4
        refine bodyPost_ret (results144 rfl _ _ _ _ _ HEO.out rfl hb4) rfl ?_
        exact AsEnt.no HEO.out HNO.out (HBW1.out.trans (hf4 _ (Nat.le_succ _)))
      · subst h1
        have d2 : (tg2 != 1) = true := by simpa using h2
        clear ht h2
        go_wp2_with (first | (refine wl_ldA (cs := RZ) rfl 144 (.tmp 2) rfl (by rw [HES.out]; exact wide144) rfl (At.blk HK2'.out) ?_) | (refine wl_stA (cs := RZ) rfl 144 (.tmp 2) (.tmp 33) rfl (by rw [HES.out]; exact wide144) rfl rfl HK2'.out rfl HE1.out ?_; intro w4 hb4 hg4 hf4))
        rw [HRZ.out] at hb4
        refine bodyPost_ret (results144 rfl _ _ _ _ _ HEO.out rfl hb4) rfl ?_
        exact AsEnt.no HEO.out HNO.out (HBW1.out.trans (hf4 _ (Nat.le_succ _)))
      · subst h1
        subst h2
        have d2 : (1 : Int) < (N2 : Int) := by omega
        clear ht h3
        go_wp2_with (first | (refine wl_ldA (cs := RZ) rfl 144 (.tmp 2) rfl (by rw [HES.out]; exact wide144) rfl (At.blk HK2'.out) ?_) | (refine wl_stA (cs := RZ) rfl 144 (.tmp 2) (.tmp 33) rfl (by rw [HES.out]; exact wide144) rfl rfl HK2'.out rfl HE1.out ?_; intro w4 hb4 hg4 hf4))
        rw [HRZ.out] at hb4
        refine bodyPost_ret (results144 rfl _ _ _ _ _ HEO.out rfl hb4) rfl ?_
        exact AsEnt.no HEO.out HNO.out (HBW1.out.trans (hf4 _ (Nat.le_succ _)))
  · rw [decide_eq_false hp]
    have HNO : Hid (asEntT (.mk tag N b l) = none) := Lib.hid (if_neg (fun e => hp ⟨e.1, by have := e.2.1; simp only [TV.list] at this; rw [HLN.out] at this; exact this⟩))
    clear hp
    go_wp2_with (first | (refine wl_ldA (cs := RZ) rfl 144 (.tmp 2) rfl (by rw [HES.out]; exact wide144) rfl (At.blk HK2'.out) ?_) | (refine wl_stA (cs := RZ) rfl 144 (.tmp 2) (.tmp 33) rfl (by rw [HES.out]; exact wide144) rfl rfl HK2'.out rfl HE1.out ?_; intro w4 hb4 hg4 hf4))
    rw [HRZ.out] at hb4
    refine bodyPost_ret (results144 rfl _ _ _ _ _ HEO.out rfl hb4) rfl ?_
    exact AsEnt.no HEO.out HNO.out (HBW1.out.trans (hf4 _ (Nat.le_succ _)))
end Go.Proofs.Ytaebmhbggbpnoaa
