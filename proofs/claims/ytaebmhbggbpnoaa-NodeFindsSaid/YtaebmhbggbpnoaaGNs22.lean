/- The walk of NodeFinds (hayloftlaw14). Conditions: each theorem's premises. -/
import Derived.Test.YtaebmhbggbpnoaaGNs19
import Derived.Test.YtaebmhbggbpnoaaGNs21
import Derived.Test.YtaebmhbggbpnoaaGNs18
import Derived.Test.YtaebmhbggbpnoaaGNd14
import Derived.Test.YtaebmhbggbpnoaaGNd20
namespace Go.Proofs.Ytaebmhbggbpnoaa
open Go.RowKit
set_option maxRecDepth 100000 in
theorem equal_en (w : World) (a b : EV) (ha : a.ok) (hb : b.ok) : (Op.equalIn 10000 144 (.agg (EC a)) (.agg (EC b))).run Try.prog w = .ok (decide (a = b)) w := by
  have hp : Try.prog.stoodInHeld 144 = false := by kernel_rfl
  obtain ⟨fs, f0, f1, f2, hu, hf, n0, n1, n2, t0, t1, t2, o0, o1, o2⟩ : ∃ fs f0 f1 f2, Try.prog.underlying 144 = some (.struct fs) ∧ fs.toList = [f0, f1, f2] ∧ f0.name ≠ "_" ∧ f1.name ≠ "_" ∧ f2.name ≠ "_" ∧ f0.type = 9 ∧ f1.type = 4 ∧ f2.type = 107 ∧ f0.offset = 0 ∧ f1.offset = 1 ∧ f2.offset = 2 := ⟨_, _, _, _, Try.underlying144, rfl, by decide, by decide, by decide, rfl, rfl, rfl, rfl, rfl, rfl⟩
  have hfs : Try.prog.fieldsOf 144 = fs := by unfold Program.fieldsOf; rw [hu]
  have hS : Try.prog.underlying 144 = some (.struct (Try.prog.fieldsOf 144)) := by rw [hfs]; exact hu
  rw [show (10000 : Nat) = 9999 + 1 from rfl, run_equalIn_agg w 9999 144 _ _ hS hp, hfs, hf]
  obtain ⟨i0, hi0, hz0, hz1, hz2⟩ := info_parts Try.info5
  have h3 := run_equalIn_bytes (P := Try.prog) w 9997 107 5 32 Try.underlying107 Try.underlying5 (fun w => by simp [sizeOf, typeInfo, hi0, hz1]) a.h b.h ha hb
  have e1 : (Op.equalIn 9999 9 (.string a.name) (.string b.name)).run Try.prog w = .ok (a.name.toList == b.name.toList) w := run_equalIn_string w 9998 9 a.name b.name Try.underlying9
  have e2 : (Op.equalIn 9999 4 (.bool a.dir) (.bool b.dir)).run Try.prog w = .ok (a.dir == b.dir) w := run_equalIn_bool' w 9998 4 a.dir b.dir Try.underlying4
  have e3 : (Op.equalIn 9999 107 (.agg (NC a.h)) (.agg (NC b.h))).run Try.prog w = .ok (a.h == b.h) w := h3
  have eq : decide (a = b) = ((a.name.toList == b.name.toList) && (a.dir == b.dir) && (a.h == b.h)) := by
    rw [← beq_toListBytes]
    obtain ⟨x, y, z⟩ := a
    obtain ⟨x', y', z'⟩ := b
    have hb : (x == x') = decide (x = x') := by
      have h1 : (x == x') = (x.data == x'.data) := by cases x; cases x'; rfl
      rw [h1, Bool.eq_iff_iff, beq_iff_eq, decide_eq_true_iff]
      exact ⟨fun h => by cases x; cases x'; simp only at h; rw [h], fun h => by rw [h]⟩
    rw [hb, Bool.eq_iff_iff]
    simp [and_assoc]
  rw [eq]
  exact eqFields3 9999 w _ _ f0 f1 f2 n0 n1 n2 _ _ _ _ _ _ _ _ _ (by rw [t0, o0]; exact part_s w a) (by rw [t0, o0]; exact part_s w b) (by rw [t1, o1]; exact part_d w a) (by rw [t1, o1]; exact part_d w b) (by rw [t2, o2]; exact part_h w a ha) (by rw [t2, o2]; exact part_h w b hb) (by rw [t0]; exact e1) (by rw [t1]; exact e2) (by rw [t2]; exact e3)
theorem guard_en (w : World) (op : BinOp) (x y : Operand) (a b : EV) : (eqGuard op 144 x y (.agg (EC a)) (.agg (EC b))).run Try.prog w = .ok () w := run_eqGuard_agg w op 144 x y _ _ (by kernel_rfl)
theorem eql_en (w : World) (a b : EV) (ha : a.ok) (hb : b.ok) : (binOp .eql 144 (.agg (EC a)) (.agg (EC b))).run Try.prog w = .ok (.bool (decide (a = b))) w := by
  rw [run_eql_struct, equal_en w a b ha hb]; rfl
section
variable {ops : Array Oper} {rest : List Oper} {o : Oper} {a : Act} {w : World} {Q : Exit → Act → World → Prop} {S : World → Prop}
theorem wl_eqE {R R' : Array Value} {e : EV} (hR : R = EC e) (hR' : R' = EC e) (he : e.ok) (hw : Region.wanted o (yielded ops a.tmps) = true) (x y : Operand) (t2 : TypeId) (ho : o.op = .binOp .eql 144 x y t2) (hx : a.eval x = .agg R) (hy : a.eval y = .agg R')
    (hk : wpList Try.prog ops Q rest (a.put o.dst (.bool true)) w) : wpList Try.prog ops Q (o :: rest) a w := by
  refine BigFrame.wpList_want hw fun _ hK => ?_
  subst hR
  subst hR'
  have h1 := eql_en w e e he he
  rw [decide_eq_true rfl] at h1
  unfold Oper.wp execOp
  simp only [ho, hx, hy, Sem.run_bind, guard_en, h1, Result.andThen_ok, Sem.run_pure]
  exact hK _ _ hk
theorem yields_eqE {R R' : Array Value} {e : EV} (hR : R = EC e) (hR' : R' = EC e) (he : e.ok) {x y : Operand} {t2 : TypeId} (ho : o.op = .binOp .eql 144 x y t2) (hw : Region.wanted o (yielded ops a.tmps) = true) (hx : a.eval x = .agg R) (hy : a.eval y = .agg R') : YieldsIf Try.prog ops S o (.bool true) a :=
  .inl ⟨hw, fun w' _ => by
    subst hR
    subst hR'
    have h1 := eql_en w' e e he he
    rw [decide_eq_true rfl] at h1
    unfold execOp
    simp only [ho, hx, hy, Sem.run_bind, guard_en, h1, Result.andThen_ok, Sem.run_pure]⟩
end
theorem light_parts {nh nb : Nat} {l : List EV} (h : lightN nh nb l = true) : l.length ≤ 70 ∧ ∀ e ∈ l, e.name.size ≤ 60 := by
  unfold lightN at h
  rw [Bool.and_eq_true, decide_eq_true_iff] at h
  exact ⟨h.1.2.1, fun e he => by simpa using List.all_eq_true.1 h.2 e he⟩
set_option maxRecDepth 100000 in
set_option maxHeartbeats 8000000 in
theorem nd_nodefinds (w : World) (A : Option Addr) (n c : Nat) (l : List EV) (name : ByteArray) (hx : Es w AnyB A n c l) :
    Calls Try.prog 18 #[.slice A n c, .string name] w fun e w' => e = .returned (.bool true) ∧ Below w.heap.size w w' := by
  have HX := Lib.hid hx
  have HL := Lib.hid hx.len
  obtain ⟨D, hD⟩ : ∃ D, lightN 0 0 l = D := ⟨_, rfl⟩
  have HLT : Hid (∀ W, Es W AnyB A n c l → Calls Try.prog 50 #[.agg #[.int .i64 0, .slice none 0 0], .slice A n c, .agg #[.int .i64 0, .slice none 0 0]] W fun r w' => r = .returned (.bool D) ∧ Below W.heap.size W w') := Lib.hid fun W h => by rw [← hD]; exact nd_light W AnyB 0 0 none A none 0 0 n c 0 0 l h
  have HD := Lib.hid hD
  clear hx hD
  cases D with
  | false =>
    go_enter Try.func18, Try.ntmps18
    go_wp2_with (first | (go_at_call 50; refine (HLT.out _ HX.out).mono ?_; rintro e w1 ⟨rfl, hb1⟩; have HB1 := Lib.hid hb1; clear hb1) | (go_at_call 51; refine (nd_alive _).mono ?_; rintro e w2 ⟨rfl, hb2⟩; have HB2 := Lib.hid hb2; clear hb2))
    go_ret
    exact ⟨rfl, HB1.out.trans (HB2.out.mono HB1.out.size)⟩
  | true =>
    by_cases hnm : name.size ≤ 60
    · have hnm' : ¬ (60 : Int) < (name.size : Int) := by omega
      obtain ⟨hl70, hnames⟩ := light_parts HD.out
      have hn70 : n ≤ 70 := by have := HL.out; omega
      have HNM : Hid (∀ e ∈ l, e.name.size ≤ 1000000) := Lib.hid fun e he => by have := hnames e he; omega
      have HNL : Hid (∀ e ∈ sortR l n, e.name.size ≤ 1000000) := Lib.hid fun e he => HNM.out e (sortR_mem HL.out he)
      clear hl70 hnames hnm
      go_enter Try.func18, Try.ntmps18
      go_wp2_with (first | (go_at_call 50; refine (HLT.out _ HX.out).mono ?_; rintro e w1 ⟨rfl, hb1⟩; have HB1 := Lib.hid hb1; clear hb1))
      refine (nd_own w1 AnyB A n c l (HX.out.after (by omega) HB1.out) (by omega)).mono ?_
      rintro e w2 ⟨A2, c2, rfl, ho2, hb2⟩
      have HO2 := Lib.hid ho2
      have HB2 := Lib.hid (HB1.out.trans (hb2.mono HB1.out.size))
      clear ho2 hb2
      go_wp2_with fail
      refine (nd_sort w2 _ A2 n c2 l HO2.out (by omega)).mono ?_
      rintro e w3 ⟨A3, k, c3, rfl, ho3, hk, hb3⟩
      have HO3 := Lib.hid ho3
      have HB3 := Lib.hid (HB2.out.trans (hb3.mono HB2.out.size))
      have HKL : Hid ((sortR l n).length = k) := Lib.hid ho3.len
      obtain ⟨L, hL⟩ : ∃ L, sortR l n = L := ⟨_, rfl⟩
      have HLS := Lib.hid hL
      rw [hL] at HO3 HKL HNL
      have hk70 : k ≤ 70 := by omega
      clear ho3 hb3 hL
      go_wp2_with fail
      refine (nd_eback w3 _ A3 k c3 L HO3.out (by omega)).mono ?_
      rintro e w4 ⟨A4, c4, rfl, ho4, hb4⟩
      have HO4 := Lib.hid ho4
      have HB34 := Lib.hid hb4
      have HB4 := Lib.hid (HB3.out.trans (hb4.mono HB3.out.size))
      clear ho4 hb4
      go_wp2_with fail
      refine (nd_rsort w4 AnyB A n c l (HX.out.after (by omega) HB4.out) (by omega) HNM.out).mono ?_
      rintro e w5 ⟨A5, k5, c5, rfl, ho5, hb5⟩
      rw [HLS.out] at ho5
      have HO5 := Lib.hid ho5
      have HO45 := Lib.hid (HO4.out.after (by omega) hb5)
      have HB35 := Lib.hid (HB34.out.trans (hb5.mono HB34.out.size))
      have HB5 := Lib.hid (HB4.out.trans (hb5.mono HB4.out.size))
      clear ho5 hb5
      go_wp2_with fail
      refine (nd_same w5 _ _ A4 A5 k c4 k5 c5 L L HO45.out HO5.out (by omega)).mono ?_
      rintro e w6 ⟨rfl, hb6⟩
      rw [decide_eq_true (rfl : L = L)]
      have HB36 := Lib.hid (HB35.out.trans (hb6.mono HB35.out.size))
      have HB6 := Lib.hid (HB5.out.trans (hb6.mono HB5.out.size))
      clear hb6
      go_wp2_with fail
      refine (nd_find w6 _ A3 k c3 L name (HO3.out.after (by omega) HB36.out) (by omega)).mono ?_
      rintro e w7 ⟨rfl, hb7⟩
      obtain ⟨F, hF⟩ : ∃ F, findE L name = F := ⟨_, rfl⟩
      have HF := Lib.hid hF
      rw [hF]
      have HOKL : Hid (∀ e ∈ L, e.ok) := Lib.hid fun e he => by have := HO3.out.all e he; simp [EC, u8s] at this; exact this
      have HFO : Hid ((F.getD noEnt).ok) := Lib.hid (by
        cases hF2 : F with
        | none => exact noEnt_ok
        | some y =>
          refine HOKL.out y ?_
          rw [hF2] at hF
          unfold findE at hF
          split at hF
          · exact List.mem_of_find?_eq_some hF
          · cases hF)
      obtain ⟨RF, hRF⟩ : ∃ R, R = EC (F.getD noEnt) := ⟨_, rfl⟩
      have HRF := Lib.hid hRF
      have HRS : Hid (RF.size = 34) := Lib.hid (by rw [hRF]; exact EC_size HFO.out)
      have HR1 : Hid (RF.all (·.oneCell') = true) := Lib.hid (by rw [hRF]; exact EC_one _)
      rw [← hRF]
      have HB37 := Lib.hid (HB36.out.trans (hb7.mono HB36.out.size))
      have HB7 := Lib.hid (HB6.out.trans (hb7.mono HB6.out.size))
      clear hb7 hF hRF
      go_wp2_with (refine wl_stA (cs := RF) rfl 144 (.tmp 6) (.tmp 33) rfl (by rw [HRS.out]; exact wide144) rfl rfl (Blk.new w7 144 _) (by rw [HRS.out]; rfl) HR1.out ?_; intro w8 hb8 hg8 hf8; go_must ((have HBX := Lib.hid hb8; have HF8 := Lib.hid (((Below.refl w7.heap.size w7).alloc (Nat.le_refl _) _).trans (hf8 _ (Nat.le_refl _))); clear hb8 hg8 hf8)))
      obtain ⟨g, hg⟩ : ∃ g, w7.heap.size = g := ⟨_, rfl⟩
      have HB38 := Lib.hid (HB37.out.trans (HF8.out.mono HB37.out.size))
      have HB8 := Lib.hid (HB7.out.trans (HF8.out.mono HB7.out.size))
      rw [hg]
      rw [hg] at HBX
      clear HF8 HB7 hg
      obtain ⟨RZ, hRZ⟩ : ∃ R, R = EC noEnt := ⟨_, rfl⟩
      have HRZ := Lib.hid hRZ
      have HBT : Hid (Try.prog.built 144 [] = some RZ) := Lib.hid (by rw [hRZ]; exact built144z)
      clear hRZ
      go_loopw [8] (fun v8 wr => ∃ i : Nat, i ≤ k ∧ v8 = .int .i64 (i : Int) ∧ Hid (Below w8.heap.size w8 wr) ∧ Hid (∀ (j : Nat) (y : EV), j < i → L[j]? = some y → y.name ≠ name)) (fun v8 _ => k - (intOf v8).toNat)
      case atStart => exact ⟨0, Nat.zero_le _, rfl, Lib.hid (Below.refl _ _), Lib.hid (fun j y h => absurd h (Nat.not_lt_zero _))⟩
      case round =>
        obtain ⟨i, hi, rfl, HB, HN⟩ := hrel
        have HE : Hid (Es wr (fun j => w2.heap.size ≤ j) A3 k c3 L) := Lib.hid (HO3.out.after (by omega) (HB38.out.trans (HB.out.mono HB38.out.size)))
        by_cases hlt : i < k
        · have hlt' : (i : Int) < (k : Int) := by omega
          by_cases hR : rightE L = true
          · have HRE := Lib.hid hR
            obtain ⟨ad, p, y, e, hp, hl, hat, hsz, -⟩ := HE.out.at_ hlt
            subst e
            obtain ⟨RY, hRY⟩ : ∃ R, R = EC y := ⟨_, rfl⟩
            have HRY := Lib.hid hRY
            have HYS : Hid (RY.size = 34) := Lib.hid (by rw [hRY]; exact hsz)
            have HYO : Hid y.ok := Lib.hid (HOKL.out y (List.mem_of_getElem? hl.out))
            have HCY : Hid (∀ w', Below wr.heap.size wr w' → w'.cell? p = some (.string y.name) ∧ At w' p RY) := Lib.hid fun w' hb => by
              have h1 := (hat.out).after hb (hat.out.lt (by rw [hsz]; omega))
              exact ⟨h1.str, by rw [hRY]; exact h1⟩
            clear hat hsz hRY hR
            by_cases hname : y.name = name
            · have dE : (y.name.toList == name.toList) = true := by simp [hname]
              obtain rfl : F = some y := HF.out.symm.trans (findE_some HRE.out hl.out hname)
              have HRFY : Hid (RF = EC y) := Lib.hid HRF.out
              clear hname
              go_wp2_with (first | (go_at_call 61; refine (nd_eback wr _ _ k c3 L HE.out (by omega)).mono ?_; rintro e w9 ⟨A9, c9, rfl, ho9, hb9⟩; have HO9 := Lib.hid ho9; have HB9 := Lib.hid hb9; clear ho9 hb9) | (go_at_call 86; refine (nd_rightdir w9 _ A9 k c9 L HO9.out (by omega) HNL.out).mono ?_; rintro e w10 ⟨rfl, hb10⟩; rw [HRE.out]; have HB10 := Lib.hid (HB9.out.trans (hb10.mono HB9.out.size)); clear hb10; have hcy := (HCY.out _ HB10.out).1))
              clear hcy
              refine wp_region_held_drew (S := fun w' => Hid (Below wr.heap.size wr w')) (by kernel_rfl) (Lib.hid HB10.out.drew) (fun hHeld => ?_)
              refine wpAnyH_take (i := 0) (oi := { dst := some 53, op := Op.move (Operand.tmp 7), type := 4, pos := "law.go:100", after := #[], guard := none }) (v := ?vA0) rfl (by kernel_rfl) (by kernel_rfl) (by kernel_rfl) (fun _ _ _ h => h) (Or.inl ⟨by rfl, ?hyA0⟩) hHeld ?restA0
              case hyA0 => (intro w hSw; go_simp; try with_reducible rfl)
              try simp only [Act.put, List.setIfInBounds_toArray, List.set_cons_zero, List.set_cons_succ]
              refine wpAnyH_take (i := 1) (oi := { dst := some 54, op := Op.move (Operand.tmp 53), type := 4, pos := "law.go:100", after := #[{ on := 0, ground := Ground.data }], guard := none }) (v := ?vA1) rfl (by kernel_rfl) (by kernel_rfl) (by kernel_rfl) (fun _ _ _ h => h) (Or.inl ⟨by rfl, ?hyA1⟩) hHeld ?restA1
              case hyA1 => (intro w hSw; go_simp; try with_reducible rfl)
              try simp only [Act.put, List.setIfInBounds_toArray, List.set_cons_zero, List.set_cons_succ]
              refine wpAnyH_take (i := 2) (oi := { dst := some 55, op := Op.load 144 (Operand.tmp 6), type := 144, pos := "law.go:100", after := #[{ on := 1, ground := Ground.guard }], guard := some (1, true) }) (v := _) rfl (by kernel_rfl) (by kernel_rfl) (by kernel_rfl) (fun _ _ _ h => h) (yields_A rfl (by rfl) rfl (by rw [HRS.out]; exact wide144) (fun w' hs => At.blk (HBX.out.after (HB.out.trans ((Hid.out hs).mono HB.out.size))))) hHeld ?_
              try simp only [Act.put, List.setIfInBounds_toArray, List.set_cons_zero, List.set_cons_succ]
              refine wpAnyH_take (i := 3) (oi := { dst := some 56, op := Op.move (Operand.tmp 5), type := 96, pos := "law.go:100", after := #[{ on := 1, ground := Ground.guard }], guard := some (1, true) }) (v := ?vA3) rfl (by kernel_rfl) (by kernel_rfl) (by kernel_rfl) (fun _ _ _ h => h) (Or.inl ⟨by rfl, ?hyA3⟩) hHeld ?restA3
              case hyA3 => (intro w hSw; go_simp; try with_reducible rfl)
              try simp only [Act.put, List.setIfInBounds_toArray, List.set_cons_zero, List.set_cons_succ]
              refine wpAnyH_take (i := 4) (oi := { dst := some 57, op := Op.move (Operand.tmp 8), type := 3, pos := "law.go:100", after := #[{ on := 1, ground := Ground.guard }], guard := some (1, true) }) (v := ?vA4) rfl (by kernel_rfl) (by kernel_rfl) (by kernel_rfl) (fun _ _ _ h => h) (Or.inl ⟨by rfl, ?hyA4⟩) hHeld ?restA4
              case hyA4 => (intro w hSw; go_simp; try with_reducible rfl)
              try simp only [Act.put, List.setIfInBounds_toArray, List.set_cons_zero, List.set_cons_succ]
              refine wpAnyH_take (i := 5) (oi := { dst := some 58, op := Op.indexAddr 96 (Operand.tmp 56) (Operand.tmp 57), type := 0, pos := "law.go:100", after := #[{ on := 3, ground := Ground.data }, { on := 4, ground := Ground.data }, { on := 1, ground := Ground.guard }], guard := some (1, true) }) (v := ?vA5) rfl (by kernel_rfl) (by kernel_rfl) (by kernel_rfl) (fun _ _ _ h => h) (Or.inl ⟨by rfl, ?hyA5⟩) hHeld ?restA5
              case hyA5 => (intro w hSw; go_simp; try with_reducible rfl)
              try simp only [Act.put, List.setIfInBounds_toArray, List.set_cons_zero, List.set_cons_succ]
              refine wpAnyH_take (i := 6) (oi := { dst := some 59, op := Op.load 144 (Operand.tmp 58), type := 144, pos := "law.go:100", after := #[{ on := 5, ground := Ground.data }, { on := 1, ground := Ground.guard }], guard := some (1, true) }) (v := _) rfl (by kernel_rfl) (by kernel_rfl) (by kernel_rfl) (fun _ _ _ h => h) (yields_A rfl (by rfl) rfl (by rw [HYS.out]; exact wide144) (fun w' hs => (HCY.out w' (Hid.out hs)).2)) hHeld ?_
              try simp only [Act.put, List.setIfInBounds_toArray, List.set_cons_zero, List.set_cons_succ]
              refine wpAnyH_take (i := 7) (oi := { dst := some 60, op := Op.binOp BinOp.eql 144 (Operand.tmp 55) (Operand.tmp 59) 144, type := 4, pos := "law.go:100", after := #[{ on := 2, ground := Ground.data }, { on := 6, ground := Ground.data }, { on := 1, ground := Ground.guard }], guard := some (1, true) }) (v := _) rfl (by kernel_rfl) (by kernel_rfl) (by kernel_rfl) (fun _ _ _ h => h) (yields_eqE HRFY.out HRY.out HYO.out rfl (by rfl) rfl rfl) hHeld ?_
              try simp only [Act.put, List.setIfInBounds_toArray, List.set_cons_zero, List.set_cons_succ]
              refine wpAnyH_take (i := 8) (oi := { dst := some 61, op := Op.pick (Operand.tmp 54) (Operand.tmp 60) (Operand.const (Value.bool false)), type := 4, pos := "law.go:100", after := #[{ on := 1, ground := Ground.data }, { on := 7, ground := Ground.data }], guard := none }) (v := ?vA8) rfl (by kernel_rfl) (by kernel_rfl) (by kernel_rfl) (fun _ _ _ h => h) (Or.inl ⟨by rfl, ?hyA8⟩) hHeld ?restA8
              case hyA8 => (intro w hSw; go_simp; try with_reducible rfl)
              try simp only [Act.put, List.setIfInBounds_toArray, List.set_cons_zero, List.set_cons_succ]
              refine wpAnyH_take (i := 9) (oi := { dst := some 62, op := Op.move (Operand.tmp 61), type := 4, pos := "law.go:100", after := #[{ on := 8, ground := Ground.data }, { on := 1, ground := Ground.chain }], guard := none }) (v := ?vA9) rfl (by kernel_rfl) (by kernel_rfl) (by kernel_rfl) (fun _ _ _ h => h) (Or.inl ⟨by rfl, ?hyA9⟩) hHeld ?restA9
              case hyA9 => (intro w hSw; go_simp; try with_reducible rfl)
              try simp only [Act.put, List.setIfInBounds_toArray, List.set_cons_zero, List.set_cons_succ]
              refine wpAnyH_ready (rs := [10]) (by kernel_rfl) (by simp) ?_
              refine AllReadyH.cons (o := { dst := some 63, op := Op.call { callee := Callee.value (Operand.func 51), args := #[], argTypes := #[] }, type := 4, pos := "law.go:100", after := #[{ on := 9, ground := Ground.chain }, { on := 9, ground := Ground.guard }], guard := some (9, true) }) rfl (fun K hK => ?_) AllReadyH.nil
              go_simp
              refine (nd_alive _).mono ?_; rintro e wq10 ⟨rfl, hq10⟩; have HQ10 := Lib.hid hq10; clear hq10
              refine hK.out _ _ ((Lib.hid ((Hid.out hHeld).trans (HQ10.out.mono (Hid.out hHeld).size)))) (fun hHeld => ?_)
              clear hK K
              try simp only [Act.put, List.setIfInBounds_toArray, List.set_cons_zero, List.set_cons_succ]
              refine wpAnyH_take (i := 11) (oi := { dst := some 64, op := Op.pick (Operand.tmp 62) (Operand.tmp 63) (Operand.const (Value.bool false)), type := 4, pos := "law.go:100", after := #[{ on := 9, ground := Ground.data }, { on := 10, ground := Ground.data }], guard := none }) (v := ?vA11) rfl (by kernel_rfl) (by kernel_rfl) (by kernel_rfl) (fun _ _ _ h => h) (Or.inl ⟨by rfl, ?hyA11⟩) hHeld ?restA11
              case hyA11 => (intro w hSw; go_simp; try with_reducible rfl)
              try simp only [Act.put, List.setIfInBounds_toArray, List.set_cons_zero, List.set_cons_succ]
              refine wpAnyH_take (i := 12) (oi := { dst := some 4, op := Op.assign (Operand.tmp 64), type := 4, pos := "law.go:100", after := #[{ on := 11, ground := Ground.data }, { on := 10, ground := Ground.chain }, { on := 0, ground := Ground.phase }, { on := 1, ground := Ground.phase }, { on := 2, ground := Ground.phase }, { on := 3, ground := Ground.phase }, { on := 4, ground := Ground.phase }, { on := 5, ground := Ground.phase }, { on := 6, ground := Ground.phase }, { on := 7, ground := Ground.phase }, { on := 8, ground := Ground.phase }, { on := 9, ground := Ground.phase }, { on := 10, ground := Ground.phase }, { on := 11, ground := Ground.phase }], guard := none }) (v := ?vA12) rfl (by kernel_rfl) (by kernel_rfl) (by kernel_rfl) (fun _ _ _ h => h) (Or.inl ⟨by rfl, ?hyA12⟩) hHeld ?restA12
              case hyA12 => (intro w hSw; go_simp; try with_reducible rfl)
              try simp only [Act.put, List.setIfInBounds_toArray, List.set_cons_zero, List.set_cons_succ]
              refine wpAnyH_done (by kernel_rfl) ?_ _
              go_wp2_with fail
              go_ret
              exact ⟨rfl, HB8.out.trans ((HB.out.trans ((Hid.out hHeld).mono HB.out.size)).mono HB8.out.size)⟩
            · have dE : (y.name.toList == name.toList) = false := by
                simp only [beq_eq_false_iff_ne, ne_eq]
                exact fun h => hname (name_ext h)
              have HNY := Lib.hid hname
              clear hname
              go_wp2_with (first | (go_at_call 61; refine (nd_eback wr _ _ k c3 L HE.out (by omega)).mono ?_; rintro e w9 ⟨A9, c9, rfl, ho9, hb9⟩; have HO9 := Lib.hid ho9; have HB9 := Lib.hid hb9; clear ho9 hb9) | (go_at_call 86; refine (nd_rightdir w9 _ A9 k c9 L HO9.out (by omega) HNL.out).mono ?_; rintro e w10 ⟨rfl, hb10⟩; rw [HRE.out]; have HB10 := Lib.hid (HB9.out.trans (hb10.mono HB9.out.size)); clear hb10; have hcy := (HCY.out _ HB10.out).1))
              exact ⟨⟨i + 1, hlt, by go_num, Lib.hid (HB.out.trans (HB10.out.mono HB.out.size)), Lib.hid (fun j z hj hz => by
                rcases Nat.lt_or_ge j i with h1 | h1
                · exact HN.out j z h1 hz
                · obtain rfl : j = i := by omega
                  rw [hl.out] at hz
                  injection hz with hz
                  exact hz ▸ HNY.out)⟩, by simp [intOf]; omega⟩
          · have hR' : rightE L = false := by simpa using hR
            have HRE := Lib.hid hR'
            obtain rfl : F = none := HF.out.symm.trans (findE_no hR')
            have HRFZ : Hid (RF = EC noEnt) := Lib.hid HRF.out
            clear hR hR'
            go_wp2_with (first | (go_at_call 61; refine (nd_eback wr _ A3 k c3 L HE.out (by omega)).mono ?_; rintro e w9 ⟨A9, c9, rfl, ho9, hb9⟩; have HO9 := Lib.hid ho9; have HB9 := Lib.hid hb9; clear ho9 hb9) | (go_at_call 86; refine (nd_rightdir w9 _ A9 k c9 L HO9.out (by omega) HNL.out).mono ?_; rintro e w10 ⟨rfl, hb10⟩; rw [HRE.out]; have HB10 := Lib.hid (HB9.out.trans (hb10.mono HB9.out.size)); clear hb10) | (refine wl_ldA (cs := RF) rfl 144 (.tmp 6) rfl (by rw [HRS.out]; exact wide144) rfl (At.blk (HBX.out.after (HB.out.trans (HB10.out.mono HB.out.size)))) ?_) | (refine wl_buildG (cs := RZ) rfl 144 #[] rfl (by simp only [List.map_toArray, List.map_nil]; exact HBT.out) ?_) | (refine wl_eqE HRFZ.out HRZ.out noEnt_ok rfl (.tmp 68) (.tmp 69) 144 rfl rfl rfl ?_) | (go_at_call 51; refine (nd_alive _).mono ?_; rintro e w11 ⟨rfl, hb11⟩; have HB11 := Lib.hid hb11; clear hb11))
            go_ret
            exact ⟨rfl, HB8.out.trans (((HB.out.trans (HB10.out.mono HB.out.size)).trans (HB11.out.mono (HB.out.trans (HB10.out.mono HB.out.size)).size)).mono HB8.out.size)⟩
        · obtain rfl : i = k := by omega
          obtain rfl : F = none := HF.out.symm.trans (findE_none (hasN_no (fun j y hy => HN.out j y (by rw [← HKL.out]; exact (List.getElem?_eq_some_iff.1 hy).1) hy)))
          have HRFZ : Hid (RF = EC noEnt) := Lib.hid HRF.out
          have HRE : Hid True := Lib.hid trivial
          go_wp2_with (first | (go_at_call 61; refine (nd_eback wr _ A3 k c3 L HE.out (by omega)).mono ?_; rintro e w9 ⟨A9, c9, rfl, ho9, hb9⟩; have HO9 := Lib.hid ho9; have HB9 := Lib.hid hb9; clear ho9 hb9) | (go_at_call 86; refine (nd_rightdir w9 _ A9 k c9 L HO9.out (by omega) HNL.out).mono ?_; rintro e w10 ⟨rfl, hb10⟩; rw [HRE.out]; have HB10 := Lib.hid (HB9.out.trans (hb10.mono HB9.out.size)); clear hb10) | (refine wl_ldA (cs := RF) rfl 144 (.tmp 6) rfl (by rw [HRS.out]; exact wide144) rfl (At.blk (HBX.out.after (HB.out))) ?_) | (refine wl_buildG (cs := RZ) rfl 144 #[] rfl (by simp only [List.map_toArray, List.map_nil]; exact HBT.out) ?_) | (refine wl_eqE HRFZ.out HRZ.out noEnt_ok rfl (.tmp 68) (.tmp 69) 144 rfl rfl rfl ?_) | (go_at_call 51; refine (nd_alive _).mono ?_; rintro e w11 ⟨rfl, hb11⟩; have HB11 := Lib.hid hb11; clear hb11))
          go_ret
          exact ⟨rfl, HB8.out.trans (((HB.out).trans (HB11.out.mono (HB.out).size)).mono HB8.out.size)⟩
    · have hnm' : (60 : Int) < (name.size : Int) := by omega
      clear hnm
      go_enter Try.func18, Try.ntmps18
      go_wp2_with (first | (go_at_call 50; refine (HLT.out _ HX.out).mono ?_; rintro e w1 ⟨rfl, hb1⟩; have HB1 := Lib.hid hb1; clear hb1) | (go_at_call 51; refine (nd_alive _).mono ?_; rintro e w2 ⟨rfl, hb2⟩; have HB2 := Lib.hid hb2; clear hb2))
      go_ret
      exact ⟨rfl, HB1.out.trans (HB2.out.mono HB1.out.size)⟩
end Go.Proofs.Ytaebmhbggbpnoaa
