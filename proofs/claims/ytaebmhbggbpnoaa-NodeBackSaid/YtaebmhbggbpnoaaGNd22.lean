/- The walk of NodeBack (hayloftlaw14). Conditions: each theorem's premises. -/
import Derived.Test.YtaebmhbggbpnoaaGNd20
import Derived.Deep.DeepCutAuto
namespace Go.Proofs.Ytaebmhbggbpnoaa
open Go.RowKit
/-- What lies in the law's own boxes, and what came in. -/
structure NB (w : World) (sx sy k : Int) (AX AY AL AM AB : Option Addr) (nx cx ny cy nl cl nm cm nb cb : Nat) (xs ys : List (List UInt8)) (l m : List EV) (b : List UInt8) (w' : World) : Prop where
  bel : Below w.heap.size w w'
  x : Blk w' w.heap.size 81 #[.int .i64 sx, .slice AX nx cx]
  y : Blk w' (w.heap.size + 1) 81 #[.int .i64 sy, .slice AY ny cy]
  o : Blk w' (w.heap.size + 2) 84 #[.int .i64 k, .slice AB nb cb]
  hx : Hs w' (Lo w.heap.size) AX nx cx xs
  hy : Hs w' (Lo w.heap.size) AY ny cy ys
  hl : Es w' (Lo w.heap.size) AL nl cl l
  hm : Es w' (Lo w.heap.size) AM nm cm m
  hb : Bs w' (Lo w.heap.size) AB nb cb b
theorem NB.after {w w1 w2 : World} {sx sy k : Int} {AX AY AL AM AB : Option Addr} {nx cx ny cy nl cl nm cm nb cb : Nat} {xs ys : List (List UInt8)} {l m : List EV} {b : List UInt8} (h : NB w sx sy k AX AY AL AM AB nx cx ny cy nl cl nm cm nb cb xs ys l m b w1) (hb : Below w1.heap.size w1 w2) : NB w sx sy k AX AY AL AM AB nx cx ny cy nl cl nm cm nb cb xs ys l m b w2 :=
  ⟨h.bel.trans (hb.mono h.bel.size), h.x.after hb, h.y.after hb, h.o.after hb, h.hx.after (by omega) hb, h.hy.after (by omega) hb, h.hl.after (by omega) hb, h.hm.after (by omega) hb, h.hb.after hb⟩
theorem drewN_below {w w' : World} {j : Nat} (h : w' = w.drewN j) : Below w.heap.size w w' := by
  subst h
  exact below_drewN (Below.refl _ _) j
set_option maxRecDepth 100000 in
set_option maxHeartbeats 4000000 in
theorem nd_nodeback (w : World) (sx sy k : Int) (AX AY AL AM AB : Option Addr) (nx cx ny cy nl cl nm cm nb cb : Nat) (xs ys : List (List UInt8)) (l m : List EV) (b : List UInt8)
    (hx : Hs w AnyB AX nx cx xs) (hy : Hs w AnyB AY ny cy ys) (hl : Es w AnyB AL nl cl l) (hm : Es w AnyB AM nm cm m) (hb : Bs w AnyB AB nb cb b) :
    Calls Try.prog 13 #[.agg #[.int .i64 sx, .slice AX nx cx], .agg #[.int .i64 sy, .slice AY ny cy], .slice AL nl cl, .slice AM nm cm, .agg #[.int .i64 k, .slice AB nb cb]] w fun e w' => e = .returned (.bool true) ∧ Below w.heap.size w w' := by
  obtain ⟨W, hW⟩ : ∃ W, W = ((w.alloc (.cells #[.int .i64 sx, .slice AX nx cx] 81)).alloc (.cells #[.int .i64 sy, .slice AY ny cy] 81)).alloc (.cells #[.int .i64 k, .slice AB nb cb] 84) := ⟨_, rfl⟩
  have HNB : Hid (NB w sx sy k AX AY AL AM AB nx cx ny cy nl cl nm cm nb cb xs ys l m b W) := Lib.hid (by
    have h0 : Below w.heap.size w W := by rw [hW]; exact (((Below.refl _ _).alloc (Nat.le_refl _) _).alloc (by simp) _).alloc (by simp; omega) _
    refine ⟨h0, ?_, ?_, ?_, (hx.old (by omega)).below (by omega) h0, (hy.old (by omega)).below (by omega) h0, (hl.old (by omega)).below (by omega) h0, (hm.old (by omega)).below (by omega) h0, hb.old.below h0⟩
    · rw [hW]; exact ((Blk.new w 81 _).alloc _).alloc _
    · rw [hW]; exact (blk_new' (by simp)).alloc _
    · rw [hW]; exact blk_new' (by simp))
  have HLX := Lib.hid hx.len
  have HLY := Lib.hid hy.len
  have HLL := Lib.hid hl.len
  have HLM := Lib.hid hm.len
  have HLB := Lib.hid hb.len
  have HOX : Hid (FV.ok ⟨sx, xs⟩) := Lib.hid (fun h hh => by have := hx.all h hh; simp [NC, u8s] at this; exact this)
  have HOY : Hid (FV.ok ⟨sy, ys⟩) := Lib.hid (fun h hh => by have := hy.all h hh; simp [NC, u8s] at this; exact this)
  have HOL : Hid (∀ e ∈ l, e.ok) := Lib.hid (fun e hh => by have := hl.all e hh; simp [EC, u8s] at this; exact this)
  have HOM : Hid (∀ e ∈ m, e.ok) := Lib.hid (fun e hh => by have := hm.all e hh; simp [EC, u8s] at this; exact this)
  clear hx hy hl hm hb
  go_enter Try.func13, Try.ntmps13
  go_wp2_with fail
  rw [← hW]
  clear hW
  obtain ⟨p0, p1, -⟩ := HNB.out.x.two
  obtain ⟨q0, q1, -⟩ := HNB.out.o.two
  go_wp2_with fail
  refine (nd_light W _ sx k AX AL AB nx cx nl cl nb cb l HNB.out.hl).mono ?_
  rintro e w1 ⟨rfl, hb1⟩
  have HN1 := Lib.hid (HNB.out.after hb1)
  obtain ⟨D1, hD1⟩ : ∃ D, D = lightN nx nb l := ⟨_, rfl⟩
  rw [← hD1]
  have HD1 := Lib.hid hD1
  clear hb1 hD1 p0 p1 q0 q1
  cases D1 with
  | true =>
    obtain ⟨p0, p1, -⟩ := HN1.out.y.two
    obtain ⟨q0, q1, -⟩ := HN1.out.o.two
    go_wp2_with fail
    refine (nd_light w1 _ sy k AY AM AB ny cy nm cm nb cb m HN1.out.hm).mono ?_
    rintro e w2 ⟨rfl, hb2⟩
    have HN2 := Lib.hid (HN1.out.after hb2)
    obtain ⟨D2, hD2⟩ : ∃ D, D = lightN ny nb m := ⟨_, rfl⟩
    rw [← hD2]
    have HD2 := Lib.hid hD2
    clear hb2 hD2 p0 p1 q0 q1
    cases D2 with
    | true =>
      have hlim : nx ≤ 200 ∧ nl ≤ 70 ∧ nb ≤ 5100 ∧ ny ≤ 200 ∧ nm ≤ 70 := by
        have h1 := HD1.out.symm
        have h2 := HD2.out.symm
        unfold lightN at h1 h2
        simp only [Bool.and_eq_true, decide_eq_true_eq] at h1 h2
        have h3 := HLL.out
        have h4 := HLM.out
        omega
      obtain ⟨p0, p1, -⟩ := HN2.out.x.two
      go_wp2_with fail
      refine (nd_file w2 sx AX nx cx).mono ?_
      rintro e w3 ⟨rfl, hb3⟩
      have HN3 := Lib.hid (HN2.out.after hb3)
      clear hb3
      go_wp2_with fail
      refine (nd_putfile w3 _ sx AX nx cx xs HN3.out.hx (by omega)).mono ?_
      rintro e w4 ⟨A1, n1, c1, rfl, hbs1, hn1, hb4⟩
      obtain ⟨FX, hFX⟩ : ∃ F, F = pfF ⟨sx, xs⟩ := ⟨_, rfl⟩
      obtain ⟨KX, hKX⟩ : ∃ F, F = pfK ⟨sx, xs⟩ := ⟨_, rfl⟩
      obtain ⟨BX, hBX⟩ : ∃ F, F = pfB ⟨sx, xs⟩ := ⟨_, rfl⟩
      rw [← hFX, ← hKX]
      rw [← hBX] at hbs1
      have HFX := Lib.hid (And.intro hFX (And.intro hKX hBX))
      have H5 : Hid (∀ w', Below (w4.heap.size + 1) (w4.alloc (.cells #[.int .i64 KX, .slice A1 n1 c1] 86)) w' → NB w sx sy k AX AY AL AM AB nx cx ny cy nl cl nm cm nb cb xs ys l m b w' ∧ Blk w' w4.heap.size 86 #[.int .i64 KX, .slice A1 n1 c1] ∧ Bs w' AnyB A1 n1 c1 BX) := Lib.hid fun w' hb => by
        have h0 : Below w4.heap.size w4 w' := ((Below.refl _ _).alloc (Nat.le_refl _) _).trans (hb.mono (Nat.le_succ _))
        exact ⟨(HN3.out.after hb4).after h0, (Blk.new w4 86 _).below hb (Nat.lt_succ_self _), (hbs1.any).after h0⟩
      have HN1' := Lib.hid hn1
      clear hb4 hbs1 hFX hKX hBX hn1
      obtain ⟨p0, p1, -⟩ := (H5.out _ (Below.refl _ _)).1.y.two
      go_wp2_with fail
      refine (nd_file (w4.alloc (.cells #[.int .i64 KX, .slice A1 n1 c1] 86)) sy AY ny cy).mono ?_
      rintro e w6 ⟨rfl, hb6⟩
      have H6 : Hid (∀ w', Below w6.heap.size w6 w' → NB w sx sy k AX AY AL AM AB nx cx ny cy nl cl nm cm nb cb xs ys l m b w' ∧ Blk w' w4.heap.size 86 #[.int .i64 KX, .slice A1 n1 c1] ∧ Bs w' AnyB A1 n1 c1 BX) := Lib.hid fun w' hb => H5.out w' ((hb6.mono (by simp)).trans (hb.mono (by have := hb6.size; simpa using this)))
      clear hb6 p0 p1
      go_wp2_with fail
      refine (nd_putfile w6 _ sy AY ny cy ys (H6.out _ (Below.refl _ _)).1.hy (by omega)).mono ?_
      rintro e w7 ⟨A2, n2, c2, rfl, hbs2, hn2, hb7⟩
      obtain ⟨FY, hFY⟩ : ∃ F, F = pfF ⟨sy, ys⟩ := ⟨_, rfl⟩
      obtain ⟨KY, hKY⟩ : ∃ F, F = pfK ⟨sy, ys⟩ := ⟨_, rfl⟩
      obtain ⟨BY, hBY⟩ : ∃ F, F = pfB ⟨sy, ys⟩ := ⟨_, rfl⟩
      rw [← hFY, ← hKY]
      rw [← hBY] at hbs2
      have HFY := Lib.hid (And.intro hFY hBY)
      obtain ⟨W8, hW8⟩ : ∃ W8, W8 = w7.alloc (.cells #[.int .i64 KY, .slice A2 n2 c2] 86) := ⟨_, rfl⟩
      have H8 : Hid (∀ w', Below W8.heap.size W8 w' → (NB w sx sy k AX AY AL AM AB nx cx ny cy nl cl nm cm nb cb xs ys l m b w' ∧ Blk w' w4.heap.size 86 #[.int .i64 KX, .slice A1 n1 c1] ∧ Bs w' AnyB A1 n1 c1 BX) ∧ Blk w' w7.heap.size 86 #[.int .i64 KY, .slice A2 n2 c2] ∧ Bs w' AnyB A2 n2 c2 BY) := Lib.hid fun w' hb => by
        have hs8 : W8.heap.size = w7.heap.size + 1 := by rw [hW8]; simp
        have h0 : Below w7.heap.size w7 W8 := by rw [hW8]; exact (Below.refl _ _).alloc (Nat.le_refl _) _
        have h1 := h0.trans (hb.mono h0.size)
        exact ⟨H6.out w' (hb7.trans (h1.mono hb7.size)), Blk.below (by rw [hW8]; exact Blk.new w7 86 _) hb (by omega), (hbs2.any).after h1⟩
      have HN2' := Lib.hid hn2
      clear hb7 hbs2 hFY hKY hBY hn2
      go_upto_if 55 with fail
      rw [← hW8]
      clear hW8
      go_cut [] (fun wx => Hid (NB w sx sy k AX AY AL AM AB nx cx ny cy nl cl nm cm nb cb xs ys l m b wx))
      case first =>
        by_cases hfx : FX = 0
        · subst hfx
          have hfx := HFX.out.1.symm
          obtain ⟨hg1, hg2⟩ := gfF_some (file_got HOX.out hfx)
          rw [← HFX.out.2.1, ← HFX.out.2.2] at hg1 hg2
          have HG := Lib.hid (And.intro hg1 hg2)
          have HFX0 := Lib.hid hfx
          clear hfx hg1 hg2
          obtain ⟨p0, p1, -⟩ := (H8.out _ (Below.refl _ _)).1.2.1.two
          go_wp2_with fail
          refine (nd_getfile W8 AnyB KX A1 n1 c1 BX (H8.out _ (Below.refl _ _)).1.2.2 (by have := HN1'.out; omega)).mono ?_
          rintro e w9 ⟨A3, n3, c3, rfl, hz, hb9⟩
          rw [HG.out.1, HG.out.2]
          rw [HG.out.2] at hz
          clear p0 p1
          obtain ⟨W10, hW10⟩ : ∃ W10, W10 = w9.alloc (.cells #[.int .i64 sx, .slice A3 n3 c3] 89) := ⟨_, rfl⟩
          have H10 : Hid (∀ w', Below W10.heap.size W10 w' → ((NB w sx sy k AX AY AL AM AB nx cx ny cy nl cl nm cm nb cb xs ys l m b w' ∧ Blk w' w4.heap.size 86 #[.int .i64 KX, .slice A1 n1 c1] ∧ Bs w' AnyB A1 n1 c1 BX) ∧ Blk w' w7.heap.size 86 #[.int .i64 KY, .slice A2 n2 c2] ∧ Bs w' AnyB A2 n2 c2 BY) ∧ Blk w' w9.heap.size 89 #[.int .i64 sx, .slice A3 n3 c3] ∧ Hs w' AnyB A3 n3 c3 xs) := Lib.hid fun w' hb => by
            have hs10 : W10.heap.size = w9.heap.size + 1 := by rw [hW10]; simp
            have h0 : Below w9.heap.size w9 W10 := by rw [hW10]; exact (Below.refl _ _).alloc (Nat.le_refl _) _
            have h1 := h0.trans (hb.mono h0.size)
            exact ⟨H8.out w' (hb9.trans (h1.mono hb9.size)), Blk.below (by rw [hW10]; exact Blk.new w9 89 _) hb (by omega), (hz.any).after (by omega) h1⟩
          clear hz hb9
          go_wp2_with fail
          rw [← hW10]
          clear hW10
          have HN3L : Hid (n3 ≤ 1000000000) := Lib.hid (by
            have h := (H10.out _ (Below.refl _ _)).2.2.len
            have h2 := HLX.out
            omega)
          by_cases hfy : FY = 0
          · subst hfy
            have hfy := HFY.out.1.symm
            obtain ⟨D, hD⟩ : ∃ D, D = decide (BX = BY) := ⟨_, rfl⟩
            have HDB : Hid (decide (BX = BY) = D) := Lib.hid hD.symm
            have HDF : Hid (decide ((⟨sx, xs⟩ : FV) = ⟨sy, ys⟩) = D) := Lib.hid (by
              rw [hD, HFX.out.2.2, HFY.out.2]
              exact decide_eq_decide.2 (file_apart HOX.out HOY.out HFX0.out hfy).symm)
            clear hD hfy
            refine wp_region_held_drew (S := fun w' => Hid (Below W10.heap.size W10 w')) (by kernel_rfl) (Lib.hid (Below.refl _ _).drew) (fun hHeld => ?_)
            refine wpAnyH_take (i := 0) (oi := { dst := some 61, op := Op.move (Operand.tmp 16), type := 28, pos := "law.go:115", after := #[], guard := none }) (v := ?vA0) rfl (by kernel_rfl) (by kernel_rfl) (by kernel_rfl) (fun _ _ _ h => h) (Or.inl ⟨by rfl, ?hyA0⟩) hHeld ?restA0
            case hyA0 => (intro w hSw; go_simp; try with_reducible rfl)
            try simp only [Act.put, List.setIfInBounds_toArray, List.set_cons_zero, List.set_cons_succ]
            refine wpAnyH_take (i := 1) (oi := { dst := some 62, op := Op.binOp BinOp.neq 28 (Operand.tmp 61) (Operand.const (Value.int IntKind.i64 0)) 28, type := 4, pos := "law.go:115", after := #[{ on := 0, ground := Ground.data }], guard := none }) (v := ?vA1) rfl (by kernel_rfl) (by kernel_rfl) (by kernel_rfl) (fun _ _ _ h => h) (Or.inl ⟨by rfl, ?hyA1⟩) hHeld ?restA1
            case hyA1 => (intro w hSw; go_simp; try with_reducible rfl)
            try simp only [Act.put, List.setIfInBounds_toArray, List.set_cons_zero, List.set_cons_succ]
            refine wpAnyH_take (i := 2) (oi := { dst := some 63, op := Op.move (Operand.tmp 62), type := 4, pos := "law.go:115", after := #[{ on := 1, ground := Ground.data }], guard := none }) (v := ?vA2) rfl (by kernel_rfl) (by kernel_rfl) (by kernel_rfl) (fun _ _ _ h => h) (Or.inl ⟨by rfl, ?hyA2⟩) hHeld ?restA2
            case hyA2 => (intro w hSw; go_simp; try with_reducible rfl)
            try simp only [Act.put, List.setIfInBounds_toArray, List.set_cons_zero, List.set_cons_succ]
            refine wpAnyH_take (i := 3) (oi := { dst := some 64, op := Op.load 89 (Operand.tmp 15), type := 89, pos := "law.go:115", after := #[{ on := 2, ground := Ground.guard }], guard := some (2, false) }) (v := ?vA3) rfl (by kernel_rfl) (by kernel_rfl) (by kernel_rfl) (fun _ _ _ h => h) (Or.inl ⟨by rfl, ?hyA3⟩) hHeld ?restA3
            case hyA3 => (intro w hSw; obtain ⟨c0, c1, -⟩ := ((H10.out _ (Hid.out hSw)).2.1).two; go_simp; try with_reducible rfl)
            try simp only [Act.put, List.setIfInBounds_toArray, List.set_cons_zero, List.set_cons_succ]
            refine wpAnyH_take (i := 5) (oi := { dst := some 66, op := Op.load 81 (Operand.tmp 5), type := 81, pos := "law.go:115", after := #[{ on := 2, ground := Ground.guard }], guard := some (2, false) }) (v := ?vA5) rfl (by kernel_rfl) (by kernel_rfl) (by kernel_rfl) (fun _ _ _ h => h) (Or.inl ⟨by rfl, ?hyA5⟩) hHeld ?restA5
            case hyA5 => (intro w hSw; obtain ⟨c0, c1, -⟩ := ((H10.out _ (Hid.out hSw)).1.1.1.x).two; go_simp; try with_reducible rfl)
            try simp only [Act.put, List.setIfInBounds_toArray, List.set_cons_zero, List.set_cons_succ]
            refine wpAnyH_ready (rs := [4]) (by kernel_rfl) (by simp) ?_
            refine AllReadyH.cons (o := { dst := some 65, op := Op.call { callee := Callee.value (Operand.func 56), args := #[Operand.tmp 64], argTypes := #[89] }, type := 81, pos := "law.go:115", after := #[{ on := 3, ground := Ground.data }, { on := 2, ground := Ground.chain }, { on := 2, ground := Ground.guard }], guard := some (2, false) }) rfl (fun K hK => ?_) AllReadyH.nil
            go_simp
            refine (nd_back _ sx A3 n3 c3).mono ?_; rintro e wq4 ⟨rfl, hq4⟩; have HQ4 := Lib.hid hq4; clear hq4
            refine hK.out _ _ ((Lib.hid ((Hid.out hHeld).trans (HQ4.out.mono (Hid.out hHeld).size)))) (fun hHeld => ?_)
            clear hK K
            try simp only [Act.put, List.setIfInBounds_toArray, List.set_cons_zero, List.set_cons_succ]
            refine wpAnyH_ready (rs := [6]) (by kernel_rfl) (by simp) ?_
            refine AllReadyH.cons (o := { dst := some 67, op := Op.call { callee := Callee.value (Operand.func 55), args := #[Operand.tmp 65, Operand.tmp 66], argTypes := #[81, 81] }, type := 4, pos := "law.go:115", after := #[{ on := 4, ground := Ground.data }, { on := 5, ground := Ground.data }, { on := 4, ground := Ground.chain }, { on := 2, ground := Ground.guard }], guard := some (2, false) }) rfl (fun K hK => ?_) AllReadyH.nil
            go_simp
            refine (nd_samefile _ _ _ sx sx A3 AX n3 c3 nx cx xs xs (H10.out _ (Hid.out hHeld)).2.2 (H10.out _ (Hid.out hHeld)).1.1.1.hx HN3L.out).mono ?_; rintro e wq6 ⟨rfl, hq6⟩; rw [decide_eq_true (rfl : (⟨sx, xs⟩ : FV) = ⟨sx, xs⟩)]; have HQ6 := Lib.hid hq6; clear hq6
            refine hK.out _ _ ((Lib.hid ((Hid.out hHeld).trans (HQ6.out.mono (Hid.out hHeld).size)))) (fun hHeld => ?_)
            clear hK K
            try simp only [Act.put, List.setIfInBounds_toArray, List.set_cons_zero, List.set_cons_succ]
            refine wpAnyH_take (i := 7) (oi := { dst := some 68, op := Op.unOp UnOp.not 4 (Operand.tmp 67), type := 4, pos := "law.go:115", after := #[{ on := 6, ground := Ground.data }, { on := 2, ground := Ground.guard }], guard := some (2, false) }) (v := ?vA7) rfl (by kernel_rfl) (by kernel_rfl) (by kernel_rfl) (fun _ _ _ h => h) (Or.inl ⟨by rfl, ?hyA7⟩) hHeld ?restA7
            case hyA7 => (intro w hSw; go_simp; try with_reducible rfl)
            try simp only [Act.put, List.setIfInBounds_toArray, List.set_cons_zero, List.set_cons_succ]
            refine wpAnyH_take (i := 8) (oi := { dst := some 69, op := Op.pick (Operand.tmp 63) (Operand.const (Value.bool true)) (Operand.tmp 68), type := 4, pos := "law.go:115", after := #[{ on := 2, ground := Ground.data }, { on := 7, ground := Ground.data }], guard := none }) (v := ?vA8) rfl (by kernel_rfl) (by kernel_rfl) (by kernel_rfl) (fun _ _ _ h => h) (Or.inl ⟨by rfl, ?hyA8⟩) hHeld ?restA8
            case hyA8 => (intro w hSw; go_simp; try with_reducible rfl)
            try simp only [Act.put, List.setIfInBounds_toArray, List.set_cons_zero, List.set_cons_succ]
            refine wpAnyH_take (i := 9) (oi := { dst := some 70, op := Op.move (Operand.tmp 69), type := 4, pos := "law.go:115", after := #[{ on := 8, ground := Ground.data }, { on := 6, ground := Ground.chain }], guard := none }) (v := ?vA9) rfl (by kernel_rfl) (by kernel_rfl) (by kernel_rfl) (fun _ _ _ h => h) (Or.inl ⟨by rfl, ?hyA9⟩) hHeld ?restA9
            case hyA9 => (intro w hSw; go_simp; try with_reducible rfl)
            try simp only [Act.put, List.setIfInBounds_toArray, List.set_cons_zero, List.set_cons_succ]
            refine wpAnyH_take (i := 10) (oi := { dst := some 71, op := Op.move (Operand.tmp 14), type := 28, pos := "law.go:115", after := #[{ on := 9, ground := Ground.guard }], guard := some (9, false) }) (v := ?vA10) rfl (by kernel_rfl) (by kernel_rfl) (by kernel_rfl) (fun _ _ _ h => h) (Or.inl ⟨by rfl, ?hyA10⟩) hHeld ?restA10
            case hyA10 => (intro w hSw; go_simp; try with_reducible rfl)
            try simp only [Act.put, List.setIfInBounds_toArray, List.set_cons_zero, List.set_cons_succ]
            refine wpAnyH_take (i := 11) (oi := { dst := some 72, op := Op.binOp BinOp.eql 28 (Operand.tmp 71) (Operand.const (Value.int IntKind.i64 0)) 28, type := 4, pos := "law.go:115", after := #[{ on := 10, ground := Ground.data }, { on := 9, ground := Ground.guard }], guard := some (9, false) }) (v := ?vA11) rfl (by kernel_rfl) (by kernel_rfl) (by kernel_rfl) (fun _ _ _ h => h) (Or.inl ⟨by rfl, ?hyA11⟩) hHeld ?restA11
            case hyA11 => (intro w hSw; go_simp; try with_reducible rfl)
            try simp only [Act.put, List.setIfInBounds_toArray, List.set_cons_zero, List.set_cons_succ]
            refine wpAnyH_take (i := 12) (oi := { dst := some 73, op := Op.move (Operand.tmp 72), type := 4, pos := "law.go:115", after := #[{ on := 11, ground := Ground.data }, { on := 9, ground := Ground.chain }, { on := 9, ground := Ground.guard }], guard := some (9, false) }) (v := ?vA12) rfl (by kernel_rfl) (by kernel_rfl) (by kernel_rfl) (fun _ _ _ h => h) (Or.inl ⟨by rfl, ?hyA12⟩) hHeld ?restA12
            case hyA12 => (intro w hSw; go_simp; try with_reducible rfl)
            try simp only [Act.put, List.setIfInBounds_toArray, List.set_cons_zero, List.set_cons_succ]
            refine wpAnyH_take (i := 13) (oi := { dst := some 74, op := Op.fieldAddr 86 (Operand.tmp 11) 1, type := 0, pos := "law.go:115", after := #[{ on := 12, ground := Ground.guard }], guard := some (12, true) }) (v := ?vA13) rfl (by kernel_rfl) (by kernel_rfl) (by kernel_rfl) (fun _ _ _ h => h) (Or.inl ⟨by rfl, ?hyA13⟩) hHeld ?restA13
            case hyA13 => (intro w hSw; go_simp; try with_reducible rfl)
            try simp only [Act.put, List.setIfInBounds_toArray, List.set_cons_zero, List.set_cons_succ]
            refine wpAnyH_take (i := 14) (oi := { dst := some 75, op := Op.load 22 (Operand.tmp 74), type := 22, pos := "law.go:115", after := #[{ on := 13, ground := Ground.data }, { on := 12, ground := Ground.guard }], guard := some (12, true) }) (v := ?vA14) rfl (by kernel_rfl) (by kernel_rfl) (by kernel_rfl) (fun _ _ _ h => h) (Or.inl ⟨by rfl, ?hyA14⟩) hHeld ?restA14
            case hyA14 => (intro w hSw; obtain ⟨c0, c1, -⟩ := ((H10.out _ (Hid.out hSw)).1.1.2.1).two; go_simp; try with_reducible rfl)
            try simp only [Act.put, List.setIfInBounds_toArray, List.set_cons_zero, List.set_cons_succ]
            refine wpAnyH_take (i := 15) (oi := { dst := some 76, op := Op.fieldAddr 86 (Operand.tmp 13) 1, type := 0, pos := "law.go:115", after := #[{ on := 12, ground := Ground.guard }], guard := some (12, true) }) (v := ?vA15) rfl (by kernel_rfl) (by kernel_rfl) (by kernel_rfl) (fun _ _ _ h => h) (Or.inl ⟨by rfl, ?hyA15⟩) hHeld ?restA15
            case hyA15 => (intro w hSw; go_simp; try with_reducible rfl)
            try simp only [Act.put, List.setIfInBounds_toArray, List.set_cons_zero, List.set_cons_succ]
            refine wpAnyH_take (i := 16) (oi := { dst := some 77, op := Op.load 22 (Operand.tmp 76), type := 22, pos := "law.go:115", after := #[{ on := 15, ground := Ground.data }, { on := 12, ground := Ground.guard }], guard := some (12, true) }) (v := ?vA16) rfl (by kernel_rfl) (by kernel_rfl) (by kernel_rfl) (fun _ _ _ h => h) (Or.inl ⟨by rfl, ?hyA16⟩) hHeld ?restA16
            case hyA16 => (intro w hSw; obtain ⟨c0, c1, -⟩ := ((H10.out _ (Hid.out hSw)).1.2.1).two; go_simp; try with_reducible rfl)
            try simp only [Act.put, List.setIfInBounds_toArray, List.set_cons_zero, List.set_cons_succ]
            refine wpAnyH_take (i := 18) (oi := { dst := some 79, op := Op.load 81 (Operand.tmp 5), type := 81, pos := "law.go:115", after := #[{ on := 12, ground := Ground.guard }], guard := some (12, true) }) (v := ?vA18) rfl (by kernel_rfl) (by kernel_rfl) (by kernel_rfl) (fun _ _ _ h => h) (Or.inl ⟨by rfl, ?hyA18⟩) hHeld ?restA18
            case hyA18 => (intro w hSw; obtain ⟨c0, c1, -⟩ := ((H10.out _ (Hid.out hSw)).1.1.1.x).two; go_simp; try with_reducible rfl)
            try simp only [Act.put, List.setIfInBounds_toArray, List.set_cons_zero, List.set_cons_succ]
            refine wpAnyH_take (i := 19) (oi := { dst := some 80, op := Op.load 81 (Operand.tmp 6), type := 81, pos := "law.go:115", after := #[{ on := 12, ground := Ground.guard }], guard := some (12, true) }) (v := ?vA19) rfl (by kernel_rfl) (by kernel_rfl) (by kernel_rfl) (fun _ _ _ h => h) (Or.inl ⟨by rfl, ?hyA19⟩) hHeld ?restA19
            case hyA19 => (intro w hSw; obtain ⟨c0, c1, -⟩ := ((H10.out _ (Hid.out hSw)).1.1.1.y).two; go_simp; try with_reducible rfl)
            try simp only [Act.put, List.setIfInBounds_toArray, List.set_cons_zero, List.set_cons_succ]
            refine wpAnyH_ready (rs := [17]) (by kernel_rfl) (by simp) ?_
            refine AllReadyH.cons (o := { dst := some 78, op := Op.call { callee := Callee.value (Operand.func 26), args := #[Operand.tmp 75, Operand.tmp 77], argTypes := #[22, 22] }, type := 4, pos := "law.go:115", after := #[{ on := 14, ground := Ground.data }, { on := 16, ground := Ground.data }, { on := 12, ground := Ground.chain }, { on := 12, ground := Ground.guard }], guard := some (12, true) }) rfl (fun K hK => ?_) AllReadyH.nil
            go_simp
            refine (bytes_any _ _ _ A1 A2 n1 n2 c1 c2 BX BY (H10.out _ (Hid.out hHeld)).1.1.2.2 (H10.out _ (Hid.out hHeld)).1.2.2 (by have := HN1'.out; omega) (by have := HN2'.out; omega)).mono ?_; rintro e wq17 ⟨rfl, j17, hj17⟩; rw [HDB.out]; have HQ17 := Lib.hid (drewN_below hj17); clear hj17
            refine hK.out _ _ ((Lib.hid ((Hid.out hHeld).trans (HQ17.out.mono (Hid.out hHeld).size)))) (fun hHeld => ?_)
            clear hK K
            try simp only [Act.put, List.setIfInBounds_toArray, List.set_cons_zero, List.set_cons_succ]
            refine wpAnyH_ready (rs := [20]) (by kernel_rfl) (by simp) ?_
            refine AllReadyH.cons (o := { dst := some 81, op := Op.call { callee := Callee.value (Operand.func 55), args := #[Operand.tmp 79, Operand.tmp 80], argTypes := #[81, 81] }, type := 4, pos := "law.go:115", after := #[{ on := 18, ground := Ground.data }, { on := 19, ground := Ground.data }, { on := 17, ground := Ground.chain }, { on := 12, ground := Ground.guard }], guard := some (12, true) }) rfl (fun K hK => ?_) AllReadyH.nil
            go_simp
            refine (nd_samefile _ _ _ sx sy AX AY nx cx ny cy xs ys (H10.out _ (Hid.out hHeld)).1.1.1.hx (H10.out _ (Hid.out hHeld)).1.1.1.hy (by omega)).mono ?_; rintro e wq20 ⟨rfl, hq20⟩; rw [HDF.out]; have HQ20 := Lib.hid hq20; clear hq20
            refine hK.out _ _ ((Lib.hid ((Hid.out hHeld).trans (HQ20.out.mono (Hid.out hHeld).size)))) (fun hHeld => ?_)
            clear hK K
            try simp only [Act.put, List.setIfInBounds_toArray, List.set_cons_zero, List.set_cons_succ]
            refine wpAnyH_take (i := 21) (oi := { dst := some 82, op := Op.binOp BinOp.neq 4 (Operand.tmp 78) (Operand.tmp 81) 4, type := 4, pos := "law.go:115", after := #[{ on := 17, ground := Ground.data }, { on := 20, ground := Ground.data }, { on := 12, ground := Ground.guard }], guard := some (12, true) }) (v := ?vA21) rfl (by kernel_rfl) (by kernel_rfl) (by kernel_rfl) (fun _ _ _ h => h) (Or.inl ⟨by rfl, ?hyA21⟩) hHeld ?restA21
            case hyA21 => (intro w hSw; go_simp; try with_reducible rfl)
            try simp only [Act.put, List.setIfInBounds_toArray, List.set_cons_zero, List.set_cons_succ]
            refine wpAnyH_take (i := 22) (oi := { dst := some 83, op := Op.pick (Operand.tmp 73) (Operand.tmp 82) (Operand.const (Value.bool false)), type := 4, pos := "law.go:115", after := #[{ on := 12, ground := Ground.data }, { on := 21, ground := Ground.data }, { on := 9, ground := Ground.guard }], guard := some (9, false) }) (v := ?vA22) rfl (by kernel_rfl) (by kernel_rfl) (by kernel_rfl) (fun _ _ _ h => h) (Or.inl ⟨by rfl, ?hyA22⟩) hHeld ?restA22
            case hyA22 => (intro w hSw; go_simp; try with_reducible rfl)
            try simp only [Act.put, List.setIfInBounds_toArray, List.set_cons_zero, List.set_cons_succ]
            refine wpAnyH_take (i := 23) (oi := { dst := some 84, op := Op.pick (Operand.tmp 70) (Operand.const (Value.bool true)) (Operand.tmp 83), type := 4, pos := "law.go:115", after := #[{ on := 9, ground := Ground.data }, { on := 22, ground := Ground.data }], guard := none }) (v := ?vA23) rfl (by kernel_rfl) (by kernel_rfl) (by kernel_rfl) (fun _ _ _ h => h) (Or.inl ⟨by rfl, ?hyA23⟩) hHeld ?restA23
            case hyA23 => (intro w hSw; go_simp; try with_reducible rfl)
            try simp only [Act.put, List.setIfInBounds_toArray, List.set_cons_zero, List.set_cons_succ]
            refine wpAnyH_done (by kernel_rfl) ?_ _
            go_wp2_with fail
            go_meet
            exact Lib.hid (H10.out _ (Hid.out hHeld)).1.1.1
          · have hfy' : (FY == 0) = false := by simpa using hfy
            clear hfy
            refine wp_region_held_drew (S := fun w' => Hid (Below W10.heap.size W10 w')) (by kernel_rfl) (Lib.hid (Below.refl _ _).drew) (fun hHeld => ?_)
            refine wpAnyH_take (i := 0) (oi := { dst := some 61, op := Op.move (Operand.tmp 16), type := 28, pos := "law.go:115", after := #[], guard := none }) (v := ?vB0) rfl (by kernel_rfl) (by kernel_rfl) (by kernel_rfl) (fun _ _ _ h => h) (Or.inl ⟨by rfl, ?hyB0⟩) hHeld ?restB0
            case hyB0 => (intro w hSw; go_simp; try with_reducible rfl)
            try simp only [Act.put, List.setIfInBounds_toArray, List.set_cons_zero, List.set_cons_succ]
            refine wpAnyH_take (i := 1) (oi := { dst := some 62, op := Op.binOp BinOp.neq 28 (Operand.tmp 61) (Operand.const (Value.int IntKind.i64 0)) 28, type := 4, pos := "law.go:115", after := #[{ on := 0, ground := Ground.data }], guard := none }) (v := ?vB1) rfl (by kernel_rfl) (by kernel_rfl) (by kernel_rfl) (fun _ _ _ h => h) (Or.inl ⟨by rfl, ?hyB1⟩) hHeld ?restB1
            case hyB1 => (intro w hSw; go_simp; try with_reducible rfl)
            try simp only [Act.put, List.setIfInBounds_toArray, List.set_cons_zero, List.set_cons_succ]
            refine wpAnyH_take (i := 2) (oi := { dst := some 63, op := Op.move (Operand.tmp 62), type := 4, pos := "law.go:115", after := #[{ on := 1, ground := Ground.data }], guard := none }) (v := ?vB2) rfl (by kernel_rfl) (by kernel_rfl) (by kernel_rfl) (fun _ _ _ h => h) (Or.inl ⟨by rfl, ?hyB2⟩) hHeld ?restB2
            case hyB2 => (intro w hSw; go_simp; try with_reducible rfl)
            try simp only [Act.put, List.setIfInBounds_toArray, List.set_cons_zero, List.set_cons_succ]
            refine wpAnyH_take (i := 3) (oi := { dst := some 64, op := Op.load 89 (Operand.tmp 15), type := 89, pos := "law.go:115", after := #[{ on := 2, ground := Ground.guard }], guard := some (2, false) }) (v := ?vB3) rfl (by kernel_rfl) (by kernel_rfl) (by kernel_rfl) (fun _ _ _ h => h) (Or.inl ⟨by rfl, ?hyB3⟩) hHeld ?restB3
            case hyB3 => (intro w hSw; obtain ⟨c0, c1, -⟩ := ((H10.out _ (Hid.out hSw)).2.1).two; go_simp; try with_reducible rfl)
            try simp only [Act.put, List.setIfInBounds_toArray, List.set_cons_zero, List.set_cons_succ]
            refine wpAnyH_take (i := 5) (oi := { dst := some 66, op := Op.load 81 (Operand.tmp 5), type := 81, pos := "law.go:115", after := #[{ on := 2, ground := Ground.guard }], guard := some (2, false) }) (v := ?vB5) rfl (by kernel_rfl) (by kernel_rfl) (by kernel_rfl) (fun _ _ _ h => h) (Or.inl ⟨by rfl, ?hyB5⟩) hHeld ?restB5
            case hyB5 => (intro w hSw; obtain ⟨c0, c1, -⟩ := ((H10.out _ (Hid.out hSw)).1.1.1.x).two; go_simp; try with_reducible rfl)
            try simp only [Act.put, List.setIfInBounds_toArray, List.set_cons_zero, List.set_cons_succ]
            refine wpAnyH_ready (rs := [4]) (by kernel_rfl) (by simp) ?_
            refine AllReadyH.cons (o := { dst := some 65, op := Op.call { callee := Callee.value (Operand.func 56), args := #[Operand.tmp 64], argTypes := #[89] }, type := 81, pos := "law.go:115", after := #[{ on := 3, ground := Ground.data }, { on := 2, ground := Ground.chain }, { on := 2, ground := Ground.guard }], guard := some (2, false) }) rfl (fun K hK => ?_) AllReadyH.nil
            go_simp
            refine (nd_back _ sx A3 n3 c3).mono ?_; rintro e wq4 ⟨rfl, hq4⟩; have HQ4 := Lib.hid hq4; clear hq4
            refine hK.out _ _ ((Lib.hid ((Hid.out hHeld).trans (HQ4.out.mono (Hid.out hHeld).size)))) (fun hHeld => ?_)
            clear hK K
            try simp only [Act.put, List.setIfInBounds_toArray, List.set_cons_zero, List.set_cons_succ]
            refine wpAnyH_ready (rs := [6]) (by kernel_rfl) (by simp) ?_
            refine AllReadyH.cons (o := { dst := some 67, op := Op.call { callee := Callee.value (Operand.func 55), args := #[Operand.tmp 65, Operand.tmp 66], argTypes := #[81, 81] }, type := 4, pos := "law.go:115", after := #[{ on := 4, ground := Ground.data }, { on := 5, ground := Ground.data }, { on := 4, ground := Ground.chain }, { on := 2, ground := Ground.guard }], guard := some (2, false) }) rfl (fun K hK => ?_) AllReadyH.nil
            go_simp
            refine (nd_samefile _ _ _ sx sx A3 AX n3 c3 nx cx xs xs (H10.out _ (Hid.out hHeld)).2.2 (H10.out _ (Hid.out hHeld)).1.1.1.hx HN3L.out).mono ?_; rintro e wq6 ⟨rfl, hq6⟩; rw [decide_eq_true (rfl : (⟨sx, xs⟩ : FV) = ⟨sx, xs⟩)]; have HQ6 := Lib.hid hq6; clear hq6
            refine hK.out _ _ ((Lib.hid ((Hid.out hHeld).trans (HQ6.out.mono (Hid.out hHeld).size)))) (fun hHeld => ?_)
            clear hK K
            try simp only [Act.put, List.setIfInBounds_toArray, List.set_cons_zero, List.set_cons_succ]
            refine wpAnyH_take (i := 7) (oi := { dst := some 68, op := Op.unOp UnOp.not 4 (Operand.tmp 67), type := 4, pos := "law.go:115", after := #[{ on := 6, ground := Ground.data }, { on := 2, ground := Ground.guard }], guard := some (2, false) }) (v := ?vB7) rfl (by kernel_rfl) (by kernel_rfl) (by kernel_rfl) (fun _ _ _ h => h) (Or.inl ⟨by rfl, ?hyB7⟩) hHeld ?restB7
            case hyB7 => (intro w hSw; go_simp; try with_reducible rfl)
            try simp only [Act.put, List.setIfInBounds_toArray, List.set_cons_zero, List.set_cons_succ]
            refine wpAnyH_take (i := 8) (oi := { dst := some 69, op := Op.pick (Operand.tmp 63) (Operand.const (Value.bool true)) (Operand.tmp 68), type := 4, pos := "law.go:115", after := #[{ on := 2, ground := Ground.data }, { on := 7, ground := Ground.data }], guard := none }) (v := ?vB8) rfl (by kernel_rfl) (by kernel_rfl) (by kernel_rfl) (fun _ _ _ h => h) (Or.inl ⟨by rfl, ?hyB8⟩) hHeld ?restB8
            case hyB8 => (intro w hSw; go_simp; try with_reducible rfl)
            try simp only [Act.put, List.setIfInBounds_toArray, List.set_cons_zero, List.set_cons_succ]
            refine wpAnyH_take (i := 9) (oi := { dst := some 70, op := Op.move (Operand.tmp 69), type := 4, pos := "law.go:115", after := #[{ on := 8, ground := Ground.data }, { on := 6, ground := Ground.chain }], guard := none }) (v := ?vB9) rfl (by kernel_rfl) (by kernel_rfl) (by kernel_rfl) (fun _ _ _ h => h) (Or.inl ⟨by rfl, ?hyB9⟩) hHeld ?restB9
            case hyB9 => (intro w hSw; go_simp; try with_reducible rfl)
            try simp only [Act.put, List.setIfInBounds_toArray, List.set_cons_zero, List.set_cons_succ]
            refine wpAnyH_take (i := 10) (oi := { dst := some 71, op := Op.move (Operand.tmp 14), type := 28, pos := "law.go:115", after := #[{ on := 9, ground := Ground.guard }], guard := some (9, false) }) (v := ?vB10) rfl (by kernel_rfl) (by kernel_rfl) (by kernel_rfl) (fun _ _ _ h => h) (Or.inl ⟨by rfl, ?hyB10⟩) hHeld ?restB10
            case hyB10 => (intro w hSw; go_simp; try with_reducible rfl)
            try simp only [Act.put, List.setIfInBounds_toArray, List.set_cons_zero, List.set_cons_succ]
            refine wpAnyH_take (i := 11) (oi := { dst := some 72, op := Op.binOp BinOp.eql 28 (Operand.tmp 71) (Operand.const (Value.int IntKind.i64 0)) 28, type := 4, pos := "law.go:115", after := #[{ on := 10, ground := Ground.data }, { on := 9, ground := Ground.guard }], guard := some (9, false) }) (v := ?vB11) rfl (by kernel_rfl) (by kernel_rfl) (by kernel_rfl) (fun _ _ _ h => h) (Or.inl ⟨by rfl, ?hyB11⟩) hHeld ?restB11
            case hyB11 => (intro w hSw; go_simp; try with_reducible rfl)
            try simp only [Act.put, List.setIfInBounds_toArray, List.set_cons_zero, List.set_cons_succ]
            refine wpAnyH_take (i := 12) (oi := { dst := some 73, op := Op.move (Operand.tmp 72), type := 4, pos := "law.go:115", after := #[{ on := 11, ground := Ground.data }, { on := 9, ground := Ground.chain }, { on := 9, ground := Ground.guard }], guard := some (9, false) }) (v := ?vB12) rfl (by kernel_rfl) (by kernel_rfl) (by kernel_rfl) (fun _ _ _ h => h) (Or.inl ⟨by rfl, ?hyB12⟩) hHeld ?restB12
            case hyB12 => (intro w hSw; go_simp; try with_reducible rfl)
            try simp only [Act.put, List.setIfInBounds_toArray, List.set_cons_zero, List.set_cons_succ]
            refine wpAnyH_take (i := 13) (oi := { dst := some 74, op := Op.fieldAddr 86 (Operand.tmp 11) 1, type := 0, pos := "law.go:115", after := #[{ on := 12, ground := Ground.guard }], guard := some (12, true) }) (v := undef) rfl (by kernel_rfl) (by kernel_rfl) (by kernel_rfl) (fun _ _ _ h => h) (Or.inr ⟨by rfl, rfl⟩) hHeld ?_
            try simp only [Act.put, List.setIfInBounds_toArray, List.set_cons_zero, List.set_cons_succ]
            refine wpAnyH_take (i := 14) (oi := { dst := some 75, op := Op.load 22 (Operand.tmp 74), type := 22, pos := "law.go:115", after := #[{ on := 13, ground := Ground.data }, { on := 12, ground := Ground.guard }], guard := some (12, true) }) (v := undef) rfl (by kernel_rfl) (by kernel_rfl) (by kernel_rfl) (fun _ _ _ h => h) (Or.inr ⟨by rfl, rfl⟩) hHeld ?_
            try simp only [Act.put, List.setIfInBounds_toArray, List.set_cons_zero, List.set_cons_succ]
            refine wpAnyH_take (i := 15) (oi := { dst := some 76, op := Op.fieldAddr 86 (Operand.tmp 13) 1, type := 0, pos := "law.go:115", after := #[{ on := 12, ground := Ground.guard }], guard := some (12, true) }) (v := undef) rfl (by kernel_rfl) (by kernel_rfl) (by kernel_rfl) (fun _ _ _ h => h) (Or.inr ⟨by rfl, rfl⟩) hHeld ?_
            try simp only [Act.put, List.setIfInBounds_toArray, List.set_cons_zero, List.set_cons_succ]
            refine wpAnyH_take (i := 16) (oi := { dst := some 77, op := Op.load 22 (Operand.tmp 76), type := 22, pos := "law.go:115", after := #[{ on := 15, ground := Ground.data }, { on := 12, ground := Ground.guard }], guard := some (12, true) }) (v := undef) rfl (by kernel_rfl) (by kernel_rfl) (by kernel_rfl) (fun _ _ _ h => h) (Or.inr ⟨by rfl, rfl⟩) hHeld ?_
            try simp only [Act.put, List.setIfInBounds_toArray, List.set_cons_zero, List.set_cons_succ]
            refine wpAnyH_take (i := 18) (oi := { dst := some 79, op := Op.load 81 (Operand.tmp 5), type := 81, pos := "law.go:115", after := #[{ on := 12, ground := Ground.guard }], guard := some (12, true) }) (v := undef) rfl (by kernel_rfl) (by kernel_rfl) (by kernel_rfl) (fun _ _ _ h => h) (Or.inr ⟨by rfl, rfl⟩) hHeld ?_
            try simp only [Act.put, List.setIfInBounds_toArray, List.set_cons_zero, List.set_cons_succ]
            refine wpAnyH_take (i := 19) (oi := { dst := some 80, op := Op.load 81 (Operand.tmp 6), type := 81, pos := "law.go:115", after := #[{ on := 12, ground := Ground.guard }], guard := some (12, true) }) (v := undef) rfl (by kernel_rfl) (by kernel_rfl) (by kernel_rfl) (fun _ _ _ h => h) (Or.inr ⟨by rfl, rfl⟩) hHeld ?_
            try simp only [Act.put, List.setIfInBounds_toArray, List.set_cons_zero, List.set_cons_succ]
            refine wpAnyH_ready (rs := [17]) (by kernel_rfl) (by simp) ?_
            refine AllReadyH.cons (o := { dst := some 78, op := Op.call { callee := Callee.value (Operand.func 26), args := #[Operand.tmp 75, Operand.tmp 77], argTypes := #[22, 22] }, type := 4, pos := "law.go:115", after := #[{ on := 14, ground := Ground.data }, { on := 16, ground := Ground.data }, { on := 12, ground := Ground.chain }, { on := 12, ground := Ground.guard }], guard := some (12, true) }) rfl (fun K hK => ?_) AllReadyH.nil
            go_simp
            refine hK.out _ _ hHeld (fun hHeld => ?_)
            clear hK K
            try simp only [Act.put, List.setIfInBounds_toArray, List.set_cons_zero, List.set_cons_succ]
            refine wpAnyH_ready (rs := [20]) (by kernel_rfl) (by simp) ?_
            refine AllReadyH.cons (o := { dst := some 81, op := Op.call { callee := Callee.value (Operand.func 55), args := #[Operand.tmp 79, Operand.tmp 80], argTypes := #[81, 81] }, type := 4, pos := "law.go:115", after := #[{ on := 18, ground := Ground.data }, { on := 19, ground := Ground.data }, { on := 17, ground := Ground.chain }, { on := 12, ground := Ground.guard }], guard := some (12, true) }) rfl (fun K hK => ?_) AllReadyH.nil
            go_simp
            refine hK.out _ _ hHeld (fun hHeld => ?_)
            clear hK K
            try simp only [Act.put, List.setIfInBounds_toArray, List.set_cons_zero, List.set_cons_succ]
            refine wpAnyH_take (i := 21) (oi := { dst := some 82, op := Op.binOp BinOp.neq 4 (Operand.tmp 78) (Operand.tmp 81) 4, type := 4, pos := "law.go:115", after := #[{ on := 17, ground := Ground.data }, { on := 20, ground := Ground.data }, { on := 12, ground := Ground.guard }], guard := some (12, true) }) (v := undef) rfl (by kernel_rfl) (by kernel_rfl) (by kernel_rfl) (fun _ _ _ h => h) (Or.inr ⟨by rfl, rfl⟩) hHeld ?_
            try simp only [Act.put, List.setIfInBounds_toArray, List.set_cons_zero, List.set_cons_succ]
            refine wpAnyH_take (i := 22) (oi := { dst := some 83, op := Op.pick (Operand.tmp 73) (Operand.tmp 82) (Operand.const (Value.bool false)), type := 4, pos := "law.go:115", after := #[{ on := 12, ground := Ground.data }, { on := 21, ground := Ground.data }, { on := 9, ground := Ground.guard }], guard := some (9, false) }) (v := ?vB22) rfl (by kernel_rfl) (by kernel_rfl) (by kernel_rfl) (fun _ _ _ h => h) (Or.inl ⟨by rfl, ?hyB22⟩) hHeld ?restB22
            case hyB22 => (intro w hSw; go_simp; try with_reducible rfl)
            try simp only [Act.put, List.setIfInBounds_toArray, List.set_cons_zero, List.set_cons_succ]
            refine wpAnyH_take (i := 23) (oi := { dst := some 84, op := Op.pick (Operand.tmp 70) (Operand.const (Value.bool true)) (Operand.tmp 83), type := 4, pos := "law.go:115", after := #[{ on := 9, ground := Ground.data }, { on := 22, ground := Ground.data }], guard := none }) (v := ?vB23) rfl (by kernel_rfl) (by kernel_rfl) (by kernel_rfl) (fun _ _ _ h => h) (Or.inl ⟨by rfl, ?hyB23⟩) hHeld ?restB23
            case hyB23 => (intro w hSw; go_simp; try with_reducible rfl)
            try simp only [Act.put, List.setIfInBounds_toArray, List.set_cons_zero, List.set_cons_succ]
            refine wpAnyH_done (by kernel_rfl) ?_ _
            go_wp2_with fail
            go_meet
            exact Lib.hid (H10.out _ (Hid.out hHeld)).1.1.1
        · have hfx' : (FX == 0) = false := by simpa using hfx
          clear hfx
          go_wp2_with fail
          go_meet
          exact Lib.hid (H8.out _ (Below.refl _ _)).1.1
      case rest =>
        have HC := hcut
        clear hcut H8 H6 H5 HN1' HN2' HFX HFY HN3 p0 p1
        rename World => W20
        have HC20 : Hid (NB w sx sy k AX AY AL AM AB nx cx ny cy nl cl nm cm nb cb xs ys l m b W20) := HC
        clear HC
        go_wp2_with fail
        refine (nd_own W20 _ AL nl cl l HC20.out.hl (by omega)).mono ?_
        rintro e w3 ⟨A0, c0, rfl, hes, hb3⟩
        have HN3 := Lib.hid (HC20.out.after hb3)
        have HES := Lib.hid hes
        clear hb3 hes
        go_wp2_with fail
        refine (nd_putdir w3 _ A0 nl c0 l HES.out (by omega)).mono ?_
        rintro e w4 ⟨A1, n1, c1, rfl, hbs1, hn1, hb4⟩
        obtain ⟨FX, hFX⟩ : ∃ F, F = pdFE l := ⟨_, rfl⟩
        obtain ⟨KX, hKX⟩ : ∃ F, F = pdKE l := ⟨_, rfl⟩
        obtain ⟨BX, hBX⟩ : ∃ F, F = pdBE l := ⟨_, rfl⟩
        rw [← hFX, ← hKX]
        rw [← hBX] at hbs1
        have HFX := Lib.hid (And.intro hFX (And.intro hKX hBX))
        have H5 : Hid (∀ w', Below (w4.heap.size + 1) (w4.alloc (.cells #[.int .i64 KX, .slice A1 n1 c1] 86)) w' → NB w sx sy k AX AY AL AM AB nx cx ny cy nl cl nm cm nb cb xs ys l m b w' ∧ Blk w' w4.heap.size 86 #[.int .i64 KX, .slice A1 n1 c1] ∧ Bs w' AnyB A1 n1 c1 BX) := Lib.hid fun w' hb => by
          have h0 : Below w4.heap.size w4 w' := ((Below.refl _ _).alloc (Nat.le_refl _) _).trans (hb.mono (Nat.le_succ _))
          exact ⟨(HN3.out.after hb4).after h0, (Blk.new w4 86 _).below hb (Nat.lt_succ_self _), (hbs1.any).after h0⟩
        have HN1' := Lib.hid hn1
        clear hb4 hbs1 hFX hKX hBX hn1 HES
        go_wp2_with fail
        refine (nd_own (w4.alloc (.cells #[.int .i64 KX, .slice A1 n1 c1] 86)) _ AM nm cm m (H5.out _ (Below.refl _ _)).1.hm (by omega)).mono ?_
        rintro e w6 ⟨A0', c0', rfl, hes, hb6⟩
        have H6 : Hid (∀ w', Below w6.heap.size w6 w' → NB w sx sy k AX AY AL AM AB nx cx ny cy nl cl nm cm nb cb xs ys l m b w' ∧ Blk w' w4.heap.size 86 #[.int .i64 KX, .slice A1 n1 c1] ∧ Bs w' AnyB A1 n1 c1 BX) := Lib.hid fun w' hb => H5.out w' ((hb6.mono (by simp)).trans (hb.mono (by have := hb6.size; simpa using this)))
        have HES := Lib.hid hes
        clear hb6 hes
        go_wp2_with fail
        refine (nd_putdir w6 _ A0' nm c0' m HES.out (by omega)).mono ?_
        rintro e w7 ⟨A2, n2, c2, rfl, hbs2, hn2, hb7⟩
        obtain ⟨FY, hFY⟩ : ∃ F, F = pdFE m := ⟨_, rfl⟩
        obtain ⟨KY, hKY⟩ : ∃ F, F = pdKE m := ⟨_, rfl⟩
        obtain ⟨BY, hBY⟩ : ∃ F, F = pdBE m := ⟨_, rfl⟩
        rw [← hFY, ← hKY]
        rw [← hBY] at hbs2
        have HFY := Lib.hid (And.intro hFY hBY)
        obtain ⟨W8, hW8⟩ : ∃ W8, W8 = w7.alloc (.cells #[.int .i64 KY, .slice A2 n2 c2] 86) := ⟨_, rfl⟩
        have H8 : Hid (∀ w', Below W8.heap.size W8 w' → (NB w sx sy k AX AY AL AM AB nx cx ny cy nl cl nm cm nb cb xs ys l m b w' ∧ Blk w' w4.heap.size 86 #[.int .i64 KX, .slice A1 n1 c1] ∧ Bs w' AnyB A1 n1 c1 BX) ∧ Blk w' w7.heap.size 86 #[.int .i64 KY, .slice A2 n2 c2] ∧ Bs w' AnyB A2 n2 c2 BY) := Lib.hid fun w' hb => by
          have hs8 : W8.heap.size = w7.heap.size + 1 := by rw [hW8]; simp
          have h0 : Below w7.heap.size w7 W8 := by rw [hW8]; exact (Below.refl _ _).alloc (Nat.le_refl _) _
          have h1 := h0.trans (hb.mono h0.size)
          exact ⟨H6.out w' (hb7.trans (h1.mono hb7.size)), Blk.below (by rw [hW8]; exact Blk.new w7 86 _) hb (by omega), (hbs2.any).after h1⟩
        have HN2' := Lib.hid hn2
        clear hb7 hbs2 hFY hKY hBY hn2 HES
        go_upto_if 98 with fail
        rw [← hW8]
        clear hW8
        go_cut [] (fun wx => Hid (NB w sx sy k AX AY AL AM AB nx cx ny cy nl cl nm cm nb cb xs ys l m b wx))
        case first =>
          by_cases hfx : FX = 0
          · subst hfx
            have hfx := HFX.out.1.symm
            obtain ⟨hg1, hg2⟩ := gdF_some (dir_got (part := partB) (cmp := cmpS) HOL.out hfx)
            rw [show pdK partB cmpS l = KX from HFX.out.2.1.symm, show pdB partB cmpS l = BX from HFX.out.2.2.symm] at hg1 hg2
            have HG := Lib.hid (And.intro hg1 hg2)
            have HFX0 := Lib.hid hfx
            clear hfx hg1 hg2
            obtain ⟨p0, p1, -⟩ := (H8.out _ (Below.refl _ _)).1.2.1.two
            go_wp2_with fail
            refine (nd_getdir W8 AnyB KX A1 n1 c1 BX (H8.out _ (Below.refl _ _)).1.2.2 (by have := HN1'.out; omega)).mono ?_
            rintro e w9 ⟨A3, n3, c3, rfl, hz, hb9⟩
            rw [HG.out.1]
            rw [HG.out.2] at hz
            clear p0 p1
            have H10 : Hid (∀ w', Below w9.heap.size w9 w' → ((NB w sx sy k AX AY AL AM AB nx cx ny cy nl cl nm cm nb cb xs ys l m b w' ∧ Blk w' w4.heap.size 86 #[.int .i64 KX, .slice A1 n1 c1] ∧ Bs w' AnyB A1 n1 c1 BX) ∧ Blk w' w7.heap.size 86 #[.int .i64 KY, .slice A2 n2 c2] ∧ Bs w' AnyB A2 n2 c2 BY) ∧ Es w' AnyB A3 n3 c3 l) := Lib.hid fun w' hb => ⟨H8.out w' (hb9.trans (hb.mono hb9.size)), (hz.any).after (by omega) hb⟩
            have HN3L : Hid (n3 ≤ 100000) := Lib.hid (by
              have h := hz.len
              have h2 := HLL.out
              omega)
            clear hz hb9
            go_wp2_with fail
            refine (nd_eback w9 _ A3 n3 c3 l (H10.out _ (Below.refl _ _)).2 HN3L.out).mono ?_
            rintro e w10 ⟨A4, c4, rfl, hz, hb10⟩
            have HZ := Lib.hid hz
            have H11 : Hid (∀ w', Below w10.heap.size w10 w' → (NB w sx sy k AX AY AL AM AB nx cx ny cy nl cl nm cm nb cb xs ys l m b w' ∧ Blk w' w4.heap.size 86 #[.int .i64 KX, .slice A1 n1 c1] ∧ Bs w' AnyB A1 n1 c1 BX) ∧ Blk w' w7.heap.size 86 #[.int .i64 KY, .slice A2 n2 c2] ∧ Bs w' AnyB A2 n2 c2 BY) := Lib.hid fun w' hb => (H10.out w' (hb10.trans (hb.mono hb10.size))).1
            clear hz hb10
            go_wp2_with fail
            refine (nd_same w10 _ _ A4 AL n3 c4 nl cl l l HZ.out (H11.out _ (Below.refl _ _)).1.1.hl (by have := HN3L.out; omega)).mono ?_
            rintro e w11 ⟨rfl, hb11⟩
            rw [decide_eq_true (rfl : l = l)]
            have H12 : Hid (∀ w', Below w11.heap.size w11 w' → (NB w sx sy k AX AY AL AM AB nx cx ny cy nl cl nm cm nb cb xs ys l m b w' ∧ Blk w' w4.heap.size 86 #[.int .i64 KX, .slice A1 n1 c1] ∧ Bs w' AnyB A1 n1 c1 BX) ∧ Blk w' w7.heap.size 86 #[.int .i64 KY, .slice A2 n2 c2] ∧ Bs w' AnyB A2 n2 c2 BY) := Lib.hid fun w' hb => H11.out w' (hb11.trans (hb.mono hb11.size))
            clear hb11
            by_cases hfy : FY = 0
            · subst hfy
              have hfy := HFY.out.1.symm
              obtain ⟨D, hD⟩ : ∃ D, D = decide (BX = BY) := ⟨_, rfl⟩
              have HDB : Hid (decide (BX = BY) = D) := Lib.hid hD.symm
              have HDF : Hid (decide (l = m) = D) := Lib.hid (by
                rw [hD, HFX.out.2.2, HFY.out.2]
                exact decide_eq_decide.2 (dir_apart HOL.out HOM.out HFX0.out hfy).symm)
              clear hD hfy
              obtain ⟨p0, p1, -⟩ := (H12.out _ (Below.refl _ _)).1.2.1.two
              obtain ⟨q0, q1, -⟩ := (H12.out _ (Below.refl _ _)).2.1.two
              go_wp2_with fail
              refine (bytes_any w11 _ _ A1 A2 n1 n2 c1 c2 BX BY (H12.out _ (Below.refl _ _)).1.2.2 (H12.out _ (Below.refl _ _)).2.2 (by have := HN1'.out; omega) (by have := HN2'.out; omega)).mono ?_
              rintro e w12 ⟨rfl, j12, hj12⟩
              rw [HDB.out]
              have HN12 := Lib.hid ((H12.out _ (drewN_below hj12)).1.1)
              clear hj12 p0 p1 q0 q1
              go_wp2_with fail
              refine (nd_same w12 _ _ AL AM nl cl nm cm l m HN12.out.hl HN12.out.hm (by omega)).mono ?_
              rintro e w13 ⟨rfl, hb13⟩
              rw [HDF.out]
              have HN13 := Lib.hid (HN12.out.after hb13)
              clear hb13
              cases D with
              | true =>
                go_wp2_with fail
                go_meet
                exact HN13
              | false =>
                go_wp2_with fail
                go_meet
                exact HN13
            · have hfy' : (FY == 0) = false := by simpa using hfy
              clear hfy
              go_wp2_with fail
              go_meet
              exact Lib.hid (H12.out _ (Below.refl _ _)).1.1
          · have hfx' : (FX == 0) = false := by simpa using hfx
            clear hfx
            go_wp2_with fail
            go_meet
            exact Lib.hid (H8.out _ (Below.refl _ _)).1.1
        case rest =>
          have HC := hcut
          clear hcut H8 H6 H5 HN1' HN2' HFX HFY HN3
          rename World => W30
          have HC30 : Hid (NB w sx sy k AX AY AL AM AB nx cx ny cy nl cl nm cm nb cb xs ys l m b W30) := HC
          clear HC
          obtain ⟨p0, p1, -⟩ := HC30.out.o.two
          go_wp2_with fail
          refine (nd_oown W30 k AB nb cb).mono ?_
          rintro e w3 ⟨rfl, hb3⟩
          have HN3 := Lib.hid (HC30.out.after hb3)
          clear hb3 p0 p1
          go_wp2_with fail
          refine (nd_getdir w3 _ k AB nb cb b HN3.out.hb (by omega)).mono ?_
          rintro e w4 ⟨A3, n3, c3, rfl, hz, hb4⟩
          have HN4 := Lib.hid (HN3.out.after hb4)
          have HZ := Lib.hid hz
          obtain ⟨F, hF⟩ : ∃ F, F = gdF partB cmpS k b := ⟨_, rfl⟩
          rw [← hF]
          have HF := Lib.hid hF
          clear hz hb4 hF
          by_cases hf : F = 0
          · subst hf
            obtain ⟨L, hL⟩ : ∃ L, L = gdX partB cmpS k b := ⟨_, rfl⟩
            rw [← hL] at HZ
            have HP : Hid (pdF partB cmpS L = 0 ∧ pdK partB cmpS L = k ∧ pdB partB cmpS L = b ∧ ∀ e ∈ L, e.ok) := Lib.hid (by rw [hL]; exact dir_put (gdF_ok HF.out.symm))
            have HN3L : Hid (n3 ≤ 100000) := Lib.hid (by
              have h := HZ.out.len
              have h2 := (pdF_ok HP.out.1).1
              unfold rightD at h2
              simp only [Bool.and_eq_true, decide_eq_true_eq] at h2
              omega)
            clear hL
            go_wp2_with fail
            refine (nd_putdir w4 _ A3 n3 c3 L HZ.out HN3L.out).mono ?_
            rintro e w5 ⟨A5, n5, c5, rfl, hbs5, hn5, hb5⟩
            rw [show pdKE L = k from HP.out.2.1, show pdFE L = 0 from HP.out.1]
            rw [show pdBE L = b from HP.out.2.2.1] at hbs5
            have HN5' := Lib.hid hn5
            obtain ⟨W8, hW8⟩ : ∃ W8, W8 = w5.alloc (.cells #[.int .i64 k, .slice A5 n5 c5] 86) := ⟨_, rfl⟩
            have H8 : Hid (∀ w', Below W8.heap.size W8 w' → NB w sx sy k AX AY AL AM AB nx cx ny cy nl cl nm cm nb cb xs ys l m b w' ∧ Blk w' w5.heap.size 86 #[.int .i64 k, .slice A5 n5 c5] ∧ Bs w' AnyB A5 n5 c5 b) := Lib.hid fun w' hb => by
              have hs8 : W8.heap.size = w5.heap.size + 1 := by rw [hW8]; simp
              have h0 : Below w5.heap.size w5 W8 := by rw [hW8]; exact (Below.refl _ _).alloc (Nat.le_refl _) _
              have h1 := h0.trans (hb.mono h0.size)
              exact ⟨(HN4.out.after hb5).after h1, Blk.below (by rw [hW8]; exact Blk.new w5 86 _) hb (by omega), (hbs5.any).after h1⟩
            clear hb5 hbs5 hn5
            go_wp2_with fail
            rw [← hW8]
            clear hW8
            refine wp_region_held_drew (S := fun w' => Hid (Below W8.heap.size W8 w')) (by kernel_rfl) (Lib.hid (Below.refl _ _).drew) (fun hHeld => ?_)
            refine wpAnyH_take (i := 0) (oi := { dst := some 141, op := Op.move (Operand.tmp 24), type := 28, pos := "law.go:129", after := #[], guard := none }) (v := ?vC0) rfl (by kernel_rfl) (by kernel_rfl) (by kernel_rfl) (fun _ _ _ h => h) (Or.inl ⟨by rfl, ?hyC0⟩) hHeld ?restC0
            case hyC0 => (intro w hSw; go_simp; try with_reducible rfl)
            try simp only [Act.put, List.setIfInBounds_toArray, List.set_cons_zero, List.set_cons_succ]
            refine wpAnyH_take (i := 1) (oi := { dst := some 142, op := Op.binOp BinOp.eql 28 (Operand.tmp 141) (Operand.const (Value.int IntKind.i64 0)) 28, type := 4, pos := "law.go:129", after := #[{ on := 0, ground := Ground.data }], guard := none }) (v := ?vC1) rfl (by kernel_rfl) (by kernel_rfl) (by kernel_rfl) (fun _ _ _ h => h) (Or.inl ⟨by rfl, ?hyC1⟩) hHeld ?restC1
            case hyC1 => (intro w hSw; go_simp; try with_reducible rfl)
            try simp only [Act.put, List.setIfInBounds_toArray, List.set_cons_zero, List.set_cons_succ]
            refine wpAnyH_take (i := 2) (oi := { dst := some 143, op := Op.move (Operand.tmp 142), type := 4, pos := "law.go:129", after := #[{ on := 1, ground := Ground.data }], guard := none }) (v := ?vC2) rfl (by kernel_rfl) (by kernel_rfl) (by kernel_rfl) (fun _ _ _ h => h) (Or.inl ⟨by rfl, ?hyC2⟩) hHeld ?restC2
            case hyC2 => (intro w hSw; go_simp; try with_reducible rfl)
            try simp only [Act.put, List.setIfInBounds_toArray, List.set_cons_zero, List.set_cons_succ]
            refine wpAnyH_take (i := 3) (oi := { dst := some 144, op := Op.load 86 (Operand.tmp 23), type := 86, pos := "law.go:129", after := #[{ on := 2, ground := Ground.guard }], guard := some (2, true) }) (v := ?vC3) rfl (by kernel_rfl) (by kernel_rfl) (by kernel_rfl) (fun _ _ _ h => h) (Or.inl ⟨by rfl, ?hyC3⟩) hHeld ?restC3
            case hyC3 => (intro w hSw; obtain ⟨c0, c1, -⟩ := ((H8.out _ (Hid.out hSw)).2.1).two; go_simp; try with_reducible rfl)
            try simp only [Act.put, List.setIfInBounds_toArray, List.set_cons_zero, List.set_cons_succ]
            refine wpAnyH_take (i := 5) (oi := { dst := some 146, op := Op.load 84 (Operand.tmp 9), type := 84, pos := "law.go:129", after := #[{ on := 2, ground := Ground.guard }], guard := some (2, true) }) (v := ?vC5) rfl (by kernel_rfl) (by kernel_rfl) (by kernel_rfl) (fun _ _ _ h => h) (Or.inl ⟨by rfl, ?hyC5⟩) hHeld ?restC5
            case hyC5 => (intro w hSw; obtain ⟨c0, c1, -⟩ := ((H8.out _ (Hid.out hSw)).1.o).two; go_simp; try with_reducible rfl)
            try simp only [Act.put, List.setIfInBounds_toArray, List.set_cons_zero, List.set_cons_succ]
            refine wpAnyH_ready (rs := [4]) (by kernel_rfl) (by simp) ?_
            refine AllReadyH.cons (o := { dst := some 145, op := Op.call { callee := Callee.value (Operand.func 64), args := #[Operand.tmp 144], argTypes := #[86] }, type := 84, pos := "law.go:129", after := #[{ on := 3, ground := Ground.data }, { on := 2, ground := Ground.chain }, { on := 2, ground := Ground.guard }], guard := some (2, true) }) rfl (fun K hK => ?_) AllReadyH.nil
            go_simp
            refine (nd_oback _ k A5 n5 c5).mono ?_; rintro e wq4 ⟨rfl, hq4⟩; have HQ4 := Lib.hid hq4; clear hq4
            refine hK.out _ _ ((Lib.hid ((Hid.out hHeld).trans (HQ4.out.mono (Hid.out hHeld).size)))) (fun hHeld => ?_)
            clear hK K
            try simp only [Act.put, List.setIfInBounds_toArray, List.set_cons_zero, List.set_cons_succ]
            refine wpAnyH_ready (rs := [6]) (by kernel_rfl) (by simp) ?_
            refine AllReadyH.cons (o := { dst := some 147, op := Op.call { callee := Callee.value (Operand.func 63), args := #[Operand.tmp 145, Operand.tmp 146], argTypes := #[84, 84] }, type := 4, pos := "law.go:129", after := #[{ on := 4, ground := Ground.data }, { on := 5, ground := Ground.data }, { on := 4, ground := Ground.chain }, { on := 2, ground := Ground.guard }], guard := some (2, true) }) rfl (fun K hK => ?_) AllReadyH.nil
            go_simp
            refine (nd_sameobj _ _ _ k k A5 AB n5 c5 nb cb b b (H8.out _ (Hid.out hHeld)).2.2 (H8.out _ (Hid.out hHeld)).1.hb (by have := HN5'.out; omega) (by omega)).mono ?_; rintro e wq6 ⟨rfl, hq6⟩; rw [decide_eq_true (⟨rfl, rfl⟩ : k = k ∧ b = b)]; have HQ6 := Lib.hid hq6; clear hq6
            refine hK.out _ _ ((Lib.hid ((Hid.out hHeld).trans (HQ6.out.mono (Hid.out hHeld).size)))) (fun hHeld => ?_)
            clear hK K
            try simp only [Act.put, List.setIfInBounds_toArray, List.set_cons_zero, List.set_cons_succ]
            refine wpAnyH_take (i := 7) (oi := { dst := some 148, op := Op.pick (Operand.tmp 143) (Operand.tmp 147) (Operand.const (Value.bool false)), type := 4, pos := "law.go:129", after := #[{ on := 2, ground := Ground.data }, { on := 6, ground := Ground.data }], guard := none }) (v := ?vC7) rfl (by kernel_rfl) (by kernel_rfl) (by kernel_rfl) (fun _ _ _ h => h) (Or.inl ⟨by rfl, ?hyC7⟩) hHeld ?restC7
            case hyC7 => (intro w hSw; go_simp; try with_reducible rfl)
            try simp only [Act.put, List.setIfInBounds_toArray, List.set_cons_zero, List.set_cons_succ]
            refine wpAnyH_take (i := 8) (oi := { dst := some 149, op := Op.move (Operand.tmp 148), type := 4, pos := "law.go:129", after := #[{ on := 7, ground := Ground.data }, { on := 6, ground := Ground.chain }], guard := none }) (v := ?vC8) rfl (by kernel_rfl) (by kernel_rfl) (by kernel_rfl) (fun _ _ _ h => h) (Or.inl ⟨by rfl, ?hyC8⟩) hHeld ?restC8
            case hyC8 => (intro w hSw; go_simp; try with_reducible rfl)
            try simp only [Act.put, List.setIfInBounds_toArray, List.set_cons_zero, List.set_cons_succ]
            refine wpAnyH_ready (rs := [9]) (by kernel_rfl) (by simp) ?_
            refine AllReadyH.cons (o := { dst := some 150, op := Op.call { callee := Callee.value (Operand.func 51), args := #[], argTypes := #[] }, type := 4, pos := "law.go:129", after := #[{ on := 8, ground := Ground.chain }, { on := 8, ground := Ground.guard }], guard := some (8, true) }) rfl (fun K hK => ?_) AllReadyH.nil
            go_simp
            refine (nd_alive _).mono ?_; rintro e wq9 ⟨rfl, hq9⟩; have HQ9 := Lib.hid hq9; clear hq9
            refine hK.out _ _ ((Lib.hid ((Hid.out hHeld).trans (HQ9.out.mono (Hid.out hHeld).size)))) (fun hHeld => ?_)
            clear hK K
            try simp only [Act.put, List.setIfInBounds_toArray, List.set_cons_zero, List.set_cons_succ]
            refine wpAnyH_take (i := 10) (oi := { dst := some 151, op := Op.pick (Operand.tmp 149) (Operand.tmp 150) (Operand.const (Value.bool false)), type := 4, pos := "law.go:129", after := #[{ on := 8, ground := Ground.data }, { on := 9, ground := Ground.data }], guard := none }) (v := ?vC10) rfl (by kernel_rfl) (by kernel_rfl) (by kernel_rfl) (fun _ _ _ h => h) (Or.inl ⟨by rfl, ?hyC10⟩) hHeld ?restC10
            case hyC10 => (intro w hSw; go_simp; try with_reducible rfl)
            try simp only [Act.put, List.setIfInBounds_toArray, List.set_cons_zero, List.set_cons_succ]
            refine wpAnyH_take (i := 11) (oi := { dst := some 10, op := Op.assign (Operand.tmp 151), type := 4, pos := "law.go:129", after := #[{ on := 10, ground := Ground.data }, { on := 9, ground := Ground.chain }, { on := 0, ground := Ground.phase }, { on := 1, ground := Ground.phase }, { on := 2, ground := Ground.phase }, { on := 3, ground := Ground.phase }, { on := 4, ground := Ground.phase }, { on := 5, ground := Ground.phase }, { on := 6, ground := Ground.phase }, { on := 7, ground := Ground.phase }, { on := 8, ground := Ground.phase }, { on := 9, ground := Ground.phase }, { on := 10, ground := Ground.phase }], guard := none }) (v := ?vC11) rfl (by kernel_rfl) (by kernel_rfl) (by kernel_rfl) (fun _ _ _ h => h) (Or.inl ⟨by rfl, ?hyC11⟩) hHeld ?restC11
            case hyC11 => (intro w hSw; go_simp; try with_reducible rfl)
            try simp only [Act.put, List.setIfInBounds_toArray, List.set_cons_zero, List.set_cons_succ]
            refine wpAnyH_done (by kernel_rfl) ?_ _
            go_wp2_with fail
            go_ret
            exact ⟨rfl, (H8.out _ (Hid.out hHeld)).1.bel⟩
          · have hf' : (F == 0) = false := by simpa using hf
            clear hf HZ
            obtain ⟨p0, p1, -⟩ := HN4.out.o.two
            go_wp2_with fail
            refine (nd_oown w4 k AB nb cb).mono ?_
            rintro e w5 ⟨rfl, hb5⟩
            have HN5 := Lib.hid (HN4.out.after hb5)
            clear hb5 p0 p1
            go_wp2_with fail
            refine (nd_getfile w5 _ k AB nb cb b HN5.out.hb (by omega)).mono ?_
            rintro e w6 ⟨A6, n6, c6, rfl, hz, hb6⟩
            obtain ⟨G, hG⟩ : ∃ G, G = gfF k b := ⟨_, rfl⟩
            obtain ⟨X, hX⟩ : ∃ X, X = gfX k b := ⟨_, rfl⟩
            rw [← hG, ← hX]
            rw [← hX] at hz
            have HG := Lib.hid hG
            have HXX := Lib.hid hX
            obtain ⟨W7, hW7⟩ : ∃ W7, W7 = w6.alloc (.cells #[.int .i64 X.size, .slice A6 n6 c6] 89) := ⟨_, rfl⟩
            have H7 : Hid (∀ w', Below W7.heap.size W7 w' → NB w sx sy k AX AY AL AM AB nx cx ny cy nl cl nm cm nb cb xs ys l m b w' ∧ Blk w' w6.heap.size 89 #[.int .i64 X.size, .slice A6 n6 c6] ∧ Hs w' AnyB A6 n6 c6 X.hs) := Lib.hid fun w' hb => by
              have hs8 : W7.heap.size = w6.heap.size + 1 := by rw [hW7]; simp
              have h0 : Below w6.heap.size w6 W7 := by rw [hW7]; exact (Below.refl _ _).alloc (Nat.le_refl _) _
              have h1 := h0.trans (hb.mono h0.size)
              exact ⟨(HN5.out.after hb6).after h1, Blk.below (by rw [hW7]; exact Blk.new w6 89 _) hb (by omega), (hz.any).after (by omega) h1⟩
            clear hz hb6 hG hX
            by_cases hg : G = 0
            · subst hg
              have HP : Hid (pfF X = 0 ∧ pfK X = k ∧ pfB X = b ∧ X.ok) := Lib.hid (by rw [HXX.out]; exact file_put (gfF_ok HG.out.symm))
              have HN6 : Hid (n6 ≤ 100000) := Lib.hid (by
                have h := (H7.out _ (Below.refl _ _)).2.2.len
                have h2 := (pfF_ok HP.out.1).1
                simp only [rightF, decide_eq_true_eq] at h2
                omega)
              obtain ⟨p0, p1, -⟩ := (H7.out _ (Below.refl _ _)).2.1.two
              rw [hW7] at p0 p1
              go_wp2_with fail
              rw [← hW7]
              clear hW7
              refine (nd_putfile W7 _ X.size A6 n6 c6 X.hs (H7.out _ (Below.refl _ _)).2.2 HN6.out).mono ?_
              rintro e w8 ⟨A5, n5, c5, rfl, hbs5, hn5, hb5⟩
              rw [show pfK ⟨X.size, X.hs⟩ = k from HP.out.2.1, show pfF ⟨X.size, X.hs⟩ = 0 from HP.out.1]
              rw [show pfB ⟨X.size, X.hs⟩ = b from HP.out.2.2.1] at hbs5
              have HN5' := Lib.hid hn5
              obtain ⟨W8, hW8⟩ : ∃ W8, W8 = w8.alloc (.cells #[.int .i64 k, .slice A5 n5 c5] 86) := ⟨_, rfl⟩
              have H8 : Hid (∀ w', Below W8.heap.size W8 w' → NB w sx sy k AX AY AL AM AB nx cx ny cy nl cl nm cm nb cb xs ys l m b w' ∧ Blk w' w8.heap.size 86 #[.int .i64 k, .slice A5 n5 c5] ∧ Bs w' AnyB A5 n5 c5 b) := Lib.hid fun w' hb => by
                have hs8 : W8.heap.size = w8.heap.size + 1 := by rw [hW8]; simp
                have h0 : Below w8.heap.size w8 W8 := by rw [hW8]; exact (Below.refl _ _).alloc (Nat.le_refl _) _
                have h1 := h0.trans (hb.mono h0.size)
                exact ⟨(H7.out w' (hb5.trans (h1.mono hb5.size))).1, Blk.below (by rw [hW8]; exact Blk.new w8 86 _) hb (by omega), (hbs5.any).after h1⟩
              clear hb5 hbs5 hn5 p0 p1
              go_wp2_with fail
              rw [← hW8]
              clear hW8
              refine wp_region_held_drew (S := fun w' => Hid (Below W8.heap.size W8 w')) (by kernel_rfl) (Lib.hid (Below.refl _ _).drew) (fun hHeld => ?_)
              refine wpAnyH_take (i := 0) (oi := { dst := some 165, op := Op.move (Operand.tmp 28), type := 28, pos := "law.go:133", after := #[], guard := none }) (v := ?vD0) rfl (by kernel_rfl) (by kernel_rfl) (by kernel_rfl) (fun _ _ _ h => h) (Or.inl ⟨by rfl, ?hyD0⟩) hHeld ?restD0
              case hyD0 => (intro w hSw; go_simp; try with_reducible rfl)
              try simp only [Act.put, List.setIfInBounds_toArray, List.set_cons_zero, List.set_cons_succ]
              refine wpAnyH_take (i := 1) (oi := { dst := some 166, op := Op.binOp BinOp.eql 28 (Operand.tmp 165) (Operand.const (Value.int IntKind.i64 0)) 28, type := 4, pos := "law.go:133", after := #[{ on := 0, ground := Ground.data }], guard := none }) (v := ?vD1) rfl (by kernel_rfl) (by kernel_rfl) (by kernel_rfl) (fun _ _ _ h => h) (Or.inl ⟨by rfl, ?hyD1⟩) hHeld ?restD1
              case hyD1 => (intro w hSw; go_simp; try with_reducible rfl)
              try simp only [Act.put, List.setIfInBounds_toArray, List.set_cons_zero, List.set_cons_succ]
              refine wpAnyH_take (i := 2) (oi := { dst := some 167, op := Op.move (Operand.tmp 166), type := 4, pos := "law.go:133", after := #[{ on := 1, ground := Ground.data }], guard := none }) (v := ?vD2) rfl (by kernel_rfl) (by kernel_rfl) (by kernel_rfl) (fun _ _ _ h => h) (Or.inl ⟨by rfl, ?hyD2⟩) hHeld ?restD2
              case hyD2 => (intro w hSw; go_simp; try with_reducible rfl)
              try simp only [Act.put, List.setIfInBounds_toArray, List.set_cons_zero, List.set_cons_succ]
              refine wpAnyH_take (i := 3) (oi := { dst := some 168, op := Op.load 86 (Operand.tmp 27), type := 86, pos := "law.go:133", after := #[{ on := 2, ground := Ground.guard }], guard := some (2, true) }) (v := ?vD3) rfl (by kernel_rfl) (by kernel_rfl) (by kernel_rfl) (fun _ _ _ h => h) (Or.inl ⟨by rfl, ?hyD3⟩) hHeld ?restD3
              case hyD3 => (intro w hSw; obtain ⟨c0, c1, -⟩ := ((H8.out _ (Hid.out hSw)).2.1).two; go_simp; try with_reducible rfl)
              try simp only [Act.put, List.setIfInBounds_toArray, List.set_cons_zero, List.set_cons_succ]
              refine wpAnyH_take (i := 5) (oi := { dst := some 170, op := Op.load 84 (Operand.tmp 9), type := 84, pos := "law.go:133", after := #[{ on := 2, ground := Ground.guard }], guard := some (2, true) }) (v := ?vD5) rfl (by kernel_rfl) (by kernel_rfl) (by kernel_rfl) (fun _ _ _ h => h) (Or.inl ⟨by rfl, ?hyD5⟩) hHeld ?restD5
              case hyD5 => (intro w hSw; obtain ⟨c0, c1, -⟩ := ((H8.out _ (Hid.out hSw)).1.o).two; go_simp; try with_reducible rfl)
              try simp only [Act.put, List.setIfInBounds_toArray, List.set_cons_zero, List.set_cons_succ]
              refine wpAnyH_ready (rs := [4]) (by kernel_rfl) (by simp) ?_
              refine AllReadyH.cons (o := { dst := some 169, op := Op.call { callee := Callee.value (Operand.func 64), args := #[Operand.tmp 168], argTypes := #[86] }, type := 84, pos := "law.go:133", after := #[{ on := 3, ground := Ground.data }, { on := 2, ground := Ground.chain }, { on := 2, ground := Ground.guard }], guard := some (2, true) }) rfl (fun K hK => ?_) AllReadyH.nil
              go_simp
              refine (nd_oback _ k A5 n5 c5).mono ?_; rintro e wq4 ⟨rfl, hq4⟩; have HQ4 := Lib.hid hq4; clear hq4
              refine hK.out _ _ ((Lib.hid ((Hid.out hHeld).trans (HQ4.out.mono (Hid.out hHeld).size)))) (fun hHeld => ?_)
              clear hK K
              try simp only [Act.put, List.setIfInBounds_toArray, List.set_cons_zero, List.set_cons_succ]
              refine wpAnyH_ready (rs := [6]) (by kernel_rfl) (by simp) ?_
              refine AllReadyH.cons (o := { dst := some 171, op := Op.call { callee := Callee.value (Operand.func 63), args := #[Operand.tmp 169, Operand.tmp 170], argTypes := #[84, 84] }, type := 4, pos := "law.go:133", after := #[{ on := 4, ground := Ground.data }, { on := 5, ground := Ground.data }, { on := 4, ground := Ground.chain }, { on := 2, ground := Ground.guard }], guard := some (2, true) }) rfl (fun K hK => ?_) AllReadyH.nil
              go_simp
              refine (nd_sameobj _ _ _ k k A5 AB n5 c5 nb cb b b (H8.out _ (Hid.out hHeld)).2.2 (H8.out _ (Hid.out hHeld)).1.hb (by have := HN5'.out; omega) (by omega)).mono ?_; rintro e wq6 ⟨rfl, hq6⟩; rw [decide_eq_true (⟨rfl, rfl⟩ : k = k ∧ b = b)]; have HQ6 := Lib.hid hq6; clear hq6
              refine hK.out _ _ ((Lib.hid ((Hid.out hHeld).trans (HQ6.out.mono (Hid.out hHeld).size)))) (fun hHeld => ?_)
              clear hK K
              try simp only [Act.put, List.setIfInBounds_toArray, List.set_cons_zero, List.set_cons_succ]
              refine wpAnyH_take (i := 7) (oi := { dst := some 172, op := Op.pick (Operand.tmp 167) (Operand.tmp 171) (Operand.const (Value.bool false)), type := 4, pos := "law.go:133", after := #[{ on := 2, ground := Ground.data }, { on := 6, ground := Ground.data }], guard := none }) (v := ?vD7) rfl (by kernel_rfl) (by kernel_rfl) (by kernel_rfl) (fun _ _ _ h => h) (Or.inl ⟨by rfl, ?hyD7⟩) hHeld ?restD7
              case hyD7 => (intro w hSw; go_simp; try with_reducible rfl)
              try simp only [Act.put, List.setIfInBounds_toArray, List.set_cons_zero, List.set_cons_succ]
              refine wpAnyH_take (i := 8) (oi := { dst := some 173, op := Op.move (Operand.tmp 172), type := 4, pos := "law.go:133", after := #[{ on := 7, ground := Ground.data }, { on := 6, ground := Ground.chain }], guard := none }) (v := ?vD8) rfl (by kernel_rfl) (by kernel_rfl) (by kernel_rfl) (fun _ _ _ h => h) (Or.inl ⟨by rfl, ?hyD8⟩) hHeld ?restD8
              case hyD8 => (intro w hSw; go_simp; try with_reducible rfl)
              try simp only [Act.put, List.setIfInBounds_toArray, List.set_cons_zero, List.set_cons_succ]
              refine wpAnyH_ready (rs := [9]) (by kernel_rfl) (by simp) ?_
              refine AllReadyH.cons (o := { dst := some 174, op := Op.call { callee := Callee.value (Operand.func 51), args := #[], argTypes := #[] }, type := 4, pos := "law.go:133", after := #[{ on := 8, ground := Ground.chain }, { on := 8, ground := Ground.guard }], guard := some (8, true) }) rfl (fun K hK => ?_) AllReadyH.nil
              go_simp
              refine (nd_alive _).mono ?_; rintro e wq9 ⟨rfl, hq9⟩; have HQ9 := Lib.hid hq9; clear hq9
              refine hK.out _ _ ((Lib.hid ((Hid.out hHeld).trans (HQ9.out.mono (Hid.out hHeld).size)))) (fun hHeld => ?_)
              clear hK K
              try simp only [Act.put, List.setIfInBounds_toArray, List.set_cons_zero, List.set_cons_succ]
              refine wpAnyH_take (i := 10) (oi := { dst := some 175, op := Op.pick (Operand.tmp 173) (Operand.tmp 174) (Operand.const (Value.bool false)), type := 4, pos := "law.go:133", after := #[{ on := 8, ground := Ground.data }, { on := 9, ground := Ground.data }], guard := none }) (v := ?vD10) rfl (by kernel_rfl) (by kernel_rfl) (by kernel_rfl) (fun _ _ _ h => h) (Or.inl ⟨by rfl, ?hyD10⟩) hHeld ?restD10
              case hyD10 => (intro w hSw; go_simp; try with_reducible rfl)
              try simp only [Act.put, List.setIfInBounds_toArray, List.set_cons_zero, List.set_cons_succ]
              refine wpAnyH_take (i := 11) (oi := { dst := some 10, op := Op.assign (Operand.tmp 175), type := 4, pos := "law.go:133", after := #[{ on := 10, ground := Ground.data }, { on := 9, ground := Ground.chain }, { on := 0, ground := Ground.phase }, { on := 1, ground := Ground.phase }, { on := 2, ground := Ground.phase }, { on := 3, ground := Ground.phase }, { on := 4, ground := Ground.phase }, { on := 5, ground := Ground.phase }, { on := 6, ground := Ground.phase }, { on := 7, ground := Ground.phase }, { on := 8, ground := Ground.phase }, { on := 9, ground := Ground.phase }, { on := 10, ground := Ground.phase }], guard := none }) (v := ?vD11) rfl (by kernel_rfl) (by kernel_rfl) (by kernel_rfl) (fun _ _ _ h => h) (Or.inl ⟨by rfl, ?hyD11⟩) hHeld ?restD11
              case hyD11 => (intro w hSw; go_simp; try with_reducible rfl)
              try simp only [Act.put, List.setIfInBounds_toArray, List.set_cons_zero, List.set_cons_succ]
              refine wpAnyH_done (by kernel_rfl) ?_ _
              go_wp2_with fail
              go_ret
              exact ⟨rfl, (H8.out _ (Hid.out hHeld)).1.bel⟩
            · have hg' : (G == 0) = false := by simpa using hg
              clear hg
              have HN7 := Lib.hid (H7.out _ (Below.refl _ _)).1
              go_wp2_with fail
              rw [← hW7]
              clear hW7
              refine (nd_alive W7).mono ?_
              rintro e w8 ⟨rfl, hb8⟩
              have HB8 := Lib.hid (HN7.out.bel.trans (hb8.mono HN7.out.bel.size))
              clear hb8
              go_wp2_with fail
              go_ret
              exact ⟨rfl, HB8.out⟩
    | false =>
      go_wp2_with fail
      refine (nd_alive w2).mono ?_
      rintro e w3 ⟨rfl, hb3⟩
      have HB3 := Lib.hid (HN2.out.bel.trans (hb3.mono HN2.out.bel.size))
      clear hb3
      go_wp2_with fail
      go_ret
      exact ⟨rfl, HB3.out⟩
  | false =>
    go_wp2_with fail
    refine (nd_alive w1).mono ?_
    rintro e w3 ⟨rfl, hb3⟩
    have HB3 := Lib.hid (HN1.out.bel.trans (hb3.mono HN1.out.bel.size))
    clear hb3
    go_wp2_with fail
    go_ret
    exact ⟨rfl, HB3.out⟩
end Go.Proofs.Ytaebmhbggbpnoaa
