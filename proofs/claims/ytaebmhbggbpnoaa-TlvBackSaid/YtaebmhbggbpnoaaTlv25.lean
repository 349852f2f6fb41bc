/- The walk of the plain answer's form at a list, and of Put (hayloftref01). Conditions: each theorem's premises. -/
import Derived.Test.YtaebmhbggbpnoaaTlv24
namespace Go.Proofs.Ytaebmhbggbpnoaa
open Go.RowKit
theorem putT_stop {d k : Nat} {l : List TV} (h : ∀ x, formsT (putT d) (l.take k) = some x → 65535 < x.length) : putT (d + 1) (.mk 3 0 [] l) = none := by
  refine putT_none ?_
  rw [bodyT_succ]
  split
  · cases hf : formsT (putT d) l with
    | none => rfl
    | some y =>
      obtain ⟨x, h1, h2⟩ := formsT_take hf k
      have := h x h1
      simp only [Option.bind_some, fitT]
      rw [if_neg (by simp; omega)]
  · rfl
theorem putT_full {d : Nat} {l : List TV} {x : List UInt8} (h : formsT (putT d) l = some x) (hx : x.length ≤ 65535) : putT (d + 1) (.mk 3 0 [] l) = some (headT 3 x ++ x) := by
  refine putT_some ?_
  rw [bodyT_succ, if_pos (by simp [onlyT]), h]
  simp [fitT, numE_zero, hx]
set_option maxRecDepth 10000 in
set_option maxHeartbeats 2000000 in
theorem form_three_bad (d : Nat) (hd : d ≤ 1000000) (n : Nat) (b : List UInt8) (l : List TV) (q : Quad) (w : World) (S : Nat → Prop) (h : VR w S q (.mk 3 n b l)) (hbad : onlyT (.mk 3 n b l) = false ∨ d = 0) : Calls Try.prog 97 #[q.agg, .int .i64 (d : Int)] w (FormPost w (putT d (.mk 3 n b l))) := by
  obtain ⟨t, n, b, l, A2, A3, n2, c2, n3, c3, rfl, he, hu, hb, hn2, hl⟩ := h.opens
  cases he
  have HW : Hid (∀ o, Below w.heap.size w (w.alloc o)) := Lib.hid fun o => (Below.refl _ _).alloc (Nat.le_refl _) o
  have hr : putT d (.mk 3 n b l) = none := by
    rcases hbad with h | rfl
    · exact putT_not h
    · exact putT_none (by unfold bodyT; rw [if_neg (fun e => e.2 rfl)])
  rw [hr]
  rw [onlyT_a hb hl] at hbad
  clear hb hl h hu hr
  dsimp only [Quad.agg]
  by_cases h1 : n = 0
  · subst h1
    by_cases h2 : 0 < n2
    · have h2' : (0 : Int) < (n2 : Int) := by omega
      clear hbad
      go_enter Try.func97, Try.ntmps97
      go_wp2_with fail
      go_ret2
      exact ⟨rfl, HW.out _⟩
    · have h2' : ¬ (0 : Int) < (n2 : Int) := by omega
      have h3 : d = 0 := by
        rcases hbad with h | h
        · simp at h; omega
        · exact h
      subst h3
      clear hbad
      go_enter Try.func97, Try.ntmps97
      go_wp2_with fail
      go_ret2
      exact ⟨rfl, HW.out _⟩
  · have h1' : ((n : Int) != 0) = true := by simp; omega
    clear hbad
    go_enter Try.func97, Try.ntmps97
    go_wp2_with fail
    go_ret2
    exact ⟨rfl, HW.out _⟩
set_option maxRecDepth 10000 in
set_option maxHeartbeats 4000000 in
theorem form_three (d : Nat) (hd : d ≤ 1000000) (ih : FormSaid d) (l : List TV) (q : Quad) (w : World) (S : Nat → Prop) (h : VR w S q (.mk 3 0 [] l)) : Calls Try.prog 97 #[q.agg, .int .i64 ((d + 1 : Nat) : Int)] w (FormPost w (putT (d + 1) (.mk 3 0 [] l))) := by
  obtain ⟨t, n, b, l, A2, A3, n2, c2, n3, c3, rfl, he, hu, hb, hn2, hl⟩ := h.opens
  cases he
  have IH := Lib.hid ih
  have hb0 : n2 = 0 := hb.len.symm
  subst hb0
  have hf := hl.few
  obtain ⟨W, hW⟩ : ∃ W, W = w.alloc (.cells #[.int .i64 3, .int .u64 0, .slice A2 0 c2, .slice A3 n3 c3] 33) := ⟨_, rfl⟩
  have hXW : Blk W w.heap.size 33 #[.int .i64 3, .int .u64 0, .slice A2 0 c2, .slice A3 n3 c3] := by rw [hW]; exact Blk.new _ _ _
  have hsz : W.heap.size = w.heap.size + 1 := by rw [hW]; simp
  have hbW : Below w.heap.size w W := by rw [hW]; exact (Below.refl _ _).alloc (Nat.le_refl _) _
  have HXW := Lib.hid hXW
  have HW' := Lib.hid hW
  obtain ⟨r, hr⟩ : ∃ r, r = putT (d + 1) (.mk 3 0 [] l) := ⟨_, rfl⟩
  rw [← hr]
  have HS : Hid (∀ k, (∀ x, formsT (putT d) (l.take k) = some x → 65535 < x.length) → r = none) := Lib.hid fun k h => by rw [hr]; exact putT_stop h
  have HF : Hid (∀ x, formsT (putT d) l = some x → x.length ≤ 65535 → r = some (headT 3 x ++ x)) := Lib.hid fun x h hx => by rw [hr]; exact putT_full h hx
  have D0 : (((d + 1 : Nat) : Int) == 0) = false := by simp; omega
  have D1 : ((d + 1 : Nat) : Int) - 1 = (d : Int) := by omega
  have D2 : ((d + 1 : Nat) : Int) ≤ 1000001 := by omega
  have D3 : (0 : Int) ≤ ((d + 1 : Nat) : Int) := by omega
  generalize ((d + 1 : Nat) : Int) = dd at *
  clear hr hXW hb h hW ih hu hn2
  dsimp only [Quad.agg]
  go_enter Try.func97, Try.ntmps97
  go_wp2_with fail
  have hW := HW'.out
  rw [← hW]
  clear hW HW'
  go_loopw [6, 8] (fun sv iv wr => ∃ (k : Nat) (A : Option Addr) (c : Nat) (ys : List UInt8) (yn : Nat), k ≤ n3 ∧ iv = .int .i64 (k : Int) ∧ sv = .slice A yn c ∧ yn ≤ 140000 ∧ Hid (ys.length = yn ∧ formsT (putT d) (l.take k) = some ys) ∧ Hid (wr.ownsRow (w.heap.size + 1) 5 1 (.slice A yn c) yn (u8s ys)) ∧ Hid (Below (w.heap.size + 1) W wr)) (fun _ iv _ => n3 - (intOf iv).toNat)
  case atStart => exact ⟨0, none, 0, [], 0, Nat.zero_le _, rfl, rfl, by omega, Lib.hid ⟨rfl, rfl⟩, Lib.hid (World.ownsRow_nil _ _ _ _), Lib.hid (Below.refl _ _)⟩
  case round =>
    obtain ⟨k, A, c, ys, yn, hk, rfl, rfl, hyn, hfy, hown, hbr⟩ := hrel
    obtain ⟨z0, z1, z2, z3, -⟩ := (HXW.out.below hbr.out (by omega)).four
    have hsr : w.heap.size + 1 ≤ wr.heap.size := by have := hbr.out.size; omega
    have hbw := hbW.trans (hbr.out.mono (by omega))
    by_cases hlt : k < n3
    · have hlt' : (k : Int) < (n3 : Int) := by omega
      obtain ⟨ad1, p1, q1, v1, rfl, hp1, hv1, hr1, a0, a1, a2, a3, -, -⟩ := (hl.oldS.under (fun k h => h.2) hbw).at_ hlt
      have HC0 := IH.out v1 q1 wr _ hr1
      obtain ⟨u1, m1, x1', y1', P1, P2, i1, i2, i3, i4, rfl, rfl, -⟩ := hr1.opens
      dsimp only [Quad.agg] at HC0
      cases hbt : putT d (.mk u1 m1 x1' y1') with
      | none =>
        rw [hbt] at HC0
        have HC := Lib.hid HC0
        have hr : r = none := HS.out (k + 1) (fun x h => by
          rw [take_snoc hv1.out, formsT_snoc, hbt] at h
          simp at h)
        have HR := Lib.hid hr
        clear HC0 hbt hr hr1
        go_wp2_with fail
        refine (HC.out).mono ?_
        rintro e w2 ⟨rfl, hb2⟩
        go_wp2_with fail
        go_ret2
        rw [HR.out]
        exact ⟨rfl, hbw.trans (hb2.mono hbw.size)⟩
      | some x =>
        rw [hbt] at HC0
        have HC := Lib.hid HC0
        have hxs : formsT (putT d) (l.take (k + 1)) = some (ys ++ x) := by
          rw [take_snoc hv1.out, formsT_snoc, hbt, hfy.out.2]; rfl
        have HX := Lib.hid hxs
        clear HC0 hbt hr1 hxs
        by_cases hov : 65535 < yn
        · have hr : r = none := HS.out k (fun x h => by
            rw [hfy.out.2] at h
            injection h with h
            rw [← h, hfy.out.1]; exact hov)
          have HR := Lib.hid hr
          have hov' : (65535 : Int) < (yn : Int) := by omega
          clear hr hov
          go_wp2_with fail
          refine (HC.out).mono ?_
          rintro e w2 ⟨A1, c1, rfl, hbs, hxl, hb2⟩
          go_wp2_with fail
          go_ret2
          rw [HR.out]
          exact ⟨rfl, hbw.trans (hb2.mono hbw.size)⟩
        · have hov' : ¬ (65535 : Int) < (yn : Int) := by omega
          obtain ⟨xn, hxn⟩ : ∃ xn, x.length = xn := ⟨_, rfl⟩
          go_wp2_with fail
          refine (HC.out).mono ?_
          rintro e w2 ⟨A1, c1, rfl, hbs, hxl, hb2⟩
          rw [hxn] at hbs hxl ⊢
          go_wp2_with (at_builtin; go_must ((refine wpList_append_u8 (A := A1) (m := xn) (c := c1) (ys := x) (v := .slice A yn c) (n := yn) (xs := ys) rfl (.tmp 92) (.tmp 93) rfl rfl (own_below hown.out hb2 (Nat.le_refl _)) rfl hbs (by omega) (by have := hb2.size; omega) ?_; intro v3 w3 hown3 hg3 hat3; obtain ⟨A8, c8, rfl, _⟩ := own_shape hown3)))
          have hrow : ∀ j, (Value.slice A yn c).ownBlock = some j → w.heap.size + 1 ≤ j := fun j hj => (hown.out.lt j hj).1
          have hbw3 : Below (w.heap.size + 1) W w3 := (hbr.out.trans (hb2.mono hsr)).grown hg3 (by have := hb2.size; omega) hrow
          go_roundw
          case rel =>
            refine ⟨_, _, _, _, _, _, _, _, _, _, _, _, _, _, _, _, _, _, _, _, _, _, _, _, _, _, _, _, _, _, _, _, _, _, ?_, rfl⟩
            exact ⟨k + 1, A8, c8, ys ++ x, yn + xn, by omega, by go_num, rfl, by omega, Lib.hid ⟨by simp [hfy.out.1, hxn], HX.out⟩, Lib.hid hown3, Lib.hid hbw3⟩
          case measure => simp [intOf]; omega
    · obtain rfl : k = n3 := by omega
      have hfy2 := hfy.out
      rw [List.take_of_length_le (by rw [hl.len]; exact Nat.le_refl _)] at hfy2
      obtain ⟨hyl, hff⟩ := hfy2
      by_cases hov : 65535 < yn
      · have hr : r = none := HS.out k (fun x h => by
          rw [hfy.out.2] at h
          injection h with h
          rw [← h, hyl]; exact hov)
        have HR := Lib.hid hr
        have hov' : (65535 : Int) < (yn : Int) := by omega
        clear hr hov
        go_wp2_with fail
        go_ret2
        rw [HR.out]
        exact ⟨rfl, hbw⟩
      · have hr := HF.out ys hff (by omega)
        have HR := Lib.hid hr
        have hov' : ¬ (65535 : Int) < (yn : Int) := by omega
        have hle : yn ≤ 65535 := by omega
        clear hr hov hff
        obtain ⟨_, _, he, hbs1⟩ := own_bs hown.out
        cases he
        go_wp2_with (at_builtin; go_must ((refine wpList_append_u8 (A := A) (m := yn) (c := c) (ys := ys) (v := .slice (some ⟨wr.heap.size, 0, none⟩) 3 3) (n := 3) (xs := headT 3 ys) rfl (.tmp 109) (.tmp 110) rfl rfl (own_head wr (w.heap.size + 1) hsr hyl hle (by omega) (by omega)) rfl (hbs1.after ((Below.refl _ _).alloc (Nat.le_refl _) _)) (by omega) (by simp; omega) ?_; intro v2 w2 hown2 hg2 hat2; obtain ⟨A8, c8, rfl, _⟩ := own_shape hown2)))
        go_ret2
        obtain ⟨A9, c9, he, hbs2⟩ := own_bs hown2
        cases he
        rw [HR.out]
        have hlen : (headT 3 ys ++ ys).length = 3 + yn := by simp [headT]; omega
        have hbw2 : Below (w.heap.size + 1) W w2 := (hbr.out.trans ((Below.refl _ wr).alloc hsr _)).grown hg2 (by simp; omega) (by intro k hk; simp [Value.ownBlock] at hk; omega)
        exact ⟨A8, c8, by rw [hlen]; rfl, by rw [hlen]; exact hbs2.mono (fun k hk => by omega), by rw [hlen]; omega, hbW.trans (hbw2.mono (by omega))⟩
theorem form_any (d : Nat) (hd : d ≤ 1000000) : FormSaid d := by
  induction d with
  | zero =>
    intro v q w S h
    obtain ⟨t, n, b, l⟩ := v
    by_cases h1 : t = 1
    · subst h1; exact form_one 0 n b l q w S h
    by_cases h2 : t = 2
    · subst h2; exact form_two 0 n b l q w S h
    by_cases h3 : t = 3
    · subst h3; exact form_three_bad 0 (by omega) n b l q w S h (.inr rfl)
    · exact form_other 0 _ q w S h h1 h2 h3
  | succ d ih =>
    intro v q w S h
    obtain ⟨t, n, b, l⟩ := v
    by_cases h1 : t = 1
    · subst h1; exact form_one (d + 1) n b l q w S h
    by_cases h2 : t = 2
    · subst h2; exact form_two (d + 1) n b l q w S h
    by_cases h3 : t = 3
    · subst h3
      cases ho : onlyT (.mk 3 n b l) with
      | false => exact form_three_bad (d + 1) hd n b l q w S h (.inl ho)
      | true =>
        simp only [onlyT] at ho
        simp at ho
        obtain ⟨rfl, rfl⟩ := ho
        exact form_three d (by omega) (ih (by omega)) l q w S h
    · exact form_other (d + 1) _ q w S h h1 h2 h3
set_option maxRecDepth 10000 in
set_option maxHeartbeats 1000000 in
theorem rput_any (v : TV) (q : Quad) (w : World) (S : Nat → Prop) (h : VR w S q v) : Calls Try.prog 46 #[q.agg] w (PutPost w (putT 8 v)) := by
  have HW : Hid (∀ o, Below w.heap.size w (w.alloc o)) := Lib.hid fun o => (Below.refl _ _).alloc (Nat.le_refl _) o
  have K := fun o => form_any 8 (by omega) v q (w.alloc o) S (h.after (HW.out _))
  obtain ⟨t, n, b, l, A2, A3, n2, c2, n3, c3, rfl, rfl, -⟩ := h.opens
  dsimp only [Quad.agg] at K ⊢
  clear h
  cases hi : putT 8 (.mk t n b l) with
  | none =>
    rw [hi] at K
    have HK := Lib.hid K
    clear K hi
    go_enter Try.func46, Try.ntmps46
    go_wp2_with fail
    refine (HK.out _).mono ?_
    rintro e w1 ⟨rfl, hbw⟩
    go_wp2_with fail
    go_ret2
    exact ⟨rfl, (HW.out _).trans (hbw.mono (by simp))⟩
  | some x =>
    rw [hi] at K
    have HK := Lib.hid K
    clear K hi
    go_enter Try.func46, Try.ntmps46
    go_wp2_with fail
    refine (HK.out _).mono ?_
    rintro e w1 ⟨A1, c1, rfl, hbs, hxl, hbw⟩
    go_wp2_with fail
    go_ret2
    exact ⟨A1, c1, rfl, hbs.mono (fun k hk => by simp at hk; omega), hxl, (HW.out _).trans (hbw.mono (by simp))⟩
end Go.Proofs.Ytaebmhbggbpnoaa
