/- The walks of Split and Cut (chunker). Conditions: each theorem's premises. -/
import Derived.Test.YtognkonncfjneaaDoorCh4
import Derived.Deep.RegionLaw
namespace Go.Proofs.YtognkonncfjneaaDoor
open Go.RowKit
def SplitEnd (w : World) (r : Ch.Rule) (bs : List UInt8) (e : Ending) (w' : World) : Prop :=
  ∃ v l, e = .returned (.tuple #[v, .int .i64 0]) ∧ Ch.SplitS r bs l ∧ RL w' (fun k => w.heap.size ≤ k) w.heap.size v l ∧ Below w.heap.size w w'
theorem RL.mono {w : World} {T T' : Nat → Prop} {base base' : Nat} {v : Value} {l : List (List UInt8)} (h : RL w T base v l) (hT : ∀ k, T k → T' k) (hb : base' ≤ base) : RL w T' base' v l := by
  obtain ⟨hf, vs, hq, hown, hv⟩ := h
  refine ⟨hf, vs, hq, ⟨hown.1, hown.2.imp id ?_⟩, fun i u x h1 h2 => ?_⟩
  · rintro ⟨g, cap, cur, rfl, hg, r⟩
    exact ⟨g, cap, cur, rfl, by omega, r⟩
  · obtain ⟨A, n, c, e, h3⟩ := hv i u x h1 h2
    exact ⟨A, n, c, e, h3.mono fun k hk => ⟨hT k hk.1, hk.2⟩⟩
theorem sure_few {r : Ch.Rule} {b x : List UInt8} {l : List (List UInt8)} (h : Ch.Sure r b l x) : l.length + x.length ≤ b.length := by
  induction h with
  | stop _ => simp
  | more h _ ih =>
    obtain ⟨h1, h2, _, _⟩ := Ch.cut_some h
    rw [List.length_drop] at ih
    rw [List.length_cons]
    omega
theorem below_undrew {B : Nat} {w w' : World} (h : Below B w.drew w') : Below B w w' := ⟨h.os, h.tape, h.output, h.size, h.block⟩
theorem split_side {w : World} {B : Nat} {v : Value} {l : List (List UInt8)} (h : RL w (fun k => B ≤ k) B v l) (hB : B ≤ w.heap.size) : ∀ k, w.drew.heap.size ≤ k → ∀ {M : Nat}, k < M → B ≤ k ∧ some k ≠ v.ownBlock := by
  obtain ⟨_, vs, _, ho, _⟩ := h
  intro k hk _ _
  have hk' : w.heap.size ≤ k := hk
  exact ⟨by omega, fun e => by have := (ho.lt k e.symm).2; omega⟩
theorem step_append_row {ops : Array Oper} {o : Oper} {a : Act} {K : Act → World → Prop} {Q : Exit → Act → World → Prop} {E : Prop} {w : World} (hgd : o.guard = none) (s x : Operand)
    (ho : o.op = .call { callee := .builtin .append, args := #[s, x], argTypes := #[42, 42] })
    {base : Nat} {v : Value} {n : Nat} {xs : List Value} (hs : a.eval s = v) (hown : w.ownsRow base 23 1 v n xs)
    {S : Nat → Prop} {A A' : Option Addr} {m c n' c' : Nat} (hx : a.eval x = .slice A m c) (hr : Reads w S 1 A m [.slice A' n' c'])
    (hbytes : n + m ≤ 2000000000) (hbase : base ≤ w.heap.size)
    (h : ∀ v' w', w'.ownsRow base 23 1 v' (n + m) (xs ++ [.slice A' n' c']) → w.grownBy w' v.ownBlock → (v'.ownBlock = v.ownBlock ∨ v'.ownBlock = some w.heap.size) → K (a.put o.dst v') w') :
    if Region.wanted o (yielded ops a.tmps) = true then Oper.wp Tryd.prog o a w K Q else E := by
  obtain ⟨i0, hi0, hz0, hz1, hz2⟩ := info_parts Tryd.info23
  exact step_append_any w hgd s x 42 ho base 23 i0 _ 1 24 Tryd.underlying42 hi0 hz0 hz1 hz2 rfl (by omega) v n xs hs hown S A m c _ hx hr (by intro u hu; simp at hu; subst hu; rfl) (by simp only [maxLen]; omega) (by omega) hbase h
set_option maxHeartbeats 1000000 in
theorem split_yes (w : World) (r : Ch.Rule) (S : Nat → Prop) (A : Option Addr) (n c : Nat) (bs : List UInt8) (hx : Bs w S A n c bs) (hn : n ≤ 100000000) (hT : Tab64 w) :
    Calls Tryd.prog 22 #[.agg r.v, .slice A n c] w (SplitEnd w r bs) := by
  have HX := Lib.hid hx.old
  have hlen := hx.len
  obtain ⟨av, hav⟩ : ∃ av, av = 2 ^ r.k := ⟨_, rfl⟩
  have HV : Hid (r.v = #[.int .u64 (r.seed : Int), .int .i64 (r.mn : Int), .int .i64 (av : Int), .int .i64 (r.mx : Int)]) := Lib.hid (by rw [hav]; rfl)
  have HC : Hid (∀ w', Calls Tryd.prog 26 #[.agg r.v] w' fun e w'' => e = .returned (.bool true) ∧ Below w'.heap.size w' w'') := Lib.hid fun w' => cright_yes w' r
  have HN : Hid (∀ w', Below w.heap.size w w' → Calls Tryd.prog 45 #[.agg r.v] w' fun e w'' => e = .returned (.agg (knifeV (w'.heap.size + 2) r)) ∧ Grl w'' (w'.heap.size + 2) r.seed ∧ Below w'.heap.size w' w'') := Lib.hid fun w' hb => knife_any w' r (Tab64.below hT hb)
  rw [HV.out] at HC HN ⊢
  clear hx hT hav HV
  go_enter Tryd.func22, Tryd.ntmps22
  go_wp2_with fail
  obtain ⟨W0, hW0⟩ : ∃ W0, W0 = (w.alloc (.cells #[.int .u64 (r.seed : Int), .int .i64 (r.mn : Int), .int .i64 (av : Int), .int .i64 (r.mx : Int)] 46)).alloc (.cells #[.slice none 0 0] 42) := ⟨_, rfl⟩
  have h0 : Blk W0 w.heap.size 46 #[.int .u64 (r.seed : Int), .int .i64 (r.mn : Int), .int .i64 (av : Int), .int .i64 (r.mx : Int)] ∧ Boxed W0 (w.heap.size + 1) 42 (.slice none 0 0) ∧ Below w.heap.size w W0 := by
    rw [hW0]
    refine ⟨(Blk.new w _ _).alloc _, ?_, ((Below.refl _ w).alloc (Nat.le_refl _) _).alloc (by simp) _⟩
    simpa using Boxed.new (w.alloc (.cells #[.int .u64 (r.seed : Int), .int .i64 (r.mn : Int), .int .i64 (av : Int), .int .i64 (r.mx : Int)] 46)) 42 (.slice none 0 0)
  rw [← hW0]
  have H0 := Lib.hid h0
  clear hW0 h0
  refine (HC.out W0).mono ?_
  rintro e w1 ⟨rfl, hb1⟩
  have h1 : Blk w1 w.heap.size 46 #[.int .u64 (r.seed : Int), .int .i64 (r.mn : Int), .int .i64 (av : Int), .int .i64 (r.mx : Int)] ∧ Boxed w1 (w.heap.size + 1) 42 (.slice none 0 0) ∧ Below w.heap.size w w1 :=
    ⟨H0.out.1.after hb1, boxed_below H0.out.2.1 hb1 H0.out.2.1.lt, H0.out.2.2.trans (hb1.mono H0.out.2.2.size)⟩
  have H1 := Lib.hid h1
  obtain ⟨k0, k1, k2, k3, -⟩ := h1.1.four
  have hl1 := h1.2.1.lt
  clear hb1 h1 H0
  go_wp2_with fail
  refine (HN.out w1 H1.out.2.2).mono ?_
  rintro e w2 ⟨rfl, hg2, hb2⟩
  have hbw2 := H1.out.2.2.trans (hb2.mono H1.out.2.2.size)
  have hE := each47_chunks w2 (w1.heap.size + 2) (w.heap.size + 1) r (Lo w.heap.size) A n c bs hg2 (HX.out.below hbw2) (by omega) (fun k hk => by have : k < w.heap.size := hk; have := hb2.size; omega) (boxed_below H1.out.2.1 hb2 hl1) (by omega)
  have HE := Lib.hid hE
  have HB2 := Lib.hid hbw2
  have hs2 := hb2.size
  clear hg2 hb2 hbw2 hE k0 k1 k2 k3
  go_wp2_with fail
  refine (HE.out).mono ?_
  rintro e w3 ⟨A3, n3, c3, x, v, l, rfl, hsure, hx3, hb3, hl3, -, ho3⟩
  have hs3 := ho3.size
  have hxl := hx3.len
  have hn3 : l.length + n3 ≤ 100000000 := by have := sure_few hsure; omega
  have H3 := Lib.hid (And.intro hx3 (And.intro hb3 (hl3.mono (T' := fun k => w2.heap.size ≤ k) (base' := w2.heap.size) (fun k hk => Nat.le_of_lt hk) (Nat.le_succ _))))
  have HO3 : Hid (Below w.heap.size w w3) := Lib.hid (HB2.out.trans (ho3.below (by omega) (fun k hk => by omega)))
  have HS := Lib.hid hsure
  obtain ⟨Av, cv, hv, hcv⟩ := hl3.shape
  have hf3 := hsure.flat
  subst hv
  clear hsure ho3 HE hl3
  have kc := hb3.cell
  have kf := hb3.frozen
  clear hx3 hb3
  by_cases hz : n3 = 0
  · subst hz
    have hx0 : x = [] := List.eq_nil_of_length_eq_zero hxl
    have HX0 := Lib.hid hx0
    clear hx0 hf3
    go_wp2_with fail
    have hset : Below w.heap.size w3 (w3.setCell ⟨w.heap.size + 1, 0, none⟩ (.slice Av l.length cv)) := (Below.refl _ _).setCell (p := ⟨w.heap.size + 1, 0, none⟩) (Nat.le_succ _) _
    have hO5 : Only (fun k => k = w.heap.size + 1) w3 (w3.setCell ⟨w.heap.size + 1, 0, none⟩ (.slice Av l.length cv)) := (Only.refl (fun k => k = w.heap.size + 1) w3).setCell (p := ⟨w.heap.size + 1, 0, none⟩) (.inl rfl) _
    refine bodyPost_ret (results_cell2 rfl rfl (load42 (H3.out.2.1.set _))) rfl ⟨_, l, rfl, ⟨l, x, HS.out, by rw [HX0.out]; simp [Ch.last]⟩, ?_, HO3.out.trans hset⟩
    exact (H3.out.2.2.but hO5 (fun k hk _ e => by omega) (fun k hk _ e => by omega)).mono (fun k hk => by omega) (by omega)
  · have hpos : 0 < (n3 : Int) := by omega
    have hlf : l.length + 1 ≤ 1000000000 := by omega
    have HLF := Lib.hid hlf
    clear hlf
    go_wp2_with fail
    go_region_law (first | (refine step_append_row rfl (.tmp 18) (.tmp 21) rfl (base := w2.heap.size) (v := .slice Av l.length cv) rfl hown5 rfl hr5 (by have := HLF.out; omega) (by have := hb4.size; simp at this ⊢; omega) ?_; intro v6 w6 hown6 hg6 hat6; go_must ((obtain ⟨A7, c7, rfl, _⟩ := own_shape hown6; have hu6 := (hbx4.alloc (.cells #[.slice A4 n3 c4] 23)).kept hg6 HNE.out; have kc6 := hu6.cell; have kf6 := hu6.frozen))) | (go_simp; go_at_call 48; refine (bclone_any _ (Lo w.heap.size) A3 n3 c3 x H3.out.1.drew (by omega)).mono ?_; rintro e w4 ⟨A4, c4, rfl, hown4, hb4⟩; go_must ((replace hb4 := below_undrew hb4; obtain ⟨A4', c4', e4, hx4⟩ := own_bs hown4; injection e4 with e41 e42 e43; subst e41 e43; have hbx4 := boxed_below H3.out.2.1 hb4 H3.out.2.1.lt; have kc4 := hbx4.cell; have kf4 := hbx4.frozen; have hz4 : w.heap.size + 1 < w4.heap.size := hbx4.lt; obtain ⟨vs, hq, hown5, hv5, hx5, hr5⟩ := H3.out.2.2.ready (e' := 23) hb4 hx4 (fun k hk hlt => split_side H3.out.2.2 hs3 k hk hlt); have HNE : Hid (some (w.heap.size + 1) ≠ (Value.slice Av l.length cv).ownBlock) := Lib.hid (fun e => by have := own_base hown5 _ e.symm; omega)))))
    all_goals
      have hl6 := RL.snoc hq HLF.out hown6 hg6 hat6 hv5 rfl hx5
      have hb4' : Below w3.heap.size w3 w4 := hb4
      have hs4 : w3.heap.size ≤ w4.heap.size := hb4'.size
      have hb6 : Below w.heap.size w3 w6 := ((hb4'.mono (by omega)).alloc (by omega) _).trans ((Below.refl w.heap.size _).grown hg6 (by simp; omega) (fun k e => by have := own_base hown5 k e; omega))
      obtain ⟨W7, hW7⟩ : ∃ W7, W7 = w6.setCell ⟨w.heap.size + 1, 0, none⟩ (.slice A7 (l.length + 1) c7) := ⟨_, rfl⟩
      have HB7 : Hid (Boxed W7 (w.heap.size + 1) 42 (.slice A7 (l.length + 1) c7)) := Lib.hid (by rw [hW7]; exact hu6.set _)
      have HO7 : Hid (Only (fun k => k = w.heap.size + 1) w6 W7) := Lib.hid (by rw [hW7]; exact (Only.refl (fun k => k = w.heap.size + 1) w6).setCell (p := ⟨w.heap.size + 1, 0, none⟩) (.inl rfl) _)
      have HL6 := Lib.hid hl6
      have HB6 : Hid (Below w.heap.size w W7) := Lib.hid (HO3.out.trans (by rw [hW7]; exact hb6.setCell (p := ⟨w.heap.size + 1, 0, none⟩) (Nat.le_succ _) _))
      rw [← hW7]
      have c7' := HB7.out.cell
      have f7 := HB7.out.frozen
      clear hW7 hl6 hb6 hg6 hat6 hown6 hu6 kc6 kf6 hx5 hr5 hv5 hown5 hq kc4 kf4 hbx4 hx4 hb4 hb4' kc kf
      go_wp2_with fail
      have hO8 : Only (fun k => k = w.heap.size + 1) w6 (W7.setCell ⟨w.heap.size + 1, 0, none⟩ (.slice A7 (l.length + 1) c7)) := HO7.out.setCell (p := ⟨w.heap.size + 1, 0, none⟩) (.inl rfl) _
      refine bodyPost_ret (results_cell2 rfl rfl (load42 (HB7.out.set _))) rfl ⟨_, l ++ [x], rfl, ⟨l, x, HS.out, by rw [Ch.last, if_neg (fun e => by rw [e] at hxl; simp at hxl; omega)]⟩, ?_, HB6.out.setCell (p := ⟨w.heap.size + 1, 0, none⟩) (Nat.le_succ _) _⟩
      exact (HL6.out.but hO8 (fun k hk _ e => by omega) (fun k hk _ e => by omega)).mono (fun k hk => by omega) (by omega)
theorem split_no (w : World) (seed : Nat) (mn av mx : Int) (hr : ¬ RRight mn av mx) (A : Option Addr) (n c : Nat) :
    Calls Tryd.prog 22 #[.agg #[.int .u64 (seed : Int), .int .i64 mn, .int .i64 av, .int .i64 mx], .slice A n c] w fun e w' => e = .returned (.tuple #[.slice none 0 0, .int .i64 1]) ∧ Below w.heap.size w w' := by
  have HC : Hid (∀ w', Calls Tryd.prog 26 #[.agg #[.int .u64 (seed : Int), .int .i64 mn, .int .i64 av, .int .i64 mx]] w' fun e w'' => e = .returned (.bool false) ∧ Below w'.heap.size w' w'') := Lib.hid fun w' => cright_no w' seed mn av mx hr
  clear hr
  go_enter Tryd.func22, Tryd.ntmps22
  go_wp2_with fail
  obtain ⟨W0, hW0⟩ : ∃ W0, W0 = (w.alloc (.cells #[.int .u64 (seed : Int), .int .i64 mn, .int .i64 av, .int .i64 mx] 46)).alloc (.cells #[.slice none 0 0] 42) := ⟨_, rfl⟩
  have hb0 : Boxed W0 (w.heap.size + 1) 42 (.slice none 0 0) ∧ Below w.heap.size w W0 := by
    rw [hW0]
    refine ⟨?_, ((Below.refl _ w).alloc (Nat.le_refl _) _).alloc (by simp) _⟩
    simpa using Boxed.new (w.alloc (.cells #[.int .u64 (seed : Int), .int .i64 mn, .int .i64 av, .int .i64 mx] 46)) 42 (.slice none 0 0)
  rw [← hW0]
  have H0 := Lib.hid hb0
  clear hW0 hb0
  refine (HC.out W0).mono ?_
  rintro e w1 ⟨rfl, hb1⟩
  have hbx := boxed_below H0.out.1 hb1 H0.out.1.lt
  have HB1 := Lib.hid (H0.out.2.trans (hb1.mono H0.out.2.size))
  have k0 := hbx.cell
  have f0 := hbx.frozen
  have HBX := Lib.hid hbx
  clear hb1 hbx
  go_wp2_with fail
  exact bodyPost_ret (results_cell2 rfl rfl (load42 (HBX.out.set _))) rfl ⟨rfl, HB1.out.setCell (p := ⟨w.heap.size + 1, 0, none⟩) (Nat.le_succ _) _⟩
end Go.Proofs.YtognkonncfjneaaDoor
