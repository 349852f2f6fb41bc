/- The walks of the reference's Split and Sure. Conditions: each theorem's premises. -/
import Derived.Test.YtognkonncfjneaaDoorCh8
namespace Go.Proofs.YtognkonncfjneaaDoor
open Go.RowKit
def RSplitEnd (w : World) (r : Ch.Rule) (bs : List UInt8) (e : Ending) (w' : World) : Prop :=
  ∃ v l, e = .returned (.tuple #[v, .int .i64 0]) ∧ Ch.SplitS r bs l ∧ RL w' (Lo w.heap.size) w.heap.size v l ∧ Below w.heap.size w w'
def RSureEnd (w : World) (r : Ch.Rule) (bs : List UInt8) (e : Ending) (w' : World) : Prop :=
  ∃ v l A n c x, e = .returned (.tuple #[v, .slice A n c]) ∧ Ch.Sure r bs l x ∧ RL w' (Lo w.heap.size) w.heap.size v l ∧ Bs w' (Lo w.heap.size) A n c x ∧ Below w.heap.size w w'
theorem split_step {r : Ch.Rule} {x : List UInt8} (hx : x ≠ []) : 1 ≤ cutN r x ∧ cutN r x ≤ x.length ∧ ∀ m, Ch.SplitS r (x.drop (cutN r x)) m → Ch.SplitS r x (x.take (cutN r x) :: m) := by
  unfold cutN
  cases hc : Ch.cutS r x with
  | none =>
    rw [Option.getD_none]
    refine ⟨List.length_pos_iff.2 hx, Nat.le_refl _, fun m hm => ?_⟩
    rw [List.drop_length] at hm
    rw [hm.nil_eq, List.take_length]
    exact .rest hc hx
  | some j =>
    obtain ⟨h1, h2, _, _⟩ := Ch.cut_some hc
    exact ⟨h1, h2, fun m hm => .more hc hm⟩
theorem from_any {A : Option Addr} {n c j n' : Nat} (hn : j + n' = n) : ∃ A7 c7, (∀ W, (Instr.sliceAt 23 (.slice A n c) (some (.int .i64 (j : Int))) none none).run Tryd.prog W = .ok (.slice A7 n' c7) W) ∧ ∀ (W : World) (S : Nat → Prop) (x : List UInt8), Bs W S A n c x → Bs W S A7 n' c7 (x.drop j) := by
  obtain ⟨i0, hi0, _, hz1, _⟩ := info_parts Tryd.info5
  refine ⟨_, _, run_cut_from Tryd.underlying23 hi0 hz1 A n c (j : Int) j n' rfl hn, fun W S x h => ?_⟩
  have h1 := h.drop (k := j) (by omega)
  rw [show n - j = n' from by omega] at h1
  simpa using h1
set_option maxHeartbeats 2000000 in
theorem rsplit_yes (w : World) (r : Ch.Rule) (S : Nat → Prop) (A : Option Addr) (n c : Nat) (bs : List UInt8) (hx : Bs w S A n c bs) (hn : n ≤ 100000000) :
    Calls Tryd.prog 24 #[.agg r.v, .slice A n c] w (RSplitEnd w r bs) := by
  have HX := Lib.hid hx.old
  obtain ⟨av, hav⟩ : ∃ av, av = 2 ^ r.k := ⟨_, rfl⟩
  have HV : Hid (r.v = #[.int .u64 (r.seed : Int), .int .i64 (r.mn : Int), .int .i64 (av : Int), .int .i64 (r.mx : Int)]) := Lib.hid (by rw [hav]; rfl)
  have HC : Hid (∀ w', Calls Tryd.prog 27 #[.agg r.v] w' fun e w'' => e = .returned (.bool true) ∧ Below w'.heap.size w' w'') := Lib.hid fun w' => rright_yes w' r
  have HN : Hid (∀ w' S A n c x, Bs w' S A n c x → n ≤ 100000000 → Calls Tryd.prog 29 #[.agg r.v, .slice A n c] w' fun e w'' => e = .returned (.int .i64 ((cutN r x : Nat) : Int)) ∧ Below w'.heap.size w' w'') := Lib.hid fun w' S A n c x hb hn => rCut_yes w' r S A n c x hb hn
  have h0 : Hid (Blk (w.alloc (.cells r.v 41)) w.heap.size 41 r.v ∧ Below w.heap.size w (w.alloc (.cells r.v 41))) := Lib.hid ⟨Blk.new w _ _, (Below.refl _ w).alloc (Nat.le_refl _) _⟩
  rw [HV.out] at HC HN h0 ⊢
  clear hx hav
  go_enter Tryd.func24, Tryd.ntmps24
  go_wp2_with fail
  refine (HC.out _).mono ?_
  rintro e w1 ⟨rfl, hb1⟩
  have hbw1 := h0.out.2.trans (hb1.mono h0.out.2.size)
  have HE0 : Hid (Sv w r A n c bs (.slice none 0 0) [] n w1) := Lib.hid ⟨hbw1, by rw [HV.out]; exact h0.out.1.after hb1, HX.out.below hbw1, RL.nil _ _ _, by simp⟩
  clear hb1 h0 hbw1
  go_wp2_with fail
  go_loopw [1, 6] (fun v1 v6 wr => ∃ (A1 : Option Addr) (n1 c1 : Nat) (x : List UInt8) (l : List (List UInt8)), v1 = .slice A1 n1 c1 ∧ Hid (Sv w r A1 n1 c1 x v6 l n wr) ∧ Hid (∀ m, Ch.SplitS r x m → Ch.SplitS r bs (l ++ m))) (fun v1 _ _ => match v1 with | .slice _ n1 _ => n1 | _ => 0)
  case atStart => exact ⟨A, n, c, bs, [], rfl, HE0, Lib.hid fun m h => h⟩
  case round =>
    obtain ⟨A1, n1, c1, x, l, rfl, HE, HP⟩ := hrel
    clear HE0
    have hbk := HE.out.bk
    rw [HV.out] at hbk
    obtain ⟨k0, k1, k2, k3, hlt⟩ := hbk.four
    have hfew := HE.out.few
    have hxl := HE.out.bs.len
    clear hbk
    by_cases hz : n1 = 0
    · subst hz
      have HR : Hid (Ch.SplitS r bs l) := Lib.hid (by have := HP.out [] (by rw [List.eq_nil_of_length_eq_zero hxl]; exact .nil); rwa [List.append_nil] at this)
      clear hxl
      go_wp2_with fail
      go_ret2
      exact ⟨_, l, rfl, HR.out, HE.out.ls.mono (fun _ h => h) (Nat.le_succ _), HE.out.be⟩
    · have hpos : 0 < (n1 : Int) := by omega
      have hx0 : x ≠ [] := fun e => by rw [e] at hxl; simp at hxl; omega
      obtain ⟨hj1, hj2, hjs⟩ := split_step (r := r) hx0
      have HJS := Lib.hid hjs
      have HC1 := Lib.hid (HN.out wr _ A1 n1 c1 x HE.out.bs (by omega))
      obtain ⟨j, hj⟩ : ∃ j, j = cutN r x := ⟨_, rfl⟩
      rw [← hj] at HC1 HJS hj1 hj2
      clear hjs hj hx0
      go_wp2_with fail
      refine (HC1.out).mono ?_
      rintro e w2 ⟨rfl, hb2⟩
      have HE2 := Lib.hid (HE.out.after hb2)
      clear hb2
      obtain ⟨A5, c5, hcut, hX5⟩ := HE2.out.bs.upto (j : Int) j rfl (by omega)
      obtain ⟨Av, cv, hv6, -⟩ := HE2.out.ls.shape
      subst hv6
      obtain ⟨vs, hq, hown, hv, hx2, hr⟩ := HE2.out.ls.ready (e' := 23) (Below.refl _ w2) hX5 (fun k hk hlt => ⟨hk, fun e => by
        obtain ⟨_, vs, _, ho, _⟩ := HE2.out.ls
        have h1 := own_base ho k e.symm
        have : k < w.heap.size := hk
        omega⟩)
      obtain ⟨A7, c7, hcut7, hX7⟩ := from_any (A := A1) (n := n1) (c := c1) (j := j) (n' := n1 - j) (by omega)
      have HX7 := Lib.hid hX7
      have HVV := Lib.hid (And.intro hv hx2)
      have hlt2 := HE2.out.bk.lt
      clear hX5 hX7 hv hx2
      go_wp2_with (at_builtin; go_must ((refine wpList_append_row rfl (.tmp 17) (.tmp 21) rfl (base := w.heap.size + 1) (v := .slice Av l.length cv) rfl hown rfl hr (by omega) (by simp; omega) ?_; intro v3 w3 hown3 hg3 hat3)))
      have HE3 := Lib.hid (HE2.out.more hj1 (by omega : j + (n1 - j) = n1) hn hq hown3 hg3 hat3 HVV.out.1 HVV.out.2 (fun W h => HX7.out W _ _ h))
      have HP3 : Hid (∀ m, Ch.SplitS r (x.drop j) m → Ch.SplitS r bs ((l ++ [x.take j]) ++ m)) := Lib.hid fun m hm => by rw [List.append_assoc]; exact HP.out _ (HJS.out m hm)
      clear hown hr hown3 hg3 hat3
      go_roundw
      case rel => exact ⟨A7, n1 - j, c7, x.drop j, l ++ [x.take j], rfl, HE3, HP3⟩
      case measure => simp; omega
theorem rsplit_no (w : World) (seed : Nat) (mn av mx : Int) (hr : ¬ RRight mn av mx) (A : Option Addr) (n c : Nat) :
    Calls Tryd.prog 24 #[.agg #[.int .u64 (seed : Int), .int .i64 mn, .int .i64 av, .int .i64 mx], .slice A n c] w fun e w' => e = .returned (.tuple #[.slice none 0 0, .int .i64 1]) ∧ Below w.heap.size w w' := by
  have HC : Hid (∀ w', Calls Tryd.prog 27 #[.agg #[.int .u64 (seed : Int), .int .i64 mn, .int .i64 av, .int .i64 mx]] w' fun e w'' => e = .returned (.bool false) ∧ Below w'.heap.size w' w'') := Lib.hid fun w' => rright_no w' seed mn av mx hr
  have h0 : Hid (∀ o, Below w.heap.size w (w.alloc o)) := Lib.hid fun o => (Below.refl _ w).alloc (Nat.le_refl _) _
  clear hr
  go_enter Tryd.func24, Tryd.ntmps24
  go_wp2_with fail
  refine (HC.out _).mono ?_
  rintro e w1 ⟨rfl, hb1⟩
  have HB1 := Lib.hid ((h0.out _).trans (hb1.mono (h0.out _).size))
  clear hb1
  go_wp2_with fail
  go_ret2
  exact ⟨rfl, HB1.out⟩
set_option maxHeartbeats 2000000 in
theorem rsure_any (w : World) (r : Ch.Rule) (S : Nat → Prop) (A : Option Addr) (n c : Nat) (bs : List UInt8) (hx : Bs w S A n c bs) (hn : n ≤ 100000000) :
    Calls Tryd.prog 35 #[.agg r.v, .slice A n c] w (RSureEnd w r bs) := by
  have HX := Lib.hid hx.old
  obtain ⟨av, hav⟩ : ∃ av, av = 2 ^ r.k := ⟨_, rfl⟩
  have HV : Hid (r.v = #[.int .u64 (r.seed : Int), .int .i64 (r.mn : Int), .int .i64 (av : Int), .int .i64 (r.mx : Int)]) := Lib.hid (by rw [hav]; rfl)
  have HN : Hid (∀ w' S A n c x, Bs w' S A n c x → n ≤ 100000000 → Calls Tryd.prog 50 #[.agg r.v, .slice A n c] w' fun e w'' => e = .returned (.tuple #[.int .i64 ((cutN r x : Nat) : Int), .bool (Ch.cutS r x).isSome]) ∧ Below w'.heap.size w' w'') := Lib.hid fun w' S A n c x hb hn => rcut_any w' r S A n c x hb (by omega)
  have HE0 : Hid (Sv w r A n c bs (.slice none 0 0) [] n (w.alloc (.cells r.v 41))) := Lib.hid ⟨(Below.refl _ w).alloc (Nat.le_refl _) _, Blk.new w _ _, HX.out.below ((Below.refl _ w).alloc (Nat.le_refl _) _), RL.nil _ _ _, by simp⟩
  rw [HV.out] at HN HE0 ⊢
  clear hx hav
  go_enter Tryd.func35, Tryd.ntmps35
  go_wp2_with fail
  go_loopw [1, 6] (fun v1 v6 wr => ∃ (A1 : Option Addr) (n1 c1 : Nat) (x : List UInt8) (l : List (List UInt8)), v1 = .slice A1 n1 c1 ∧ Hid (Sv w r A1 n1 c1 x v6 l n wr) ∧ Hid (∀ m y, Ch.Sure r x m y → Ch.Sure r bs (l ++ m) y)) (fun v1 _ _ => match v1 with | .slice _ n1 _ => n1 | _ => 0)
  case atStart => exact ⟨A, n, c, bs, [], rfl, HE0, Lib.hid fun m y h => h⟩
  case round =>
    obtain ⟨A1, n1, c1, x, l, rfl, HE, HP⟩ := hrel
    clear HE0
    have hbk := HE.out.bk
    rw [HV.out] at hbk
    obtain ⟨k0, k1, k2, k3, hlt⟩ := hbk.four
    have hfew := HE.out.few
    have hxl := HE.out.bs.len
    clear hbk
    by_cases hz : n1 = 0
    · subst hz
      have HR : Hid (Ch.Sure r bs l x) := Lib.hid (by have := HP.out [] x (by rw [List.eq_nil_of_length_eq_zero hxl]; exact .stop Ch.cut_nil); rwa [List.append_nil] at this)
      clear hxl
      go_wp2_with fail
      go_ret2
      exact ⟨_, l, _, _, _, x, rfl, HR.out, HE.out.ls.mono (fun _ h => h) (Nat.le_succ _), HE.out.bs, HE.out.be⟩
    · have hpos : 0 < (n1 : Int) := by omega
      have HC1 := Lib.hid (HN.out wr _ A1 n1 c1 x HE.out.bs (by omega))
      cases hc : Ch.cutS r x with
      | none =>
        have HR : Hid (Ch.Sure r bs l x) := Lib.hid (by have := HP.out [] x (.stop hc); rwa [List.append_nil] at this)
        rw [hc, Option.isSome_none] at HC1
        clear hc
        go_wp2_with fail
        refine (HC1.out).mono ?_
        rintro e w2 ⟨rfl, hb2⟩
        have HE2 := Lib.hid (HE.out.after hb2)
        clear hb2
        go_wp2_with fail
        go_ret2
        exact ⟨_, l, _, _, _, x, rfl, HR.out, HE2.out.ls.mono (fun _ h => h) (Nat.le_succ _), HE2.out.bs, HE2.out.be⟩
      | some j =>
        obtain ⟨hj1, hj2, -, -⟩ := Ch.cut_some hc
        have HCJ := Lib.hid hc
        have hcn : cutN r x = j := by rw [cutN, hc]; rfl
        rw [hc, Option.isSome_some, hcn] at HC1
        clear hc hcn
        go_wp2_with fail
        refine (HC1.out).mono ?_
        rintro e w2 ⟨rfl, hb2⟩
        have HE2 := Lib.hid (HE.out.after hb2)
        clear hb2
        obtain ⟨A5, c5, hcut, hX5⟩ := HE2.out.bs.upto (j : Int) j rfl (by omega)
        obtain ⟨Av, cv, hv6, -⟩ := HE2.out.ls.shape
        subst hv6
        obtain ⟨vs, hq, hown, hv, hx2, hr⟩ := HE2.out.ls.ready (e' := 23) (Below.refl _ w2) hX5 (fun k hk hlt => ⟨hk, fun e => by
          obtain ⟨_, vs, _, ho, _⟩ := HE2.out.ls
          have h1 := own_base ho k e.symm
          have : k < w.heap.size := hk
          omega⟩)
        obtain ⟨A7, c7, hcut7, hX7⟩ := from_any (A := A1) (n := n1) (c := c1) (j := j) (n' := n1 - j) (by omega)
        have HX7 := Lib.hid hX7
        have HVV := Lib.hid (And.intro hv hx2)
        have hlt2 := HE2.out.bk.lt
        clear hX5 hX7 hv hx2
        go_wp2_with (at_builtin; go_must ((refine wpList_append_row rfl (.tmp 20) (.tmp 24) rfl (base := w.heap.size + 1) (v := .slice Av l.length cv) rfl hown rfl hr (by omega) (by simp; omega) ?_; intro v3 w3 hown3 hg3 hat3)))
        have HE3 := Lib.hid (HE2.out.more hj1 (by omega : j + (n1 - j) = n1) hn hq hown3 hg3 hat3 HVV.out.1 HVV.out.2 (fun W h => HX7.out W _ _ h))
        have HP3 : Hid (∀ m y, Ch.Sure r (x.drop j) m y → Ch.Sure r bs ((l ++ [x.take j]) ++ m) y) := Lib.hid fun m y hm => by rw [List.append_assoc]; exact HP.out _ _ (.more HCJ.out hm)
        clear hown hr hown3 hg3 hat3
        go_roundw
        case rel => exact ⟨A7, n1 - j, c7, x.drop j, l ++ [x.take j], rfl, HE3, HP3⟩
        case measure => simp; omega
end Go.Proofs.YtognkonncfjneaaDoor
