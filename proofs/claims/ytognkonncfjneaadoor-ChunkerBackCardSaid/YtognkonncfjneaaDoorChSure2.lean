/- The walk of the reference's Sure once more, with the blocks that its chunks lie in. Conditions: each theorem's premises. -/
import Derived.Test.YtognkonncfjneaaDoorCh9
namespace Go.Proofs.YtognkonncfjneaaDoor
open Go.RowKit
def RSureEnd' (S : Nat → Prop) (w : World) (r : Ch.Rule) (bs : List UInt8) (e : Ending) (w' : World) : Prop :=
  ∃ v l A n c x, e = .returned (.tuple #[v, .slice A n c]) ∧ Ch.Sure r bs l x ∧ RL w' (fun k => S k ∧ k < w.heap.size) w.heap.size v l ∧ Bs w' (fun k => S k ∧ k < w.heap.size) A n c x ∧ Below w.heap.size w w'
/-- What lies between two rounds of the reference's loops over chunks. -/
structure Sw (S0 : Nat → Prop) (w : World) (r : Ch.Rule) (A : Option Addr) (n c : Nat) (x : List UInt8) (v : Value) (l : List (List UInt8)) (N : Nat) (W : World) : Prop where
  lo : ∀ k, S0 k → k < w.heap.size
  be : Below w.heap.size w W
  bk : Blk W w.heap.size 41 r.v
  bs : Bs W S0 A n c x
  ls : RL W S0 (w.heap.size + 1) v l
  few : l.length + n ≤ N
theorem Sw.after {S0 : Nat → Prop} {w W W' : World} {r : Ch.Rule} {A : Option Addr} {n c N : Nat} {x : List UInt8} {v : Value} {l : List (List UInt8)} (h : Sw S0 w r A n c x v l N W) (hb : Below W.heap.size W W') : Sw S0 w r A n c x v l N W' :=
  ⟨h.lo, h.be.trans (hb.mono h.be.size), h.bk.after hb, h.bs.after hb, h.ls.after hb, h.few⟩
/-- One chunk more. -/
theorem Sw.more {S0 : Nat → Prop} {w W W6 : World} {r : Ch.Rule} {A A' A5 : Option Addr} {n c n' c' j c5 N : Nat} {x : List UInt8} {v v' : Value} {l : List (List UInt8)} {vs : List Value} (h : Sw S0 w r A n c x v l N W) (hj : 1 ≤ j) (hn : j + n' = n) (hN : N ≤ 100000000)
    (hq : vs.length = l.length) (hown : W6.ownsRow (w.heap.size + 1) 23 1 v' (l.length + 1) (vs ++ [.slice A5 j c5])) (hg : (W.alloc (.cells #[.slice A5 j c5] 23)).grownBy W6 v.ownBlock) (hat : v'.ownBlock = v.ownBlock ∨ v'.ownBlock = some (W.alloc (.cells #[.slice A5 j c5] 23)).heap.size)
    (hv : ∀ (i : Nat) (u : Value) (x : List UInt8), vs[i]? = some u → l[i]? = some x → ∃ A n c, u = .slice A n c ∧ Bs (W.alloc (.cells #[.slice A5 j c5] 23)) (fun k => S0 k ∧ some k ≠ v.ownBlock) A n c x)
    (hx : Bs (W.alloc (.cells #[.slice A5 j c5] 23)) (fun k => S0 k ∧ some k ≠ v.ownBlock) A5 j c5 (x.take j)) (hx' : ∀ W, Bs W S0 A n c x → Bs W S0 A' n' c' (x.drop j)) : Sw S0 w r A' n' c' (x.drop j) v' (l ++ [x.take j]) N W6 := by
  have hfew := h.few
  have hvb : ∀ k, v.ownBlock = some k → w.heap.size + 1 ≤ k := by
    obtain ⟨_, vs, _, ho, _⟩ := h.ls
    exact fun k hk => own_base ho k hk
  have hlt := h.bk.lt
  have hb1 : Below W.heap.size W (W.alloc (.cells #[.slice A5 j c5] 23)) := (Below.refl _ _).alloc (Nat.le_refl _) _
  have hb2 : Below (w.heap.size + 1) W W6 := (hb1.mono hlt).trans ((Below.refl _ _).grown hg (by simp; omega) hvb)
  exact ⟨h.lo, h.be.trans (hb2.mono (Nat.le_succ _)), h.bk.below hb2 (Nat.lt_succ_self _), hx' _ (h.bs.under h.lo (hb2.mono (Nat.le_succ _))), RL.snoc hq (by omega) hown hg hat hv rfl hx, by simp; omega⟩
set_option maxHeartbeats 2000000 in
theorem rsureS_any (w : World) (r : Ch.Rule) (S : Nat → Prop) (A : Option Addr) (n c : Nat) (bs : List UInt8) (hx : Bs w S A n c bs) (hn : n ≤ 100000000) :
    Calls Tryd.prog 35 #[.agg r.v, .slice A n c] w (RSureEnd' S w r bs) := by
  have HX := Lib.hid hx.oldS
  obtain ⟨av, hav⟩ : ∃ av, av = 2 ^ r.k := ⟨_, rfl⟩
  have HV : Hid (r.v = #[.int .u64 (r.seed : Int), .int .i64 (r.mn : Int), .int .i64 (av : Int), .int .i64 (r.mx : Int)]) := Lib.hid (by rw [hav]; rfl)
  have HN : Hid (∀ w' S A n c x, Bs w' S A n c x → n ≤ 100000000 → Calls Tryd.prog 50 #[.agg r.v, .slice A n c] w' fun e w'' => e = .returned (.tuple #[.int .i64 ((cutN r x : Nat) : Int), .bool (Ch.cutS r x).isSome]) ∧ Below w'.heap.size w' w'') := Lib.hid fun w' S A n c x hb hn => rcut_any w' r S A n c x hb (by omega)
  have HE0 : Hid (Sw (fun k => S k ∧ k < w.heap.size) w r A n c bs (.slice none 0 0) [] n (w.alloc (.cells r.v 41))) := Lib.hid ⟨fun k hk => hk.2, (Below.refl _ w).alloc (Nat.le_refl _) _, Blk.new w _ _, HX.out.under (fun k hk => hk.2) ((Below.refl _ w).alloc (Nat.le_refl _) _), RL.nil _ _ _, by simp⟩
  rw [HV.out] at HN HE0 ⊢
  clear hx hav
  go_enter Tryd.func35, Tryd.ntmps35
  go_wp2_with fail
  go_loopw [1, 6] (fun v1 v6 wr => ∃ (A1 : Option Addr) (n1 c1 : Nat) (x : List UInt8) (l : List (List UInt8)), v1 = .slice A1 n1 c1 ∧ Hid (Sw (fun k => S k ∧ k < w.heap.size) w r A1 n1 c1 x v6 l n wr) ∧ Hid (∀ m y, Ch.Sure r x m y → Ch.Sure r bs (l ++ m) y)) (fun v1 _ _ => match v1 with | .slice _ n1 _ => n1 | _ => 0)
  case atStart => exact ⟨A, n, c, bs, [], rfl, HE0, Lib.hid fun m y h => h⟩
  case round =>
    obtain ⟨A1, n1, c1, x, l, rfl, HE, HP⟩ := hrel
    clear HE0
    have hbk := HE.out.bk
    rw [HV.out] at hbk
    obtain ⟨k0, k1, k2, k3, hlt⟩ := hbk.four
    have hfew := HE.out.few
    have hxl := HE.out.bs.len
    clear hbk
    by_cases hz : n1 = 0
    · subst hz
      have HR : Hid (Ch.Sure r bs l x) := Lib.hid (by have := HP.out [] x (by rw [List.eq_nil_of_length_eq_zero hxl]; exact .stop Ch.cut_nil); rwa [List.append_nil] at this)
      clear hxl
      go_wp2_with fail
      go_ret2
      exact ⟨_, l, _, _, _, x, rfl, HR.out, HE.out.ls.mono (fun _ h => h) (Nat.le_succ _), HE.out.bs, HE.out.be⟩
    · have hpos : 0 < (n1 : Int) := by omega
      have HC1 := Lib.hid (HN.out wr _ A1 n1 c1 x HE.out.bs (by omega))
      cases hc : Ch.cutS r x with
      | none =>
        have HR : Hid (Ch.Sure r bs l x) := Lib.hid (by have := HP.out [] x (.stop hc); rwa [List.append_nil] at this)
        rw [hc, Option.isSome_none] at HC1
        clear hc
        go_wp2_with fail
        refine (HC1.out).mono ?_
        rintro e w2 ⟨rfl, hb2⟩
        have HE2 := Lib.hid (HE.out.after hb2)
        clear hb2
        go_wp2_with fail
        go_ret2
        exact ⟨_, l, _, _, _, x, rfl, HR.out, HE2.out.ls.mono (fun _ h => h) (Nat.le_succ _), HE2.out.bs, HE2.out.be⟩
      | some j =>
        obtain ⟨hj1, hj2, -, -⟩ := Ch.cut_some hc
        have HCJ := Lib.hid hc
        have hcn : cutN r x = j := by rw [cutN, hc]; rfl
        rw [hc, Option.isSome_some, hcn] at HC1
        clear hc hcn
        go_wp2_with fail
        refine (HC1.out).mono ?_
        rintro e w2 ⟨rfl, hb2⟩
        have HE2 := Lib.hid (HE.out.after hb2)
        clear hb2
        obtain ⟨A5, c5, hcut, hX5⟩ := HE2.out.bs.upto (j : Int) j rfl (by omega)
        obtain ⟨Av, cv, hv6, -⟩ := HE2.out.ls.shape
        subst hv6
        obtain ⟨vs, hq, hown, hv, hx2, hr⟩ := HE2.out.ls.ready (e' := 23) (Below.refl _ w2) hX5 (fun k hk hlt => ⟨hk, fun e => by
          obtain ⟨_, vs, _, ho, _⟩ := HE2.out.ls
          have h1 := own_base ho k e.symm
          have : k < w.heap.size := hk.2
          omega⟩)
        obtain ⟨A7, c7, hcut7, hX7⟩ := from_any (A := A1) (n := n1) (c := c1) (j := j) (n' := n1 - j) (by omega)
        have HX7 := Lib.hid hX7
        have HVV := Lib.hid (And.intro hv hx2)
        have hlt2 := HE2.out.bk.lt
        clear hX5 hX7 hv hx2
        go_wp2_with (at_builtin; go_must ((refine wpList_append_row rfl (.tmp 20) (.tmp 24) rfl (base := w.heap.size + 1) (v := .slice Av l.length cv) rfl hown rfl hr (by omega) (by simp; omega) ?_; intro v3 w3 hown3 hg3 hat3)))
        have HE3 := Lib.hid (HE2.out.more hj1 (by omega : j + (n1 - j) = n1) hn hq hown3 hg3 hat3 HVV.out.1 HVV.out.2 (fun W h => HX7.out W _ _ h))
        have HP3 : Hid (∀ m y, Ch.Sure r (x.drop j) m y → Ch.Sure r bs ((l ++ [x.take j]) ++ m) y) := Lib.hid fun m y hm => by rw [List.append_assoc]; exact HP.out _ _ (.more HCJ.out hm)
        clear hown hr hown3 hg3 hat3
        go_roundw
        case rel => exact ⟨A7, n1 - j, c7, x.drop j, l ++ [x.take j], rfl, HE3, HP3⟩
        case measure => simp; omega
end Go.Proofs.YtognkonncfjneaaDoor
