/- The walks of Cut (chunker) and of the reference's Cut, Split, Sure. Conditions: each theorem's premises. -/
import Derived.Test.YtognkonncfjneaaDoorCh7
namespace Go.Proofs.YtognkonncfjneaaDoor
open Go.RowKit
set_option maxHeartbeats 1000000 in
theorem ccut_yes (w : World) (r : Ch.Rule) (S : Nat → Prop) (A : Option Addr) (n c : Nat) (bs : List UInt8) (hx : Bs w S A n c bs) (hn : n ≤ 100000000) (hT : Tab64 w) :
    Calls Tryd.prog 28 #[.agg r.v, .slice A n c] w fun e w' => e = .returned (.int .i64 ((cutN r bs : Nat) : Int)) ∧ Below w.heap.size w w' := by
  have HX := Lib.hid hx.old
  obtain ⟨av, hav⟩ : ∃ av, av = 2 ^ r.k := ⟨_, rfl⟩
  have HV : Hid (r.v = #[.int .u64 (r.seed : Int), .int .i64 (r.mn : Int), .int .i64 (av : Int), .int .i64 (r.mx : Int)]) := Lib.hid (by rw [hav]; rfl)
  have HC : Hid (∀ w', Calls Tryd.prog 26 #[.agg r.v] w' fun e w'' => e = .returned (.bool true) ∧ Below w'.heap.size w' w'') := Lib.hid fun w' => cright_yes w' r
  have HN : Hid (∀ w', Below w.heap.size w w' → Calls Tryd.prog 45 #[.agg r.v] w' fun e w'' => e = .returned (.agg (knifeV (w'.heap.size + 2) r)) ∧ Grl w'' (w'.heap.size + 2) r.seed ∧ Below w'.heap.size w' w'') := Lib.hid fun w' hb => knife_any w' r (Tab64.below hT hb)
  have h0 : Hid (Blk (w.alloc (.cells r.v 46)) w.heap.size 46 r.v ∧ Below w.heap.size w (w.alloc (.cells r.v 46))) := Lib.hid ⟨Blk.new w _ _, (Below.refl _ w).alloc (Nat.le_refl _) _⟩
  rw [HV.out] at HC HN h0 ⊢
  clear hx hT hav HV
  go_enter Tryd.func28, Tryd.ntmps28
  go_wp2_with fail
  refine (HC.out _).mono ?_
  rintro e w1 ⟨rfl, hb1⟩
  have h1 := And.intro (h0.out.1.after hb1) (h0.out.2.trans (hb1.mono h0.out.2.size))
  have H1 := Lib.hid h1
  obtain ⟨k0, k1, k2, k3, hl1⟩ := h1.1.four
  clear hb1 h1 h0
  go_wp2_with fail
  refine (HN.out w1 H1.out.2).mono ?_
  rintro e w2 ⟨rfl, hg2, hb2⟩
  have hbw2 := H1.out.2.trans (hb2.mono H1.out.2.size)
  have hs1 := H1.out.2.size
  have HE := Lib.hid (cut_any w2 (w1.heap.size + 2) r (Lo w.heap.size) A n c bs hg2 (HX.out.below hbw2) (by omega) (fun k hk => by have : k < w.heap.size := hk; have := hbw2.size; omega))
  have HB2 := Lib.hid hbw2
  have hs2 := hbw2.size
  clear hg2 hb2 hbw2 k0 k1 k2 k3
  go_wp2_with fail
  refine (HE.out).mono ?_
  rintro e w3 ⟨rfl, hgi⟩
  have HB3 : Hid (Below w.heap.size w w3) := Lib.hid (HB2.out.trans (only_below hgi.2 (by omega) hs2))
  clear hgi HE
  go_wp2_with fail
  go_ret
  exact ⟨rfl, HB3.out⟩
theorem ccut_no (w : World) (seed : Nat) (mn av mx : Int) (hr : ¬ RRight mn av mx) (A : Option Addr) (n c : Nat) :
    Calls Tryd.prog 28 #[.agg #[.int .u64 (seed : Int), .int .i64 mn, .int .i64 av, .int .i64 mx], .slice A n c] w fun e w' => e = .returned (.int .i64 0) ∧ Below w.heap.size w w' := by
  have HC : Hid (∀ w', Calls Tryd.prog 26 #[.agg #[.int .u64 (seed : Int), .int .i64 mn, .int .i64 av, .int .i64 mx]] w' fun e w'' => e = .returned (.bool false) ∧ Below w'.heap.size w' w'') := Lib.hid fun w' => cright_no w' seed mn av mx hr
  have h0 : Hid (∀ o, Below w.heap.size w (w.alloc o)) := Lib.hid fun o => (Below.refl _ w).alloc (Nat.le_refl _) _
  clear hr
  go_enter Tryd.func28, Tryd.ntmps28
  go_wp2_with fail
  refine (HC.out _).mono ?_
  rintro e w1 ⟨rfl, hb1⟩
  have HB1 := Lib.hid ((h0.out _).trans (hb1.mono (h0.out _).size))
  clear hb1
  go_wp2_with fail
  go_ret
  exact ⟨rfl, HB1.out⟩
theorem cutN_nil (r : Ch.Rule) : cutN r [] = 0 := rfl
set_option maxHeartbeats 1000000 in
theorem rCut_yes (w : World) (r : Ch.Rule) (S : Nat → Prop) (A : Option Addr) (n c : Nat) (bs : List UInt8) (hx : Bs w S A n c bs) (hn : n ≤ 100000000) :
    Calls Tryd.prog 29 #[.agg r.v, .slice A n c] w fun e w' => e = .returned (.int .i64 ((cutN r bs : Nat) : Int)) ∧ Below w.heap.size w w' := by
  have HX := Lib.hid hx.old
  have hlen := hx.len
  obtain ⟨av, hav⟩ : ∃ av, av = 2 ^ r.k := ⟨_, rfl⟩
  have HV : Hid (r.v = #[.int .u64 (r.seed : Int), .int .i64 (r.mn : Int), .int .i64 (av : Int), .int .i64 (r.mx : Int)]) := Lib.hid (by rw [hav]; rfl)
  have HC : Hid (∀ w', Calls Tryd.prog 27 #[.agg r.v] w' fun e w'' => e = .returned (.bool true) ∧ Below w'.heap.size w' w'') := Lib.hid fun w' => rright_yes w' r
  have HN : Hid (∀ w', Below w.heap.size w w' → Calls Tryd.prog 50 #[.agg r.v, .slice A n c] w' fun e w'' => e = .returned (.tuple #[.int .i64 ((cutN r bs : Nat) : Int), .bool (Ch.cutS r bs).isSome]) ∧ Below w'.heap.size w' w'') := Lib.hid fun w' hb => rcut_any w' r _ A n c bs (HX.out.below hb) (by omega)
  have h0 : Hid (Blk (w.alloc (.cells r.v 41)) w.heap.size 41 r.v ∧ Below w.heap.size w (w.alloc (.cells r.v 41))) := Lib.hid ⟨Blk.new w _ _, (Below.refl _ w).alloc (Nat.le_refl _) _⟩
  rw [HV.out] at HC HN h0 ⊢
  clear hx hav HV
  by_cases hz : n = 0
  · have HB : Hid (cutN r bs = 0) := Lib.hid (by rw [List.eq_nil_of_length_eq_zero (hlen.trans hz)]; rfl)
    subst hz
    clear hlen
    go_enter Tryd.func29, Tryd.ntmps29
    go_wp2_with fail
    refine (HC.out _).mono ?_
    rintro e w1 ⟨rfl, hb1⟩
    have HB1 := Lib.hid (h0.out.2.trans (hb1.mono h0.out.2.size))
    clear hb1
    go_wp2_with fail
    go_ret
    exact ⟨by rw [HB.out]; rfl, HB1.out⟩
  · have hpos : ((n : Int) == 0) = false := by simp; omega
    go_enter Tryd.func29, Tryd.ntmps29
    go_wp2_with fail
    refine (HC.out _).mono ?_
    rintro e w1 ⟨rfl, hb1⟩
    have h1 := And.intro (h0.out.1.after hb1) (h0.out.2.trans (hb1.mono h0.out.2.size))
    have H1 := Lib.hid h1
    obtain ⟨k0, k1, k2, k3, hl1⟩ := h1.1.four
    clear hb1 h1 h0
    go_wp2_with fail
    refine (HN.out w1 H1.out.2).mono ?_
    rintro e w2 ⟨rfl, hb2⟩
    have HB2 := Lib.hid (H1.out.2.trans (hb2.mono H1.out.2.size))
    clear hb2
    go_wp2_with fail
    go_ret
    exact ⟨rfl, HB2.out⟩
theorem rCut_no (w : World) (seed : Nat) (mn av mx : Int) (hr : ¬ RRight mn av mx) (A : Option Addr) (n c : Nat) :
    Calls Tryd.prog 29 #[.agg #[.int .u64 (seed : Int), .int .i64 mn, .int .i64 av, .int .i64 mx], .slice A n c] w fun e w' => e = .returned (.int .i64 0) ∧ Below w.heap.size w w' := by
  have HC : Hid (∀ w', Calls Tryd.prog 27 #[.agg #[.int .u64 (seed : Int), .int .i64 mn, .int .i64 av, .int .i64 mx]] w' fun e w'' => e = .returned (.bool false) ∧ Below w'.heap.size w' w'') := Lib.hid fun w' => rright_no w' seed mn av mx hr
  have h0 : Hid (∀ o, Below w.heap.size w (w.alloc o)) := Lib.hid fun o => (Below.refl _ w).alloc (Nat.le_refl _) _
  clear hr
  go_enter Tryd.func29, Tryd.ntmps29
  go_wp2_with fail
  refine (HC.out _).mono ?_
  rintro e w1 ⟨rfl, hb1⟩
  have HB1 := Lib.hid ((h0.out _).trans (hb1.mono (h0.out _).size))
  clear hb1
  go_wp2_with fail
  go_ret
  exact ⟨rfl, HB1.out⟩
/-- What lies between two rounds of the reference's loops over chunks. -/
structure Sv (w : World) (r : Ch.Rule) (A : Option Addr) (n c : Nat) (x : List UInt8) (v : Value) (l : List (List UInt8)) (N : Nat) (W : World) : Prop where
  be : Below w.heap.size w W
  bk : Blk W w.heap.size 41 r.v
  bs : Bs W (Lo w.heap.size) A n c x
  ls : RL W (Lo w.heap.size) (w.heap.size + 1) v l
  few : l.length + n ≤ N
theorem Sv.after {w W W' : World} {r : Ch.Rule} {A : Option Addr} {n c N : Nat} {x : List UInt8} {v : Value} {l : List (List UInt8)} (h : Sv w r A n c x v l N W) (hb : Below W.heap.size W W') : Sv w r A n c x v l N W' :=
  ⟨h.be.trans (hb.mono h.be.size), h.bk.after hb, h.bs.after hb, h.ls.after hb, h.few⟩
/-- One chunk more. -/
theorem Sv.more {w W W6 : World} {r : Ch.Rule} {A A' A5 : Option Addr} {n c n' c' j c5 N : Nat} {x : List UInt8} {v v' : Value} {l : List (List UInt8)} {vs : List Value} (h : Sv w r A n c x v l N W) (hj : 1 ≤ j) (hn : j + n' = n) (hN : N ≤ 100000000)
    (hq : vs.length = l.length) (hown : W6.ownsRow (w.heap.size + 1) 23 1 v' (l.length + 1) (vs ++ [.slice A5 j c5])) (hg : (W.alloc (.cells #[.slice A5 j c5] 23)).grownBy W6 v.ownBlock) (hat : v'.ownBlock = v.ownBlock ∨ v'.ownBlock = some (W.alloc (.cells #[.slice A5 j c5] 23)).heap.size)
    (hv : ∀ (i : Nat) (u : Value) (x : List UInt8), vs[i]? = some u → l[i]? = some x → ∃ A n c, u = .slice A n c ∧ Bs (W.alloc (.cells #[.slice A5 j c5] 23)) (fun k => Lo w.heap.size k ∧ some k ≠ v.ownBlock) A n c x)
    (hx : Bs (W.alloc (.cells #[.slice A5 j c5] 23)) (fun k => Lo w.heap.size k ∧ some k ≠ v.ownBlock) A5 j c5 (x.take j)) (hx' : ∀ W, Bs W (Lo w.heap.size) A n c x → Bs W (Lo w.heap.size) A' n' c' (x.drop j)) : Sv w r A' n' c' (x.drop j) v' (l ++ [x.take j]) N W6 := by
  have hfew := h.few
  have hvb : ∀ k, v.ownBlock = some k → w.heap.size + 1 ≤ k := by
    obtain ⟨_, vs, _, ho, _⟩ := h.ls
    exact fun k hk => own_base ho k hk
  have hlt := h.bk.lt
  have hb1 : Below W.heap.size W (W.alloc (.cells #[.slice A5 j c5] 23)) := (Below.refl _ _).alloc (Nat.le_refl _) _
  have hb2 : Below (w.heap.size + 1) W W6 := (hb1.mono hlt).trans ((Below.refl _ _).grown hg (by simp; omega) hvb)
  exact ⟨h.be.trans (hb2.mono (Nat.le_succ _)), h.bk.below hb2 (Nat.lt_succ_self _), hx' _ (h.bs.below (hb2.mono (Nat.le_succ _))), RL.snoc hq (by omega) hown hg hat hv rfl hx, by simp; omega⟩
end Go.Proofs.YtognkonncfjneaaDoor
