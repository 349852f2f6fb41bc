/- ShaApart: what its road keeps. Conditions: each theorem's premises. -/
import Derived.Test.YtepcbnkhfiphdaaL0
import Derived.Laws.OwnMore
namespace Go.Proofs.Ytepcbnkhfiphdaa
open Go.RowKit
/-- Two streams of one engine and a row of one's own. -/
structure Ap (w wr : World) (g s t bo n : Nat) (lvs lvt lvo : Value) (al tl : List UInt8) (M : Int) : Prop where
  en : ∃ nb : Int, En wr g 1 0 fillF nb ∧ 0 ≤ nb ∧ nb ≤ M
  ss : Sm wr s g lvs al
  tt : Sm wr t g lvt tl
  oo : ∃ os : List UInt8, wr.ownsRow bo 5 1 lvo n (u8s os)
  bel : Below w.heap.size w wr
  lo : w.heap.size ≤ g
  st : s < t
  to : t < bo
  s1 : ∀ k, lvs.ownBlock = some k → k ≠ t ∧ lvt.ownBlock ≠ some k ∧ lvo.ownBlock ≠ some k
  t1 : ∀ k, lvt.ownBlock = some k → k ≠ s ∧ lvo.ownBlock ≠ some k
section
variable {w wr w' : World} {g s t bo n : Nat} {lvs lvt lvo : Value} {al tl bs : List UInt8} {M : Int}
theorem Ap.obase (h : Ap w wr g s t bo n lvs lvt lvo al tl M) : ∀ k, lvo.ownBlock = some k → bo ≤ k := fun k hk => by
  obtain ⟨os, ho⟩ := h.oo
  exact own_base ho k hk
theorem Ap.olt (h : Ap w wr g s t bo n lvs lvt lvo al tl M) : ∀ k, lvo.ownBlock = some k → k < wr.heap.size := fun k hk => by
  obtain ⟨os, ho⟩ := h.oo
  exact (ho.lt k hk).2
theorem Ap.mono (h : Ap w wr g s t bo n lvs lvt lvo al tl M) {M' : Int} (hM : M ≤ M') : Ap w wr g s t bo n lvs lvt lvo al tl M' := by
  obtain ⟨nb, h1, h2, h3⟩ := h.en
  exact ⟨⟨nb, h1, h2, by omega⟩, h.ss, h.tt, h.oo, h.bel, h.lo, h.st, h.to, h.s1, h.t1⟩
theorem Ap.after (h : Ap w wr g s t bo n lvs lvt lvo al tl M) (hb : Below wr.heap.size wr w') : Ap w w' g s t bo n lvs lvt lvo al tl M := by
  obtain ⟨nb, h1, h2, h3⟩ := h.en
  obtain ⟨os, ho⟩ := h.oo
  exact ⟨⟨nb, h1.after hb, h2, h3⟩, h.ss.after hb, h.tt.after hb, ⟨os, own_but ho (Only.of_after (X := fun _ => False) hb) (fun _ _ e => e)⟩, h.bel.trans (hb.mono h.bel.size), h.lo, h.st, h.to, h.s1, h.t1⟩
theorem Ap.engine (h : Ap w wr g s t bo n lvs lvt lvo al tl M) {nb M' : Int} (hE : En w' g 1 0 fillF nb) (h0 : 0 ≤ nb ∧ nb ≤ M') (hg : wr.grownBy w' (some g)) : Ap w w' g s t bo n lvs lvt lvo al tl M' := by
  have o1 : Only (fun j => j = g) wr w' := Only.of_grown hg (fun j e => by injection e with e; exact e.symm)
  obtain ⟨os, ho⟩ := h.oo
  have l1 := h.ss.lt
  have l2 := h.tt.lt
  have l3 := h.st
  have l4 := h.to
  refine ⟨⟨nb, hE, h0.1, h0.2⟩, h.ss.but o1 (by omega) (fun k e he => ?_), h.tt.but o1 (by omega) (fun k e he => ?_), ⟨os, own_but ho o1 (fun k e he => ?_)⟩, h.bel.trans (only_below hg h.lo h.bel.size), h.lo, h.st, h.to, h.s1, h.t1⟩
  · have := own_base h.ss.ow k e; omega
  · have := own_base h.tt.ow k e; omega
  · have := own_base ho k e; omega
theorem Ap.writeS (h : Ap w wr g s t bo n lvs lvt lvo al tl M) {nb : Int} {e : Ending} (hw : WriteEnd wr s g nb lvs al bs e w') {M' : Int} (h0 : 0 ≤ nb) (h1 : nb + (((al.length + bs.length) / 64 - al.length / 64 : Nat) : Int) ≤ M') :
    e = .returned (.int .i64 (bs.length : Int)) ∧ ∃ lvs', Ap w w' g s t bo n lvs' lvt lvo (al ++ bs) tl M' := by
  obtain ⟨he, lv', hS, hE, ho, hn⟩ := hw
  refine ⟨he, lv', ?_⟩
  obtain ⟨os, hoo⟩ := h.oo
  have l1 := h.ss.lt
  have l2 := h.tt.lt
  have l3 := h.st
  have l4 := h.to
  refine ⟨⟨_, hE, by omega, h1⟩, hS, h.tt.but ho (fun e => ?_) (fun k hk e => ?_), ⟨os, own_but hoo ho (fun k hk e => ?_)⟩, h.bel.trans (ho.below h.bel.size (fun k e => ?_)), h.lo, h.st, h.to, fun k hk => ⟨?_, fun e => ?_, fun e => ?_⟩, h.t1⟩
  · rcases e with e | e | e
    · omega
    · omega
    · exact (h.s1 _ e).1 rfl
  · have hb := own_base h.tt.ow k hk
    rcases e with e | e | e
    · omega
    · omega
    · exact (h.s1 _ e).2.1 hk
  · have hb := own_base hoo k hk
    rcases e with e | e | e
    · omega
    · omega
    · exact (h.s1 _ e).2.2 hk
  · have := h.lo
    rcases e with e | e | e
    · omega
    · omega
    · have := own_base h.ss.ow k e; omega
  · have := hn k hk
    have := h.tt.bk.lt
    omega
  · have := hn k hk
    have := (h.tt.ow.lt k e).2
    omega
  · have := hn k hk
    have := h.olt k e
    omega
theorem Ap.writeT (h : Ap w wr g s t bo n lvs lvt lvo al tl M) {nb : Int} {e : Ending} (hw : WriteEnd wr t g nb lvt tl bs e w') {M' : Int} (h0 : 0 ≤ nb) (h1 : nb + (((tl.length + bs.length) / 64 - tl.length / 64 : Nat) : Int) ≤ M') :
    e = .returned (.int .i64 (bs.length : Int)) ∧ ∃ lvt', Ap w w' g s t bo n lvs lvt' lvo al (tl ++ bs) M' := by
  obtain ⟨he, lv', hS, hE, ho, hn⟩ := hw
  refine ⟨he, lv', ?_⟩
  obtain ⟨os, hoo⟩ := h.oo
  have l1 := h.ss.lt
  have l2 := h.tt.lt
  have l3 := h.st
  have l4 := h.to
  refine ⟨⟨_, hE, by omega, h1⟩, h.ss.but ho (fun e => ?_) (fun k hk e => ?_), hS, ⟨os, own_but hoo ho (fun k hk e => ?_)⟩, h.bel.trans (ho.below h.bel.size (fun k e => ?_)), h.lo, h.st, h.to, fun k hk => ⟨(h.s1 k hk).1, fun e => ?_, (h.s1 k hk).2.2⟩, fun k hk => ⟨?_, fun e => ?_⟩⟩
  · rcases e with e | e | e
    · omega
    · omega
    · exact (h.t1 _ e).1 rfl
  · have hb := own_base h.ss.ow k hk
    rcases e with e | e | e
    · exact (h.s1 k hk).1 e
    · omega
    · exact (h.s1 k hk).2.1 e
  · have hb := own_base hoo k hk
    rcases e with e | e | e
    · omega
    · omega
    · exact (h.t1 _ e).2 hk
  · have := h.lo
    rcases e with e | e | e
    · omega
    · omega
    · have := own_base h.tt.ow k e; omega
  · have := hn k e
    have := (h.ss.ow.lt k hk).2
    omega
  · have := hn k hk
    have := h.ss.bk.lt
    omega
  · have := hn k hk
    have := h.olt k e
    omega
/-- A byte of one's own row is written over. -/
theorem Ap.set (h : Ap w wr g s t bo n lvs lvt lvo al tl M) {o cap j : Nat} (hv : lvo = .slice (some ⟨o, 0, none⟩) n cap) (x : UInt8) : Ap w (wr.setCell ⟨o, j, none⟩ (.int .u8 (x.toNat : Int))) g s t bo n lvs lvt lvo al tl M := by
  obtain ⟨os, hoo⟩ := h.oo
  subst hv
  have hob : bo ≤ o := own_base hoo o rfl
  have l1 := h.ss.lt
  have l2 := h.tt.lt
  have l3 := h.st
  have l4 := h.to
  have l5 := h.lo
  have o1 : Only (fun k => k = o) wr (wr.setCell ⟨o, j, none⟩ (.int .u8 (x.toNat : Int))) := (Only.refl (fun k => k = o) wr).setCell (p := ⟨o, j, none⟩) (.inl rfl) _
  obtain ⟨nb, e1, e2, e3⟩ := h.en
  refine ⟨⟨nb, e1.but o1 (by omega), e2, e3⟩, h.ss.but o1 (by omega) (fun k hk e => (h.s1 k hk).2.2 (by rw [e]; rfl)), h.tt.but o1 (by omega) (fun k hk e => (h.t1 k hk).2 (by rw [e]; rfl)), ⟨os.set j x, ?_⟩, h.bel.trans (o1.below h.bel.size (fun k e => by omega)), h.lo, h.st, h.to, h.s1, h.t1⟩
  have := (hoo.stored j (.int .u8 (x.toNat : Int))).1
  rwa [show (u8s os).set j (.int .u8 (x.toNat : Int)) = u8s (os.set j x) by simp [u8s, u8v, List.map_set]] at this
end
theorem Ap.own {w wr : World} {g s t bo n : Nat} {lvs lvt : Value} {al tl : List UInt8} {M : Int} {A : Option Addr} {c : Nat} (h : Ap w wr g s t bo n lvs lvt (.slice A n c) al tl M) {k : Nat} (hk : k < n) :
    ∃ o x, A = some ⟨o, 0, none⟩ ∧ wr.cell? ⟨o, k, none⟩ = some (.int .u8 ((x : UInt8).toNat : Int)) ∧ wr.frozen? ⟨o, k, none⟩ = false := by
  obtain ⟨os, hoo⟩ := h.oo
  obtain ⟨o, cap, hv, -⟩ := hoo.form (by omega)
  injection hv with hA
  subst hA
  obtain ⟨A', c', hv', hb⟩ := own_bs' hoo
  injection hv' with hA'
  subst hA'
  obtain ⟨ad, x, e, -, hc⟩ := hb.at_ hk
  injection e with e
  subst e
  rw [add_plain] at hc
  exact ⟨o, x, rfl, hc, hoo.frozenAt k⟩
theorem write_n (w : World) (s g : Nat) (nb : Int) (lv : Value) (all : List UInt8) (hs : Sm w s g lv all) (hE : En w g 1 0 fillF nb) (hnb : 0 ≤ nb ∧ nb ≤ 10000000000000000) (S : Nat → Prop) (A : Option Addr) (n c : Nat) (bs : List UInt8) (hx : Bs w S A n c bs) (hn : n ≤ 140737488351232) (ha : all.length ≤ 1000000000000000) :
    Calls Try.prog 13 #[.pointer (some ⟨s, 0, none⟩), .slice A n c] w (WriteEnd w s g nb lv all bs) := by
  obtain rfl := hx.len
  exact write_any w s g nb lv all hs hE hnb S A c bs hx hn ha
theorem esum_n (w : World) (g : Nat) (nb : Int) (h : Eng w g nb) (hnb : 0 ≤ nb ∧ nb ≤ 5000000000000000) (S : Nat → Prop) (A : Option Addr) (n c : Nat) (bs : List UInt8) (hx : Bs w S A n c bs) (hS : ∀ k, S k → k < w.heap.size → k ≠ g) (hn : n ≤ 140737488351232) :
    Calls Try.prog 11 #[.pointer (some ⟨g, 0, none⟩), .slice A n c] w fun e w' => e = .returned (.agg (NC (Sha.sum bs))) ∧ En w' g 1 0 fillF (nb + (((n + 72) / 64 : Nat) : Int)) ∧ w.grownBy w' (some g) := by
  obtain rfl := hx.len
  exact esum_any w g nb h hnb S A c bs hx hS hn
section
variable {ops : Array Oper} {rest : List Oper} {o : Oper} {a : Act} {Q : Exit → Act → World → Prop} {w : World}
theorem wl_sameN {nm : List UInt8} (hw : Region.wanted o (yielded ops a.tmps) = true) (x y : Operand) (t2 : TypeId) (ho : o.op = .binOp .eql 30 x y t2) (hx : a.eval x = .agg (NC nm)) (hy : a.eval y = .agg (NC nm)) (hn : nm.length = 32)
    (hk : wpList Try.prog ops Q rest (a.put o.dst (.bool true)) w) : wpList Try.prog ops Q (o :: rest) a w :=
  wl_eqN hw x y t2 ho hx hy hn hn (by rw [decide_eq_true rfl]; exact hk)
theorem wl_zeroH (hw : Region.wanted o (yielded ops a.tmps) = true) (ho : o.op = .build 30 #[])
    (hk : wpList Try.prog ops Q rest (a.put o.dst (.agg (NC (List.replicate 32 0)))) w) : wpList Try.prog ops Q (o :: rest) a w :=
  BigFrame.wpList_want hw fun _ hK => wp_build 30 #[] ho (by simp [built30]) (hK _ _ (by simpa [built30, UB_zero] using hk))
theorem wpList_append_g (hw : Region.wanted o (yielded ops a.tmps) = true) (s x : Operand)
    (ho : o.op = .call { callee := .builtin .append, args := #[s, x], argTypes := #[28, 28] })
    {base : Nat} {v : Value} {n : Nat} {xs : List UInt8} (hs : a.eval s = v) (hown : w.ownsRow base 5 1 v n (u8s xs))
    {S : Nat → Prop} {A : Option Addr} {m c : Nat} {ys : List UInt8} (hx : a.eval x = .slice A m c) (hr : Bs w S A m c ys)
    (hbytes : n + m ≤ 140737488355328) (hbase : base ≤ w.heap.size)
    (h : ∀ v' w', w'.ownsRow base 5 1 v' (n + m) (u8s (xs ++ ys)) → w.grownBy w' v.ownBlock → (v'.ownBlock = v.ownBlock ∨ v'.ownBlock = some w.heap.size) → wpList Try.prog ops Q rest (a.put o.dst v') w') : wpList Try.prog ops Q (o :: rest) a w := by
  obtain ⟨i0, hi0, hz0, hz1, hz2⟩ := info_parts Try.info5
  refine BigFrame.wpList_want hw fun _ hK => wp_append_any w s x 28 ho base 5 i0 _ 1 1 Try.underlying28 hi0 hz0 hz1 hz2 rfl (by omega) v n (u8s xs) hs hown S A m c (u8s ys) hx hr.rd u8s_one (by simp only [maxLen]; omega) (by omega) hbase ?_
  intro v' w' h1 h2 h3
  exact hK _ _ (h v' w' (by rw [u8s_append]; exact h1) h2 h3)
end
/-- A list of one text that is built on the spot. -/
theorem rr_one {w : World} {S : Nat → Prop} {A : Option Addr} {n c t : Nat} {a : List UInt8} (hx : Bs w S A n c a) (hn : n ≤ 140737488351232) : RR (w.alloc (.cells #[.slice A n c] t)) AnyB (some ⟨w.heap.size, 0, none⟩) 1 1 [a] := by
  obtain rfl := hx.len
  refine ⟨rfl, Nat.le_refl _, fun k hk => ⟨_, A, c, a, rfl, trivial, Lib.hid (by obtain rfl : k = 0 := by omega
                                                                                 rfl), ?_, (hx.any.after ((Below.refl _ _).alloc (Nat.le_refl _) _)), hn⟩⟩
  obtain rfl : k = 0 := by omega
  rw [add_plain, cell_of_row _ _ _ _ _ _ (heap_alloc_new w _)]
  rfl
end Go.Proofs.Ytepcbnkhfiphdaa
