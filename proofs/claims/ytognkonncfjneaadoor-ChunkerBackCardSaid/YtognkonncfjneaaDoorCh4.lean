/- The walks of bytes.Clone, of the closures that take a chunk, and of each (chunker). Conditions: each theorem's premises. -/
import Derived.Test.YtognkonncfjneaaDoorCh3
namespace Go.Proofs.YtognkonncfjneaaDoor
open Go.RowKit
def CloneEnd (w : World) (n : Nat) (bs : List UInt8) (e : Ending) (w' : World) : Prop := ∃ A' c', e = .returned (.slice A' n c') ∧ w'.ownsRow w.heap.size 5 1 (.slice A' n c') n (u8s bs) ∧ Below w.heap.size w w'
theorem bclone_any (w : World) (S : Nat → Prop) (A : Option Addr) (n c : Nat) (bs : List UInt8) (hx : Bs w S A n c bs) (hn : n ≤ 1000000000) : Calls Tryd.prog 48 #[.slice A n c] w (CloneEnd w n bs) := by
  have heq := eql_nil22
  rcases A with _ | ad
  · obtain ⟨rfl, rfl⟩ := hx.nil0
    go_enter Tryd.func48, Tryd.ntmps48
    go_wp2_with fail
    go_ret
    exact ⟨none, 0, rfl, World.ownsRow_nil _ _ _ _, Below.refl _ _⟩
  · have hX := hx.any.after ((Below.refl w.heap.size w).alloc (Nat.le_refl _) (.cells #[] 5))
    have HX := Lib.hid hX
    clear hx hX
    go_enter Tryd.func48, Tryd.ntmps48
    go_wp2_with (at_builtin; go_must ((refine wpList_append_u8 rfl (.tmp 5) (.tmp 6) rfl (base := w.heap.size) (v := .slice (some ⟨w.heap.size, 0, none⟩) 0 0) (n := 0) (xs := []) rfl (World.ownsRow_made w #[] 0 (Nat.le_refl _) (by simp [maxLen]) rfl) rfl HX.out (by omega) (by simp) ?_; intro v1 w1 hown hg hat; obtain ⟨A7, c7, rfl, _⟩ := own_shape hown)))
    simp only [Nat.zero_add, List.nil_append] at hown ⊢
    go_ret
    exact ⟨A7, c7, rfl, hown, (((Below.refl w.heap.size w).alloc (Nat.le_refl _) (.cells #[] 5)).trans ((Below.refl w.heap.size _).grown hg (by simp) (fun k e => by cases e; exact Nat.le_refl _)))⟩
/-- A chunk is taken. -/
def TakeEnd (w : World) (T : Nat → Prop) (base ob : Nat) (l : List (List UInt8)) (x : List UInt8) (e : Ending) (w' : World) : Prop :=
  e = .returned (.tuple #[]) ∧ ∃ v', Boxed w' ob 42 v' ∧ RL w' T base v' (l ++ [x]) ∧ Only (fun k => k = ob ∨ base ≤ k) w w'
set_option maxHeartbeats 400000 in
theorem take47_any (w : World) (T S : Nat → Prop) (base ob : Nat) (v : Value) (l : List (List UInt8)) (A : Option Addr) (n c : Nat) (x : List UInt8) (hb : Boxed w ob 42 v) (hob : ob < base) (hl : RL w T base v l) (hbase : base ≤ w.heap.size) (hx : Bs w S A n c x)
    (hS : ∀ k, S k → k < w.heap.size → T k ∧ some k ≠ v.ownBlock) (hT : ∀ k, T k → k ≠ ob) (hf : l.length + 1 ≤ 1000000000) : Calls Tryd.prog 47 #[.slice A n c, .pointer (some ⟨ob, 0, none⟩)] w (TakeEnd w T base ob l x) := by
  obtain ⟨A0, c0, rfl, _⟩ := hl.shape
  obtain ⟨vs, hq, hown, hv, hx2, hr⟩ := hl.ready (e' := 23) (Below.refl _ w) hx hS
  have hba := hb.alloc (.cells #[.slice A n c] 23)
  have k0 := hb.cell
  have f0 := hb.frozen
  have HBA := Lib.hid hba
  have HV := Lib.hid hv
  have HX := Lib.hid hx2
  have HB := Lib.hid hb
  have HT := Lib.hid hT
  have hlt := hb.lt
  clear hv hx2 hb hl hx hS hba hT
  go_enter Tryd.func47, Tryd.ntmps47
  have HNE : Hid (some ob ≠ (Value.slice A0 l.length c0).ownBlock) := Lib.hid (fun e => by have := own_base hown ob e.symm; omega)
  have HOW := Lib.hid (own_base hown)
  go_wp2_with (at_builtin; go_must ((refine wpList_append_row rfl (.tmp 3) (.tmp 5) rfl (base := base) (v := .slice A0 l.length c0) rfl hown rfl hr (by omega) (by simp; omega) ?_; intro v2 w2 hown2 hg2 hat2; obtain ⟨A7, c7, rfl, _⟩ := own_shape hown2; have hu := HBA.out.kept hg2 HNE.out; have c2 := hu.cell; have f2 := hu.frozen)))
  have hl2 := RL.snoc hq hf hown2 hg2 hat2 HV.out rfl HX.out
  have hset : Only (fun k => k = ob) w2 (w2.setCell ⟨ob, 0, none⟩ (.slice A7 (l.length + 1) c7)) := (Only.refl (fun k => k = ob) w2).setCell (p := ⟨ob, 0, none⟩) (.inl rfl) _
  have hO : Only (fun k => k = ob ∨ base ≤ k) w w2 := ((Only.refl _ w).alloc _).trans (Only.of_grown hg2 (fun k e => .inr (HOW.out k e)))
  go_end0
  exact ⟨rfl, _, hu.set _, hl2.but hset (fun k hk _ e => by have e' : k = ob := e; omega) (fun k hk _ => HT.out k hk), hO.setCell (p := ⟨ob, 0, none⟩) (.inl (.inl rfl)) _⟩
set_option maxHeartbeats 400000 in
theorem take53_any (w : World) (T S : Nat → Prop) (base ob : Nat) (v : Value) (l : List (List UInt8)) (A : Option Addr) (n c : Nat) (x : List UInt8) (hb : Boxed w ob 42 v) (hob : ob < base) (hl : RL w T base v l) (hbase : base ≤ w.heap.size) (hx : Bs w S A n c x)
    (hS : ∀ k, S k → k < w.heap.size → T k ∧ some k ≠ v.ownBlock) (hT : ∀ k, T k → k ≠ ob) (hf : l.length + 1 ≤ 1000000000) : Calls Tryd.prog 53 #[.slice A n c, .pointer (some ⟨ob, 0, none⟩)] w (TakeEnd w T base ob l x) := by
  obtain ⟨A0, c0, rfl, _⟩ := hl.shape
  obtain ⟨vs, hq, hown, hv, hx2, hr⟩ := hl.ready (e' := 23) (Below.refl _ w) hx hS
  have hba := hb.alloc (.cells #[.slice A n c] 23)
  have k0 := hb.cell
  have f0 := hb.frozen
  have HBA := Lib.hid hba
  have HV := Lib.hid hv
  have HX := Lib.hid hx2
  have HB := Lib.hid hb
  have HT := Lib.hid hT
  have hlt := hb.lt
  clear hv hx2 hb hl hx hS hba hT
  go_enter Tryd.func53, Tryd.ntmps53
  have HNE : Hid (some ob ≠ (Value.slice A0 l.length c0).ownBlock) := Lib.hid (fun e => by have := own_base hown ob e.symm; omega)
  have HOW := Lib.hid (own_base hown)
  go_wp2_with (at_builtin; go_must ((refine wpList_append_row rfl (.tmp 3) (.tmp 5) rfl (base := base) (v := .slice A0 l.length c0) rfl hown rfl hr (by omega) (by simp; omega) ?_; intro v2 w2 hown2 hg2 hat2; obtain ⟨A7, c7, rfl, _⟩ := own_shape hown2; have hu := HBA.out.kept hg2 HNE.out; have c2 := hu.cell; have f2 := hu.frozen)))
  have hl2 := RL.snoc hq hf hown2 hg2 hat2 HV.out rfl HX.out
  have hset : Only (fun k => k = ob) w2 (w2.setCell ⟨ob, 0, none⟩ (.slice A7 (l.length + 1) c7)) := (Only.refl (fun k => k = ob) w2).setCell (p := ⟨ob, 0, none⟩) (.inl rfl) _
  have hO : Only (fun k => k = ob ∨ base ≤ k) w w2 := ((Only.refl _ w).alloc _).trans (Only.of_grown hg2 (fun k e => .inr (HOW.out k e)))
  go_end0
  exact ⟨rfl, _, hu.set _, hl2.but hset (fun k hk _ e => by have e' : k = ob := e; omega) (fun k hk _ => HT.out k hk), hO.setCell (p := ⟨ob, 0, none⟩) (.inl (.inl rfl)) _⟩
/-- What lies between two rounds of each's loop. -/
structure Ew (w : World) (g ob : Nat) (r : Ch.Rule) (S : Nat → Prop) (bs : List UInt8) (A : Option Addr) (n c : Nat) (W : World) : Prop where
  gr : Grl W g r.seed
  on : Only (fun k => k = g ∨ k = ob ∨ w.heap.size ≤ k) w W
  bk : Blk W w.heap.size 95 (knifeV g r)
  few : n ≤ bs.length
  ls : ∃ x v l, Bs W S A n c x ∧ Boxed W ob 42 v ∧ RL W (fun k => w.heap.size < k) (w.heap.size + 1) v l ∧ l.length + n ≤ bs.length ∧ ∀ l' y, Ch.Sure r x l' y → Ch.Sure r bs (l ++ l') y
/-- What each answers. -/
def EachEnd (w : World) (g ob : Nat) (r : Ch.Rule) (S : Nat → Prop) (bs : List UInt8) (e : Ending) (w' : World) : Prop :=
  ∃ A n c x v l, e = .returned (.slice A n c) ∧ Ch.Sure r bs l x ∧ Bs w' S A n c x ∧ Boxed w' ob 42 v ∧ RL w' (fun k => w.heap.size < k) (w.heap.size + 1) v l ∧ Grl w' g r.seed ∧ Only (fun k => k = g ∨ k = ob ∨ w.heap.size ≤ k) w w'
theorem each_ends {w W : World} {g ob : Nat} {r : Ch.Rule} {S : Nat → Prop} {bs x : List UInt8} {A : Option Addr} {n c : Nat} {v : Value} {l : List (List UInt8)} (gr : Grl W g r.seed) (on : Only (fun k => k = g ∨ k = ob ∨ w.heap.size ≤ k) w W) (h1 : Bs W S A n c x) (h2 : Boxed W ob 42 v)
    (h3 : RL W (fun k => w.heap.size < k) (w.heap.size + 1) v l) (h5 : ∀ l' y, Ch.Sure r x l' y → Ch.Sure r bs (l ++ l') y) (hx : Ch.cutS r x = none) : EachEnd w g ob r S bs (.returned (.slice A n c)) W := by
  have := h5 [] x (.stop hx)
  rw [List.append_nil] at this
  exact ⟨A, n, c, x, v, l, rfl, this, h1, h2, h3, gr, on⟩
/-- What abides a cut. -/
theorem each_cut {w W w1 : World} {g ob : Nat} {r : Ch.Rule} {S : Nat → Prop} {x : List UInt8} {A : Option Addr} {n c : Nat} {v : Value} {l : List (List UInt8)} (hg : g < w.heap.size) (hgo : g ≠ ob) (hS : ∀ k, S k → k < w.heap.size ∧ k ≠ g ∧ k ≠ ob) (hi : Gi W g r.seed w1)
    (on : Only (fun k => k = g ∨ k = ob ∨ w.heap.size ≤ k) w W) (bk : Blk W w.heap.size 95 (knifeV g r)) (h1 : Bs W S A n c x) (h2 : Boxed W ob 42 v) (h3 : RL W (fun k => w.heap.size < k) (w.heap.size + 1) v l) :
    Grl w1 g r.seed ∧ Only (fun k => k = g ∨ k = ob ∨ w.heap.size ≤ k) w w1 ∧ Blk w1 w.heap.size 95 (knifeV g r) ∧ Bs w1 S A n c x ∧ Boxed w1 ob 42 v ∧ RL w1 (fun k => w.heap.size < k) (w.heap.size + 1) v l := by
  have ne : ∀ j, j ≠ g → some j ≠ some g := fun j hj e => hj (by injection e)
  have ho : Only (fun k => k = g) W w1 := Only.of_grown hi.2 (fun k e => by injection e with e; exact e.symm)
  exact ⟨hi.1, on.trans (ho.mono fun k _ e => .inl e), bk.grown hi.2 (ne _ (by omega)), h1.only hi.2 (fun k hk _ => (hS k hk).2.1), h2.kept hi.2 (ne _ (fun e => hgo e.symm)), h3.but ho (fun k hk _ e => by omega) (fun k hk _ e => by have : w.heap.size < k := hk; omega)⟩
theorem each_after {w W w1 : World} {g ob : Nat} {r : Ch.Rule} {S : Nat → Prop} {x : List UInt8} {A : Option Addr} {n c : Nat} {v : Value} {l : List (List UInt8)} (hb : Below W.heap.size W w1)
    (h : Grl W g r.seed ∧ Only (fun k => k = g ∨ k = ob ∨ w.heap.size ≤ k) w W ∧ Blk W w.heap.size 95 (knifeV g r) ∧ Bs W S A n c x ∧ Boxed W ob 42 v ∧ RL W (fun k => w.heap.size < k) (w.heap.size + 1) v l) :
    Grl w1 g r.seed ∧ Only (fun k => k = g ∨ k = ob ∨ w.heap.size ≤ k) w w1 ∧ Blk w1 w.heap.size 95 (knifeV g r) ∧ Bs w1 S A n c x ∧ Boxed w1 ob 42 v ∧ RL w1 (fun k => w.heap.size < k) (w.heap.size + 1) v l :=
  ⟨h.1.after hb, h.2.1.trans (Only.of_after hb), h.2.2.1.after hb, h.2.2.2.1.after hb, boxed_below h.2.2.2.2.1 hb h.2.2.2.2.1.lt, h.2.2.2.2.2.after hb⟩
/-- What abides the taking of a chunk. -/
theorem each_took {w W w1 : World} {g ob : Nat} {r : Ch.Rule} {S : Nat → Prop} {bs x : List UInt8} {A A' : Option Addr} {n c n' c' j : Nat} {v v' : Value} {l : List (List UInt8)} (hg : g < w.heap.size) (hgo : g ≠ ob) (hob : ob < w.heap.size) (hS : ∀ k, S k → k < w.heap.size ∧ k ≠ g ∧ k ≠ ob)
    (h : Grl W g r.seed ∧ Only (fun k => k = g ∨ k = ob ∨ w.heap.size ≤ k) w W ∧ Blk W w.heap.size 95 (knifeV g r) ∧ Bs W S A n c x ∧ Boxed W ob 42 v ∧ RL W (fun k => w.heap.size < k) (w.heap.size + 1) v l)
    (h2 : Boxed w1 ob 42 v') (h3 : RL w1 (fun k => w.heap.size < k) (w.heap.size + 1) v' (l ++ [x.take j])) (ho : Only (fun k => k = ob ∨ w.heap.size + 1 ≤ k) W w1) (hj : Ch.cutS r x = some j) (hln : l.length + n ≤ bs.length) (hn : j + n' = n)
    (h5 : ∀ l' y, Ch.Sure r x l' y → Ch.Sure r bs (l ++ l') y) (hx : Bs w1 S A n c x → Bs w1 S A' n' c' (x.drop j)) : Ew w g ob r S bs A' n' c' w1 := by
  obtain ⟨hj1, _⟩ := Ch.cut_some hj
  refine ⟨h.1.but ho (by omega), h.2.1.trans (ho.mono fun k _ e => e.elim (fun e => .inr (.inl e)) (fun e => .inr (.inr (by omega)))), h.2.2.1.but ho (by omega), by omega, x.drop j, v', l ++ [x.take j], ?_, h2, h3, by simp; omega, fun l' y hs => ?_⟩
  · exact hx (h.2.2.2.1.but ho (fun k hk _ e => by have := hS k hk; omega))
  · rw [List.append_assoc]
    exact h5 _ _ (.more hj hs)
set_option maxRecDepth 100000 in
set_option maxHeartbeats 2000000 in
theorem each47_chunks (w : World) (g ob : Nat) (r : Ch.Rule) (S : Nat → Prop) (A : Option Addr) (n c : Nat) (bs : List UInt8) (hT : Grl w g r.seed) (hx : Bs w S A n c bs) (hn : n ≤ 1000000000) (hS : ∀ k, S k → k < w.heap.size ∧ k ≠ g ∧ k ≠ ob) (hob : Boxed w ob 42 (.slice none 0 0)) (hgo : g ≠ ob) :
    Calls Tryd.prog 46 #[.agg (knifeV g r), .slice A n c, .func (.func 47) #[] #[.pointer (some ⟨ob, 0, none⟩)]] w (EachEnd w g ob r S bs) := by
  have hg := hT.lt
  have hol := hob.lt
  have HS := Lib.hid hS
  have hbl := hx.len
  have HE0 : Hid (∀ W, W = w.alloc (.cells (knifeV g r) 95) → Ew w g ob r S bs A n c W) := Lib.hid (by
    rintro W rfl
    have hb : Below w.heap.size w (w.alloc (.cells (knifeV g r) 95)) := (Below.refl _ w).alloc (Nat.le_refl _) _
    exact ⟨hT.after hb, Only.of_after hb, Blk.new w _ _, by omega, bs, _, [], hx.after hb, hob.alloc _, RL.nil _ _ _, by simp; omega, fun l' y h => h⟩)
  have HBL := Lib.hid hbl
  clear hT hx hS hob hbl
  obtain ⟨av, hav⟩ : ∃ av, av = 2 ^ r.k := ⟨_, rfl⟩
  obtain ⟨mask, hmask⟩ : ∃ mask, mask = Gear.maskK r.k := ⟨_, rfl⟩
  have HK : Hid (knifeV g r = #[.pointer (some ⟨g, 0, none⟩), .int .u64 (r.seed : Int), .int .i64 (r.mn : Int), .int .i64 (av : Int), .int .i64 (r.mx : Int), .int .u64 (mask : Int)]) := Lib.hid (by rw [hav, hmask]; rfl)
  have HE1 := HE0.out _ rfl
  rw [HK.out] at HE1 ⊢
  have HE2 := Lib.hid HE1
  clear hav hmask HE0 HE1
  go_enter Tryd.func46, Tryd.ntmps46
  go_wp2_with fail
  go_loopw [1] (fun v1 wr => ∃ (A1 : Option Addr) (n1 c1 : Nat), v1 = .slice A1 n1 c1 ∧ Hid (Ew w g ob r S bs A1 n1 c1 wr)) (fun v1 _ => match v1 with | .slice _ n1 _ => n1 | _ => 0)
  case atStart => exact ⟨A, n, c, rfl, HE2⟩
  case round =>
    obtain ⟨A1, n1, c1, rfl, HE⟩ := hrel
    clear HE2
    obtain ⟨x, v, l, h1, h2, h3, h4, h5⟩ := HE.out.ls
    have hbk := HE.out.bk
    rw [HK.out] at hbk
    obtain ⟨k0, k1, k2, k3, k4, k5, -⟩ := hbk.six
    have hfew := HE.out.few
    have hln := HBL.out
    by_cases hz : n1 = 0
    · subst hz
      have hx0 : x = [] := List.eq_nil_of_length_eq_zero h1.len
      have HR := Lib.hid (each_ends HE.out.gr HE.out.on h1 h2 h3 h5 (by rw [hx0]; exact Ch.cut_nil))
      clear h1 h2 h3 h4 h5 hx0 hbk
      go_wp2_with fail
      go_ret
      exact HR.out
    · have hpos : 0 < (n1 : Int) := by omega
      have HC := Lib.hid (cut_any wr g r S A1 n1 c1 x HE.out.gr h1 (by omega) (fun k hk => ⟨Nat.lt_of_lt_of_le (HS.out k hk).1 HE.out.on.size, (HS.out k hk).2.1⟩))
      have HP := Lib.hid (fun w1 (hi : Gi wr g r.seed w1) => each_cut hg hgo HS.out hi HE.out.on HE.out.bk h1 h2 h3)
      have H3 := Lib.hid h3
      have H5 := Lib.hid h5
      have hxl := h1.len
      rw [HK.out] at HC
      have hwr := HE.out.bk.lt
      clear h1 h2 h3 h5 hbk
      cases hc : Ch.cutS r x with
      | none =>
        have HCN := Lib.hid hc
        rw [hc, Option.isSome_none] at HC
        clear hc
        go_wp2_with fail
        refine (HC.out).mono ?_
        rintro e w1 ⟨rfl, hgi⟩
        have HR := Lib.hid (HP.out w1 hgi)
        clear hgi
        go_wp2_with fail
        go_ret
        exact each_ends HR.out.1 HR.out.2.1 HR.out.2.2.2.1 HR.out.2.2.2.2.1 HR.out.2.2.2.2.2 H5.out HCN.out
      | some j =>
        have HCN := Lib.hid hc
        obtain ⟨hj1, hj2, -, -⟩ := Ch.cut_some hc
        have hcn : cutN r x = j := by rw [cutN, hc]; rfl
        rw [hc, Option.isSome_some, hcn] at HC
        clear hc hcn
        go_wp2_with fail
        refine (HC.out).mono ?_
        rintro e w1 ⟨rfl, hgi⟩
        have HR := Lib.hid (HP.out w1 hgi)
        have hw1 := hgi.2.size
        clear hgi
        obtain ⟨A5, c5, hcut, hX5⟩ := HR.out.2.2.2.1.upto (j : Int) j rfl (by omega)
        have HX5 := Lib.hid hX5
        clear hX5
        go_wp2_with fail
        refine (bclone_any w1 S A5 j c5 _ HX5.out (by omega)).mono ?_
        rintro e w2 ⟨A6, c6, rfl, hown, hb2⟩
        have HR2 := Lib.hid (each_after hb2 HR.out)
        obtain ⟨A6', c6', e6, hX6⟩ := own_bs hown
        injection e6 with e61 e62 e63
        subst e61 e63
        have hw2 := hb2.size
        have hvb : ∀ k, v.ownBlock = some k → k < wr.heap.size := by
          obtain ⟨_, vs, _, ho, _⟩ := H3.out
          exact fun k hk => (ho.lt k hk).2
        have HT := Lib.hid (take47_any w2 (fun k => w.heap.size < k) (fun k => w1.heap.size ≤ k) (w.heap.size + 1) ob v l A6 j c6 (x.take j) HR2.out.2.2.2.2.1 (by omega) HR2.out.2.2.2.2.2 (by omega) hX6 (fun k hk _ => ⟨by have : w1.heap.size ≤ k := hk; show w.heap.size < k; omega, fun e => by have h1 := hvb k e.symm; have h2 : w1.heap.size ≤ k := hk; omega⟩) (fun k hk => by have : w.heap.size < k := hk; omega) (by omega))
        have hcut2 : ∃ A7 c7, (∀ W, (Instr.sliceAt 23 (.slice A1 n1 c1) (some (.int .i64 (j : Int))) none none).run Tryd.prog W = .ok (.slice A7 (n1 - j) c7) W) ∧ ∀ W, Bs W S A1 n1 c1 x → Bs W S A7 (n1 - j) c7 (x.drop j) := by
          obtain ⟨i0, hi0, _, hz1, _⟩ := info_parts Tryd.info5
          refine ⟨_, _, run_cut_from Tryd.underlying23 hi0 hz1 A1 n1 c1 (j : Int) j (n1 - j) rfl (by omega), fun W h => ?_⟩
          have h1 := h.drop (k := j) (by omega)
          simpa using h1
        obtain ⟨A7, c7, hcut7, hX7⟩ := hcut2
        have HX7 := Lib.hid hX7
        clear hown hb2 hX6 hvb hX7 hcut
        go_wp2_with fail
        refine (HT.out).mono ?_
        rintro e w3 ⟨rfl, v', hb3, hl3, ho3⟩
        have HE3 := Lib.hid (each_took hg hgo hol HS.out HR2.out hb3 hl3 ho3 HCN.out h4 (by omega : j + (n1 - j) = n1) H5.out (HX7.out w3))
        clear hb3 hl3 ho3
        go_wp2_with fail
        go_roundw
        case rel => exact ⟨A7, n1 - j, c7, rfl, HE3⟩
        case measure => simp; omega
set_option maxRecDepth 100000 in
set_option maxHeartbeats 2000000 in
theorem each53_chunks (w : World) (g ob : Nat) (r : Ch.Rule) (S : Nat → Prop) (A : Option Addr) (n c : Nat) (bs : List UInt8) (hT : Grl w g r.seed) (hx : Bs w S A n c bs) (hn : n ≤ 1000000000) (hS : ∀ k, S k → k < w.heap.size ∧ k ≠ g ∧ k ≠ ob) (hob : Boxed w ob 42 (.slice none 0 0)) (hgo : g ≠ ob) :
    Calls Tryd.prog 46 #[.agg (knifeV g r), .slice A n c, .func (.func 53) #[] #[.pointer (some ⟨ob, 0, none⟩)]] w (EachEnd w g ob r S bs) := by
  have hg := hT.lt
  have hol := hob.lt
  have HS := Lib.hid hS
  have hbl := hx.len
  have HE0 : Hid (∀ W, W = w.alloc (.cells (knifeV g r) 95) → Ew w g ob r S bs A n c W) := Lib.hid (by
    rintro W rfl
    have hb : Below w.heap.size w (w.alloc (.cells (knifeV g r) 95)) := (Below.refl _ w).alloc (Nat.le_refl _) _
    exact ⟨hT.after hb, Only.of_after hb, Blk.new w _ _, by omega, bs, _, [], hx.after hb, hob.alloc _, RL.nil _ _ _, by simp; omega, fun l' y h => h⟩)
  have HBL := Lib.hid hbl
  clear hT hx hS hob hbl
  obtain ⟨av, hav⟩ : ∃ av, av = 2 ^ r.k := ⟨_, rfl⟩
  obtain ⟨mask, hmask⟩ : ∃ mask, mask = Gear.maskK r.k := ⟨_, rfl⟩
  have HK : Hid (knifeV g r = #[.pointer (some ⟨g, 0, none⟩), .int .u64 (r.seed : Int), .int .i64 (r.mn : Int), .int .i64 (av : Int), .int .i64 (r.mx : Int), .int .u64 (mask : Int)]) := Lib.hid (by rw [hav, hmask]; rfl)
  have HE1 := HE0.out _ rfl
  rw [HK.out] at HE1 ⊢
  have HE2 := Lib.hid HE1
  clear hav hmask HE0 HE1
  go_enter Tryd.func46, Tryd.ntmps46
  go_wp2_with fail
  go_loopw [1] (fun v1 wr => ∃ (A1 : Option Addr) (n1 c1 : Nat), v1 = .slice A1 n1 c1 ∧ Hid (Ew w g ob r S bs A1 n1 c1 wr)) (fun v1 _ => match v1 with | .slice _ n1 _ => n1 | _ => 0)
  case atStart => exact ⟨A, n, c, rfl, HE2⟩
  case round =>
    obtain ⟨A1, n1, c1, rfl, HE⟩ := hrel
    clear HE2
    obtain ⟨x, v, l, h1, h2, h3, h4, h5⟩ := HE.out.ls
    have hbk := HE.out.bk
    rw [HK.out] at hbk
    obtain ⟨k0, k1, k2, k3, k4, k5, -⟩ := hbk.six
    have hfew := HE.out.few
    have hln := HBL.out
    by_cases hz : n1 = 0
    · subst hz
      have hx0 : x = [] := List.eq_nil_of_length_eq_zero h1.len
      have HR := Lib.hid (each_ends HE.out.gr HE.out.on h1 h2 h3 h5 (by rw [hx0]; exact Ch.cut_nil))
      clear h1 h2 h3 h4 h5 hx0 hbk
      go_wp2_with fail
      go_ret
      exact HR.out
    · have hpos : 0 < (n1 : Int) := by omega
      have HC := Lib.hid (cut_any wr g r S A1 n1 c1 x HE.out.gr h1 (by omega) (fun k hk => ⟨Nat.lt_of_lt_of_le (HS.out k hk).1 HE.out.on.size, (HS.out k hk).2.1⟩))
      have HP := Lib.hid (fun w1 (hi : Gi wr g r.seed w1) => each_cut hg hgo HS.out hi HE.out.on HE.out.bk h1 h2 h3)
      have H3 := Lib.hid h3
      have H5 := Lib.hid h5
      have hxl := h1.len
      rw [HK.out] at HC
      have hwr := HE.out.bk.lt
      clear h1 h2 h3 h5 hbk
      cases hc : Ch.cutS r x with
      | none =>
        have HCN := Lib.hid hc
        rw [hc, Option.isSome_none] at HC
        clear hc
        go_wp2_with fail
        refine (HC.out).mono ?_
        rintro e w1 ⟨rfl, hgi⟩
        have HR := Lib.hid (HP.out w1 hgi)
        clear hgi
        go_wp2_with fail
        go_ret
        exact each_ends HR.out.1 HR.out.2.1 HR.out.2.2.2.1 HR.out.2.2.2.2.1 HR.out.2.2.2.2.2 H5.out HCN.out
      | some j =>
        have HCN := Lib.hid hc
        obtain ⟨hj1, hj2, -, -⟩ := Ch.cut_some hc
        have hcn : cutN r x = j := by rw [cutN, hc]; rfl
        rw [hc, Option.isSome_some, hcn] at HC
        clear hc hcn
        go_wp2_with fail
        refine (HC.out).mono ?_
        rintro e w1 ⟨rfl, hgi⟩
        have HR := Lib.hid (HP.out w1 hgi)
        have hw1 := hgi.2.size
        clear hgi
        obtain ⟨A5, c5, hcut, hX5⟩ := HR.out.2.2.2.1.upto (j : Int) j rfl (by omega)
        have HX5 := Lib.hid hX5
        clear hX5
        go_wp2_with fail
        refine (bclone_any w1 S A5 j c5 _ HX5.out (by omega)).mono ?_
        rintro e w2 ⟨A6, c6, rfl, hown, hb2⟩
        have HR2 := Lib.hid (each_after hb2 HR.out)
        obtain ⟨A6', c6', e6, hX6⟩ := own_bs hown
        injection e6 with e61 e62 e63
        subst e61 e63
        have hw2 := hb2.size
        have hvb : ∀ k, v.ownBlock = some k → k < wr.heap.size := by
          obtain ⟨_, vs, _, ho, _⟩ := H3.out
          exact fun k hk => (ho.lt k hk).2
        have HT := Lib.hid (take53_any w2 (fun k => w.heap.size < k) (fun k => w1.heap.size ≤ k) (w.heap.size + 1) ob v l A6 j c6 (x.take j) HR2.out.2.2.2.2.1 (by omega) HR2.out.2.2.2.2.2 (by omega) hX6 (fun k hk _ => ⟨by have : w1.heap.size ≤ k := hk; show w.heap.size < k; omega, fun e => by have h1 := hvb k e.symm; have h2 : w1.heap.size ≤ k := hk; omega⟩) (fun k hk => by have : w.heap.size < k := hk; omega) (by omega))
        have hcut2 : ∃ A7 c7, (∀ W, (Instr.sliceAt 23 (.slice A1 n1 c1) (some (.int .i64 (j : Int))) none none).run Tryd.prog W = .ok (.slice A7 (n1 - j) c7) W) ∧ ∀ W, Bs W S A1 n1 c1 x → Bs W S A7 (n1 - j) c7 (x.drop j) := by
          obtain ⟨i0, hi0, _, hz1, _⟩ := info_parts Tryd.info5
          refine ⟨_, _, run_cut_from Tryd.underlying23 hi0 hz1 A1 n1 c1 (j : Int) j (n1 - j) rfl (by omega), fun W h => ?_⟩
          have h1 := h.drop (k := j) (by omega)
          simpa using h1
        obtain ⟨A7, c7, hcut7, hX7⟩ := hcut2
        have HX7 := Lib.hid hX7
        clear hown hb2 hX6 hvb hX7 hcut
        go_wp2_with fail
        refine (HT.out).mono ?_
        rintro e w3 ⟨rfl, v', hb3, hl3, ho3⟩
        have HE3 := Lib.hid (each_took hg hgo hol HS.out HR2.out hb3 hl3 ho3 HCN.out h4 (by omega : j + (n1 - j) = n1) H5.out (HX7.out w3))
        clear hb3 hl3 ho3
        go_wp2_with fail
        go_roundw
        case rel => exact ⟨A7, n1 - j, c7, rfl, HE3⟩
        case measure => simp; omega
end Go.Proofs.YtognkonncfjneaaDoor
