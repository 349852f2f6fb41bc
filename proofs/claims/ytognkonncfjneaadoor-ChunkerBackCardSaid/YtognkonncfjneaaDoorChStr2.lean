/- The walk of Write (chunker). Conditions: each theorem's premises. -/
import Derived.Test.YtognkonncfjneaaDoorChStr1
import Derived.Deep.RegionLaw
namespace Go.Proofs.YtognkonncfjneaaDoor
open Go.RowKit
def WriteEnd (w : World) (s g : Nat) (r : Ch.Rule) (lv : Value) (all : List UInt8) (e : Ending) (w' : World) : Prop :=
  ∃ v l x lv', e = .returned (.tuple #[v, .int .i64 0]) ∧ Ch.Sure r all l x ∧ St w' s g r lv' x false ∧ RL w' (fun k => w.heap.size ≤ k ∧ lv'.ownBlock ≠ some k) w.heap.size v l ∧ Only (fun k => k = g ∨ k = s ∨ lv.ownBlock = some k) w w' ∧ (∀ k, lv'.ownBlock = some k → w.heap.size ≤ k)
theorem write_nil (w : World) (A : Option Addr) (n c : Nat) : Calls Tryd.prog 36 #[.pointer none, .slice A n c] w fun e w' => e = .returned (.tuple #[.slice none 0 0, .int .i64 18]) ∧ Below w.heap.size w w' := by
  have hB : Hid (Boxed (w.alloc (.cells #[.slice none 0 0] 42)) w.heap.size 42 (.slice none 0 0) ∧ Below w.heap.size w (w.alloc (.cells #[.slice none 0 0] 42))) := Lib.hid ⟨Boxed.new _ _ _, (Below.refl _ w).alloc (Nat.le_refl _) _⟩
  go_enter Tryd.func36, Tryd.ntmps36
  go_wp2_with fail
  refine (over_nil _).mono ?_
  rintro e w' ⟨rfl, rfl⟩
  go_wp2_with fail
  refine bodyPost_ret (results_cell2 rfl rfl (load42 hB.out.1)) rfl ⟨rfl, hB.out.2⟩
theorem write_closed (w : World) (s : Nat) (h : w.cell? ⟨s, 7, none⟩ = some (.bool true)) (A : Option Addr) (n c : Nat) : Calls Tryd.prog 36 #[.pointer (some ⟨s, 0, none⟩), .slice A n c] w fun e w' => e = .returned (.tuple #[.slice none 0 0, .int .i64 13]) ∧ Below w.heap.size w w' := by
  have hB : Hid (Boxed (w.alloc (.cells #[.slice none 0 0] 42)) w.heap.size 42 (.slice none 0 0) ∧ Below w.heap.size w (w.alloc (.cells #[.slice none 0 0] 42))) := Lib.hid ⟨Boxed.new _ _ _, (Below.refl _ w).alloc (Nat.le_refl _) _⟩
  have h1 : (w.alloc (.cells #[.slice none 0 0] 42)).cell? ⟨s, 7, none⟩ = some (.bool true) := (hB.out.2.cell (p := ⟨s, 7, none⟩) (World.block_lt_of_cell? w _ h)).trans h
  clear h
  go_enter Tryd.func36, Tryd.ntmps36
  go_wp2_with fail
  refine (over_closed _ s h1).mono ?_
  rintro e w' ⟨rfl, rfl⟩
  go_wp2_with fail
  refine bodyPost_ret (results_cell2 rfl rfl (load42 hB.out.1)) rfl ⟨rfl, hB.out.2⟩
theorem step_append_u8 {ops : Array Oper} {o : Oper} {a : Act} {K : Act → World → Prop} {Q : Exit → Act → World → Prop} {E : Prop} {w : World} (hgd : o.guard = none) (s x : Operand)
    (ho : o.op = .call { callee := .builtin .append, args := #[s, x], argTypes := #[23, 23] })
    {base : Nat} {v : Value} {n : Nat} {xs : List UInt8} (hs : a.eval s = v) (hown : w.ownsRow base 5 1 v n (u8s xs))
    {S : Nat → Prop} {A : Option Addr} {m c : Nat} {ys : List UInt8} (hx : a.eval x = .slice A m c) (hr : Bs w S A m c ys)
    (hbytes : n + m ≤ 140737488355328) (hbase : base ≤ w.heap.size)
    (h : ∀ v' w', w'.ownsRow base 5 1 v' (n + m) (u8s (xs ++ ys)) → w.grownBy w' v.ownBlock → (v'.ownBlock = v.ownBlock ∨ v'.ownBlock = some w.heap.size) → K (a.put o.dst v') w') :
    if Region.wanted o (yielded ops a.tmps) = true then Oper.wp Tryd.prog o a w K Q else E := by
  obtain ⟨i0, hi0, hz0, hz1, hz2⟩ := info_parts Tryd.info5
  refine step_append_any w hgd s x 23 ho base 5 i0 _ 1 1 Tryd.underlying23 hi0 hz0 hz1 hz2 rfl (by omega) v n (u8s xs) hs hown S A m c (u8s ys) hx hr.rd u8s_one (by simp only [maxLen]; omega) (by omega) hbase ?_
  intro v' w' h1 h2 h3
  exact h v' w' (by rw [u8s_append]; exact h1) h2 h3
/-- Behind the append. -/
theorem write_mid {w W w2 : World} {s g : Nat} {r : Ch.Rule} {lv v2 : Value} {left : List UInt8} {n : Nat} {xs : List Value} (hsW : W.heap.size = w.heap.size + 1) (HST : St W s g r lv left false) (hlv : ∀ k, lv.ownBlock = some k → k < w.heap.size) (HB : Boxed W w.heap.size 42 (.slice none 0 0)) (hg : W.drew.grownBy w2 lv.ownBlock) (hat : v2.ownBlock = lv.ownBlock ∨ v2.ownBlock = some W.drew.heap.size) (hown2 : w2.ownsRow (s + 1) 5 1 v2 n xs) :
    Grl w2 g r.seed ∧ Boxed w2 w.heap.size 42 (.slice none 0 0) ∧ Blk w2 s 105 (strV g r lv false) ∧ (∀ k, v2.ownBlock = some k → k < w2.heap.size ∧ k ≠ g ∧ k ≠ w.heap.size ∧ k ≠ s) ∧ Only (fun k => lv.ownBlock = some k) W w2 := by
  have ho : Only (fun k => lv.ownBlock = some k) W w2 := by
    have h := Only.of_grown (X := fun k => lv.ownBlock = some k) hg (fun k e => e)
    exact ⟨h.os, h.tape, h.output, h.size, h.block⟩
  have hgs := HST.lt
  have hb := own_base HST.ow
  refine ⟨HST.gr.but ho (fun e => by have := hb g e; omega), Boxed.but HB ho (fun e => by have := hlv _ e; omega), HST.bk.but ho (fun e => by have := hb s e; omega), fun k hk => ?_, ho⟩
  have h1 := (hown2.lt k hk)
  refine ⟨h1.2, by omega, fun e => ?_, by omega⟩
  subst e
  rcases hat with e | e
  · rw [e] at hk; have := hlv _ hk; omega
  · rw [e] at hk
    injection hk with hk
    have hk' : W.heap.size = w.heap.size := hk
    omega
theorem own_mono {w : World} {base base' n size : Nat} {e : TypeId} {v : Value} {xs : List Value} (h : w.ownsRow base e size v n xs) (hb : base' ≤ base) : w.ownsRow base' e size v n xs :=
  ⟨h.1, h.2.imp id fun ⟨g, cap, cur, e, hg, r⟩ => ⟨g, cap, cur, e, Nat.le_trans hb hg, r⟩⟩
theorem RL.oldT {w : World} {T : Nat → Prop} {base : Nat} {v : Value} {l : List (List UInt8)} (h : RL w T base v l) : RL w (fun k => T k ∧ k < w.heap.size) base v l := by
  obtain ⟨hf, vs, hq, hown, hv⟩ := h
  refine ⟨hf, vs, hq, hown, fun i u x h1 h2 => ?_⟩
  obtain ⟨A, n, c, e, h3⟩ := hv i u x h1 h2
  exact ⟨A, n, c, e, h3.keep (fun _ _ _ => rfl) (fun k hk hlt => ⟨⟨hk.1, hlt⟩, hk.2⟩)⟩
/-- Behind the store. -/
theorem write_final {w W w2 w3 w4 : World} {s g : Nat} {r : Ch.Rule} {lv v2 lv4 v : Value} {left x : List UInt8} {l : List (List UInt8)} {n4 : Nat} (hsW : W.heap.size = w.heap.size + 1) (HST : St W s g r lv left false) (hbW : Below w.heap.size w W) (hsl : s < w.heap.size)
    (hm2 : Grl w2 g r.seed ∧ Boxed w2 w.heap.size 42 (.slice none 0 0) ∧ Blk w2 s 105 (strV g r lv false) ∧ (∀ k, v2.ownBlock = some k → k < w2.heap.size ∧ k ≠ g ∧ k ≠ w.heap.size ∧ k ≠ s) ∧ Only (fun k => lv.ownBlock = some k) W w2)
    (hb3 : Boxed w3 w.heap.size 42 v) (hl3 : RL w3 (fun k => w2.heap.size < k) (w2.heap.size + 1) v l) (hg3 : Grl w3 g r.seed) (ho3 : Only (fun k => k = g ∨ k = w.heap.size ∨ w2.heap.size ≤ k) w2 w3) (hown4 : w4.ownsRow w3.heap.size 5 1 lv4 n4 (u8s x)) (hb4 : Below w3.heap.size w3 w4) :
    St (w4.setCell ⟨s, 6, none⟩ lv4) s g r lv4 x false ∧ Boxed (w4.setCell ⟨s, 6, none⟩ lv4) w.heap.size 42 v ∧ RL (w4.setCell ⟨s, 6, none⟩ lv4) (fun k => w.heap.size < k ∧ lv4.ownBlock ≠ some k) (w.heap.size + 1) v l ∧ Only (fun k => k = g ∨ k = s ∨ lv.ownBlock = some k) w (w4.setCell ⟨s, 6, none⟩ lv4) ∧ ∀ k, lv4.ownBlock = some k → w.heap.size < k := by
  obtain ⟨-, -, hbk2, -, ho2⟩ := hm2
  have hgs := HST.lt
  have hs2 := ho2.size
  have hs3 := ho3.size
  have hs4 := hb4.size
  have hset : Only (fun k => k = s) w4 (w4.setCell ⟨s, 6, none⟩ lv4) := (Only.refl (fun k => k = s) w4).setCell (p := ⟨s, 6, none⟩) (.inl rfl) _
  have hb5 := own_base hown4
  have hn4 : n4 = x.length := by have := hown4.1; simp [u8s] at this; exact this.symm
  subst hn4
  refine ⟨⟨?_, (hg3.after hb4).but hset (by omega), own_mono (own_but hown4 hset (fun k hk e => by have := hb5 k hk; omega)) (by omega), hgs⟩, Boxed.but (boxed_below hb3 hb4 hb3.lt) hset (by omega), ?_, ?_, fun k hk => by have := hb5 k hk; omega⟩
  · have h1 := (Blk.but hbk2 ho3 (by omega)).after hb4
    have := h1.set_ 6 lv4
    simpa [strV] using this
  · exact (((hl3.oldT.after hb4).but hset (fun k hk _ e => by omega) (fun k hk _ e => by have := hk.1; omega)).mono (fun k hk => ⟨by omega, fun e => by have := hb5 k e; omega⟩) (by omega))
  · have hX : Only (fun k => k = g ∨ k = s ∨ lv.ownBlock = some k ∨ w.heap.size ≤ k) w (w4.setCell ⟨s, 6, none⟩ lv4) :=
      (((((Only.of_after hbW).trans (ho2.mono fun k _ e => .inr (.inr (.inl e)))).trans (ho3.mono fun k _ e => by omega)).trans (Only.of_after hb4)).trans (hset.mono fun k _ e => .inr (.inl e)))
    exact hX.mono fun k hk e => by
      rcases e with e | e | e | e
      · exact .inl e
      · exact .inr (.inl e)
      · exact .inr (.inr e)
      · omega
set_option maxRecDepth 100000 in
set_option maxHeartbeats 2000000 in
theorem write_any (w : World) (s g : Nat) (r : Ch.Rule) (lv : Value) (left bs : List UInt8) (S : Nat → Prop) (A : Option Addr) (n c : Nat) (h : St w s g r lv left false) (hx : Bs w S A n c bs) (hS : ∀ k, S k → k < w.heap.size → k ≠ g ∧ k ≠ s ∧ lv.ownBlock ≠ some k) (hn : left.length + n ≤ 100000000) :
    Calls Tryd.prog 36 #[.pointer (some ⟨s, 0, none⟩), .slice A n c] w (WriteEnd w s g r lv (left ++ bs)) := by
  obtain ⟨A0, c0, hlv, -⟩ := own_shape h.ow
  obtain ⟨N0, hN0⟩ : ∃ N, N = left.length := ⟨_, rfl⟩
  rw [← hN0] at hlv hn
  subst hlv
  obtain ⟨av, hav⟩ : ∃ av, av = 2 ^ r.k := ⟨_, rfl⟩
  obtain ⟨mask, hmask⟩ : ∃ mask, mask = Gear.maskK r.k := ⟨_, rfl⟩
  have HK : Hid (knifeV g r = #[.pointer (some ⟨g, 0, none⟩), .int .u64 (r.seed : Int), .int .i64 (r.mn : Int), .int .i64 (av : Int), .int .i64 (r.mx : Int), .int .u64 (mask : Int)]) := Lib.hid (by rw [hav, hmask]; rfl)
  have HSV : Hid (∀ lv cl, strV g r lv cl = #[.pointer (some ⟨g, 0, none⟩), .int .u64 (r.seed : Int), .int .i64 (r.mn : Int), .int .i64 (av : Int), .int .i64 (r.mx : Int), .int .u64 (mask : Int), lv, .bool cl]) := Lib.hid (by rw [hav, hmask]; exact fun lv cl => rfl)
  obtain ⟨W, hW⟩ : ∃ W, W = w.alloc (.cells #[.slice none 0 0] 42) := ⟨_, rfl⟩
  have hbW : Below w.heap.size w W := by rw [hW]; exact (Below.refl _ w).alloc (Nat.le_refl _) _
  have hsW : W.heap.size = w.heap.size + 1 := by rw [hW]; simp
  have HB : Hid (Boxed W w.heap.size 42 (.slice none 0 0)) := Lib.hid (by rw [hW]; exact Boxed.new _ _ _)
  have HST := Lib.hid (h.after hbW)
  have HX := Lib.hid (hx.oldS.after hbW)
  have HS := Lib.hid hS
  have HBW := Lib.hid hbW
  have HLV : Hid (∀ k, (Value.slice A0 N0 c0).ownBlock = some k → k < w.heap.size) := Lib.hid fun k hk => (h.ow.lt k hk).2
  have HN0 := Lib.hid hN0
  have hsl := h.bk.lt
  have hgl := h.lt
  have hbk := HST.out.bk
  rw [HSV.out] at hbk
  obtain ⟨k0, k1, k2, k3, k4, k5, k6, k7, f6, f7, hs⟩ := hbk.eight
  have HSW := Lib.hid hsW
  clear h hx hS hbW hsW hav hmask hN0 hbk
  go_enter Tryd.func36, Tryd.ntmps36
  go_wp2_with fail
  rw [← hW]
  clear hW
  refine (over_open _ s k7).mono ?_
  rintro e w' ⟨rfl, rfl⟩
  go_wp2_with fail
  have HOW : Hid (W.drew.ownsRow (s + 1) 5 1 (.slice A0 N0 c0) N0 (u8s left)) := Lib.hid (by have h := HST.out.ow.drew; rw [← HN0.out] at h; exact h)
  have HEC : Hid (∀ (w2 : World) (S : Nat → Prop) (A : Option Addr) (n c : Nat) (bs : List UInt8), Grl w2 g r.seed → Bs w2 S A n c bs → n ≤ 1000000000 → (∀ k, S k → k < w2.heap.size ∧ k ≠ g ∧ k ≠ w.heap.size) → Boxed w2 w.heap.size 42 (.slice none 0 0) → Calls Tryd.prog 46 #[.agg #[.pointer (some ⟨g, 0, none⟩), .int .u64 (r.seed : Int), .int .i64 (r.mn : Int), .int .i64 (av : Int), .int .i64 (r.mx : Int), .int .u64 (mask : Int)], .slice A n c, .func (.func 53) #[] #[.pointer (some ⟨w.heap.size, 0, none⟩)]] w2 (EachEnd w2 g w.heap.size r S bs)) :=
    Lib.hid (by rw [← HK.out]; exact fun w2 S A n c bs h1 h2 h3 h4 h5 => each53_chunks w2 g w.heap.size r S A n c bs h1 h2 h3 h4 h5 (by omega))
  go_region_law (first | (refine step_append_u8 rfl (.tmp 23) (.tmp 24) rfl (base := s + 1) (v := .slice A0 N0 c0) (n := N0) (xs := left) rfl HOW.out rfl HX.out.drew (by omega) (by show s + 1 ≤ W.heap.size; omega) ?_; intro v2 w2 hown2 hg2 hat2; go_must ((have hm2 := write_mid HSW.out HST.out HLV.out HB.out hg2 hat2 hown2; obtain ⟨A2, c2, hv2, hx2⟩ := own_bs' hown2; subst hv2; have hbk2 := hm2.2.2.1; rw [HSV.out] at hbk2; obtain ⟨y0, y1, y2, y3, y4, y5, y6, y7, g6, g7, hy⟩ := hbk2.eight))) | (go_simp; go_at_call 46; refine (HEC.out w2 _ A2 (N0 + n) c2 (left ++ bs) hm2.1 hx2 (by omega) (fun k hk => ⟨(hm2.2.2.2.1 k hk).1, (hm2.2.2.2.1 k hk).2.1, (hm2.2.2.2.1 k hk).2.2.1⟩) hm2.2.1).mono ?_; rintro e w3 ⟨A3, n3, c3, x, v, l, rfl, hsure, hx3, hb3, hl3, hg3, ho3⟩; go_must ((have hbk3 := Blk.but hm2.2.2.1 ho3 (fun e => by have := hm2.2.2.1.lt; have h1 := HST.out.lt; have h2 := hsl; omega)))) | (go_simp; go_at_call 48; refine (bclone_any w3 _ A3 n3 c3 x hx3 (by have := sure_few hsure; have h2 := hx3.len; rw [List.length_append] at this; have h3 := HX.out.len; have h4 := HN0.out; omega)).mono ?_; rintro e w4 ⟨A4, c4, rfl, hown4, hb4⟩; go_must ((have hbk4 := hbk3.after hb4; have hbk4' := hbk4; rw [HSV.out] at hbk4'; obtain ⟨z0, z1, z2, z3, z4, z5, z6, z7, e6, e7, hz⟩ := hbk4'.eight))))
  all_goals
    obtain ⟨Av, cv, hv, -⟩ := hl3.shape
    subst hv
    have hF := write_final HSW.out HST.out HBW.out hsl hm2 hb3 hl3 hg3 ho3 hown4 hb4
    obtain ⟨W5, hW5⟩ : ∃ W5, W5 = w4.setCell ⟨s, 6, none⟩ (.slice A4 n3 c4) := ⟨_, rfl⟩
    rw [← hW5] at hF ⊢
    have HF := Lib.hid hF
    have c5 := hF.2.1.cell
    have f5 := hF.2.1.frozen
    have HSU := Lib.hid hsure
    clear hF hW5 hm2 hb3 hl3 hg3 ho3 hown4 hb4 hsure hx3 hbk3 hbk4 hbk4' z0 z1 z2 z3 z4 z5 z6 z7 e6 e7 y0 y1 y2 y3 y4 y5 y6 y7 g6 g7 hx2 hbk2 hown2 hg2 hat2 k0 k1 k2 k3 k4 k5 k6 k7 f6 f7
    go_wp2_with fail
    have hset : Only (fun k => k = w.heap.size) W5 (W5.setCell ⟨w.heap.size, 0, none⟩ (.slice Av l.length cv)) := (Only.refl (fun k => k = w.heap.size) W5).setCell (p := ⟨w.heap.size, 0, none⟩) (.inl rfl) _
    refine bodyPost_ret (results_cell2 rfl rfl (load42 (HF.out.2.1.set _))) rfl ⟨_, l, x, .slice A4 n3 c4, rfl, HSU.out, St.but HF.out.1 hset (by omega) (by have := HF.out.1.lt; omega) (fun k hk e => by have := HF.out.2.2.2.2 k hk; omega), ?_, ?_, fun k hk => Nat.le_of_lt (HF.out.2.2.2.2 k hk)⟩
    · exact (HF.out.2.2.1.but hset (fun k hk _ e => by omega) (fun k hk _ e => by have := hk.1; omega)).mono (fun k hk => ⟨Nat.le_of_lt hk.1, hk.2⟩) (Nat.le_succ _)
    · exact ((HF.out.2.2.2.1.mono (Y := fun k => k = g ∨ k = s ∨ (Value.slice A0 N0 c0).ownBlock = some k ∨ w.heap.size ≤ k) fun k _ e => by rcases e with e | e | e <;> simp only [e, true_or, or_true]).trans (hset.mono fun k _ e => .inr (.inr (.inr (Nat.le_of_eq e.symm))))).mono fun k hk e => by
        rcases e with e | e | e | e
        · exact .inl e
        · exact .inr (.inl e)
        · exact .inr (.inr e)
        · omega
end Go.Proofs.YtognkonncfjneaaDoor
