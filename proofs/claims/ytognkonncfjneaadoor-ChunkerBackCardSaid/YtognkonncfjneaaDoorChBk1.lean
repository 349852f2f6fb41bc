/- Chunks that a stream gives, laid behind one another (for ChunkerBack). Conditions: each theorem's premises. -/
import Derived.Test.YtognkonncfjneaaDoorChStrm1
namespace Go.Proofs.YtognkonncfjneaaDoor
open Go.RowKit
theorem RL.but' {w w' : World} {T X : Nat → Prop} {base : Nat} {v : Value} {l : List (List UInt8)} (h : RL w T base v l) (ho : Only X w w') (h1 : ∀ k, v.ownBlock = some k → ¬ X k) (h2 : ∀ k, T k → k < w.heap.size → ¬ X k) : RL w' T base v l := by
  obtain ⟨hf, vs, hq, hown, hv⟩ := h
  refine ⟨hf, vs, hq, own_but hown ho h1, fun i u x h3 h4 => ?_⟩
  obtain ⟨A', n', c', e', hbs⟩ := hv i u x h3 h4
  exact ⟨A', n', c', e', hbs.but ho (fun k hk hlt => h2 k hk.1 hlt)⟩
theorem RL.olds {w : World} {T T' : Nat → Prop} {base : Nat} {v : Value} {l : List (List UInt8)} (h : RL w T base v l) (hT : ∀ k, T k → k < w.heap.size → T' k) : RL w T' base v l :=
  h.oldT.mono (fun k hk => hT k hk.1 hk.2) (Nat.le_refl _)
theorem RL.lt {w : World} {T : Nat → Prop} {base : Nat} {v : Value} {l : List (List UInt8)} (h : RL w T base v l) : ∀ k, v.ownBlock = some k → base ≤ k ∧ k < w.heap.size := by
  obtain ⟨_, _, _, hown, _⟩ := h
  exact fun k hk => ⟨own_base hown k hk, (hown.lt k hk).2⟩
/-- One list behind another. -/
theorem RL.cat {w : World} {T T2 : Nat → Prop} {base base2 : Nat} {v v2 : Value} {l m : List (List UInt8)} (h : RL w T base v l) (h2 : RL w T2 base2 v2 m) (hT : ∀ k, T2 k → T k ∧ some k ≠ v.ownBlock) (hf : l.length + m.length ≤ 1000000000) :
    ∃ vs A c us, v2 = .slice A m.length c ∧ w.ownsRow base 23 1 v l.length vs ∧ Reads w (fun _ => True) 1 A m.length us ∧ (∀ u ∈ us, u.oneCell' = true) ∧
      ∀ v' w2, w2.ownsRow base 23 1 v' (l.length + m.length) (vs ++ us) → w.grownBy w2 v.ownBlock → (v'.ownBlock = v.ownBlock ∨ v'.ownBlock = some w.heap.size) → RL w2 T base v' (l ++ m) := by
  obtain ⟨A, c, e2, -⟩ := h2.shape
  obtain ⟨_, vs, hq, hown, hv⟩ := h
  obtain ⟨_, us, hq2, hown2, hv2⟩ := h2
  subst e2
  refine ⟨vs, A, c, us, rfl, hown, (Reads.of_own hown2).mono (fun _ _ => trivial), fun u hu => ?_, fun v' w2 ho hg hat => ?_⟩
  · obtain ⟨i, hi, rfl⟩ := List.getElem_of_mem hu
    obtain ⟨A', n', c', e, -⟩ := hv2 i us[i] (m[i]'(by omega)) (List.getElem?_eq_getElem hi) (List.getElem?_eq_getElem _)
    rw [e]; rfl
  · have hkeep : ∀ {A n c} {x : List UInt8}, Bs w (fun k => T k ∧ some k ≠ v.ownBlock) A n c x → Bs w2 (fun k => T k ∧ some k ≠ v'.ownBlock) A n c x := fun h =>
      h.keep (fun p hp hlt => World.cell?_of_block (hg.block p.block hlt hp.2)) (fun k hk hlt => ⟨hk.1, by
        rcases hat with e | e
        · rw [e]; exact hk.2
        · rw [e]; intro h; injection h with h; omega⟩)
    refine ⟨by rw [List.length_append]; exact hf, vs ++ us, by simp [hq, hq2], by rw [List.length_append]; exact ho, fun i u x h1 h2 => ?_⟩
    rcases Nat.lt_or_ge i vs.length with hi | hi
    · rw [List.getElem?_append_left hi] at h1
      rw [List.getElem?_append_left (by omega)] at h2
      obtain ⟨A, n, c, e, hb⟩ := hv i u x h1 h2
      exact ⟨A, n, c, e, hkeep hb⟩
    · rw [List.getElem?_append_right hi] at h1
      rw [List.getElem?_append_right (by omega), ← hq] at h2
      obtain ⟨A, n, c, e, hb⟩ := hv2 _ u x h1 h2
      exact ⟨A, n, c, e, hkeep (hb.mono fun k hk => hT k hk.1)⟩
/-- What lies between two writes of ChunkerBack. -/
structure Kv (w1 : World) (s g : Nat) (r : Ch.Rule) (bs : List UInt8) (lv : Value) (left : List UInt8) (lg : List (List UInt8)) (v11 : Value) (A : Option Addr) (n c : Nat) (xr : List UInt8) (W : World) : Prop where
  be : Below w1.heap.size w1 W
  gt : w1.heap.size ≤ g
  st : St W s g r lv left false
  got : RL W (fun k => w1.heap.size ≤ k ∧ k ≠ g ∧ k ≠ s ∧ lv.ownBlock ≠ some k) (s + 1) v11 lg
  sep : ∀ k, v11.ownBlock = some k → lv.ownBlock ≠ some k
  rs : Bs W (Lo w1.heap.size) A n c xr
  sure : ∃ pre, Ch.Sure r pre lg left ∧ pre ++ xr = bs
/-- What lies behind a write. -/
structure Kw (w1 : World) (s g : Nat) (r : Ch.Rule) (bs : List UInt8) (lv : Value) (left : List UInt8) (lg : List (List UInt8)) (v11 v : Value) (l : List (List UInt8)) (A : Option Addr) (n c : Nat) (xr z : List UInt8) (W : World) : Prop where
  be : Below w1.heap.size w1 W
  gt : w1.heap.size ≤ g
  st : St W s g r lv left false
  got : RL W (fun k => w1.heap.size ≤ k ∧ k ≠ g ∧ k ≠ s ∧ lv.ownBlock ≠ some k) (s + 1) v11 lg
  new : RL W (fun k => (w1.heap.size ≤ k ∧ k ≠ g ∧ k ≠ s ∧ lv.ownBlock ≠ some k) ∧ some k ≠ v11.ownBlock) 0 v l
  sep : ∀ k, v11.ownBlock = some k → lv.ownBlock ≠ some k
  rs : Bs W (Lo w1.heap.size) A n c xr
  sure : ∃ pre, Ch.Sure r pre (lg ++ l) left ∧ pre ++ z = bs
theorem Kv.write {w1 W W5 : World} {s g : Nat} {r : Ch.Rule} {bs : List UInt8} {lv : Value} {left : List UInt8} {lg : List (List UInt8)} {v11 : Value} {A : Option Addr} {n c : Nat} {xr y z : List UInt8} {e : Ending} (h : Kv w1 s g r bs lv left lg v11 A n c xr W) (hy : xr = y ++ z) (hw : WriteEnd W s g r lv (left ++ y) e W5) :
    ∃ v l x lv', e = .returned (.tuple #[v, .int .i64 0]) ∧ Kw w1 s g r bs lv' x lg v11 v l A n c xr z W5 := by
  obtain ⟨v, l, x, lv', rfl, hs, hst, hl, ho, hlv⟩ := hw
  have hgs := h.st.lt
  have hgt := h.gt
  have hsz := h.be.size
  have hsl : s < W.heap.size := h.st.bk.lt
  have hlo := own_base h.st.ow
  have hll := h.st.ow.lt
  have hvl := h.got.lt
  have hbW : Below w1.heap.size W W5 := ho.below hsz fun k e => by
    rcases e with e | e | e
    · omega
    · omega
    · have := hlo k e; omega
  refine ⟨v, l, x, lv', rfl, ⟨h.be.trans hbW, hgt, hst, ?_, hl.mono (fun k hk => ⟨⟨by omega, by omega, by omega, hk.2⟩, fun e => by have := (hvl k e.symm).2; omega⟩) (Nat.zero_le _), fun k hk e => ?_, h.rs.below hbW, ?_⟩⟩
  · refine ((h.got.olds (T' := fun k => (w1.heap.size ≤ k ∧ k ≠ g ∧ k ≠ s ∧ lv.ownBlock ≠ some k) ∧ k < W.heap.size) (fun k h1 h2 => ⟨h1, h2⟩)).but' ho (fun k hk e => ?_) (fun k hk _ e => ?_)).mono (fun k hk => ⟨hk.1.1, hk.1.2.1, hk.1.2.2.1, fun e => by have := hlv k e; omega⟩) (Nat.le_refl _)
    · have h1 := hvl k hk
      rcases e with e | e | e
      · omega
      · omega
      · exact h.sep k hk e
    · rcases e with e | e | e
      · exact hk.1.2.1 e
      · exact hk.1.2.2.1 e
      · exact hk.1.2.2.2 e
  · have h1 := (hvl k hk).2
    have h2 := hlv k e
    omega
  · obtain ⟨pre, h1, h2⟩ := h.sure
    exact ⟨pre ++ y, h1.append hs, by rw [← h2, hy, List.append_assoc]⟩
theorem Kw.ready {w1 W : World} {s g : Nat} {r : Ch.Rule} {bs : List UInt8} {lv : Value} {left : List UInt8} {lg : List (List UInt8)} {v11 v : Value} {l : List (List UInt8)} {A0 : Option Addr} {n0 c0 : Nat} {xr z : List UInt8} (h : Kw w1 s g r bs lv left lg v11 v l A0 n0 c0 xr z W) (hf : bs.length ≤ 1000000) :
    ∃ vs A c us, v = .slice A l.length c ∧ W.ownsRow (s + 1) 23 1 v11 lg.length vs ∧ Reads W (fun _ => True) 1 A l.length us ∧ (∀ u ∈ us, u.oneCell' = true) ∧ lg.length + l.length ≤ 1000000 ∧ s + 1 ≤ W.heap.size ∧
      ∀ v' w2 A' n' c', w2.ownsRow (s + 1) 23 1 v' (lg.length + l.length) (vs ++ us) → W.grownBy w2 v11.ownBlock → (v'.ownBlock = v11.ownBlock ∨ v'.ownBlock = some W.heap.size) → (∀ W', Bs W' (Lo w1.heap.size) A0 n0 c0 xr → Bs W' (Lo w1.heap.size) A' n' c' z) → Kv w1 s g r bs lv left (lg ++ l) v' A' n' c' z w2 := by
  have hlen : lg.length + l.length ≤ 1000000 := by
    obtain ⟨pre, h1, h2⟩ := h.sure
    have h3 := sure_few h1
    rw [← h2, List.length_append] at hf
    rw [List.length_append] at h3
    omega
  obtain ⟨vs, A, c, us, e, h1, h2, h3, h4⟩ := RL.cat h.got h.new (fun k hk => hk) (by omega)
  have hgs := h.st.lt
  have hgt := h.gt
  have hsl : s < W.heap.size := h.st.bk.lt
  have hvl := h.got.lt
  refine ⟨vs, A, c, us, e, h1, h2, h3, hlen, hsl, fun v' w2 A' n' c' ho hg hat hb => ?_⟩
  have hO : Only (fun k => v11.ownBlock = some k) W w2 := .of_grown hg fun k e => e
  have hbW : Below w1.heap.size W w2 := hO.below h.be.size fun k e => by have := (hvl k e).1; omega
  have hbe : Below w1.heap.size w1 w2 := h.be.trans hbW
  refine ⟨hbe, hgt, h.st.but hO (fun e => by have := (hvl _ e).1; omega) (fun e => by have := (hvl _ e).1; omega) (fun k hk e => h.sep k e hk), h4 v' w2 ho hg hat, fun k hk e => ?_, hb _ (h.rs.below hbW), h.sure⟩
  rcases hat with e' | e'
  · rw [e'] at hk; exact h.sep k hk e
  · rw [e'] at hk
    injection hk with hk
    have := (h.st.ow.lt k e).2
    omega
end Go.Proofs.YtognkonncfjneaaDoor
