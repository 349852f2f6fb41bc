/- A slice of entries that is being sorted, in memory. Conditions: each theorem's premises. -/
import Derived.Test.YtaebmhbggbpnoaaGNs1
import Derived.Test.YtaebmhbggbpnoaaGNd12
import Derived.StillTailTactics
namespace Go.Proofs.Ytaebmhbggbpnoaa
open Go.RowKit
abbrev flatE (L : List EV) : List Value := L.flatMap fun e => (EC e).toList
/-- A slice of entries that fills the block g from its beginning. -/
structure ML (w : World) (g : Nat) (A : Option Addr) (n c : Nat) (L : List EV) : Prop where
  len : L.length = n
  cap : n ≤ c
  ok : ∀ e ∈ L, e.ok
  blk : 0 < n → A = some ⟨g, 0, none⟩ ∧ ∃ rest, Blk w g 144 (flatE L ++ rest).toArray
theorem gb_trans {w w1 w2 : World} {row : Option Nat} (h1 : w.grownBy w1 row) (h2 : w1.grownBy w2 row) : w.grownBy w2 row :=
  ⟨h2.os.trans h1.os, h2.tape.trans h1.tape, h2.output.trans h1.output, Nat.le_trans h1.size h2.size, fun i hi hne => (h2.block i (Nat.lt_of_lt_of_le hi h1.size) hne).trans (h1.block i hi hne)⟩
theorem gb_below {w w' : World} {row : Option Nat} (h : Below w.heap.size w w') : w.grownBy w' row := ⟨h.os, h.tape, h.output, h.size, fun i hi _ => h.block i hi⟩
theorem gb_refl (w : World) (row : Option Nat) : w.grownBy w row := gb_below (Below.refl _ _)
theorem gb_setCells (g : Nat) : ∀ (vs : List Value) (o : Nat) (w : World), w.grownBy (w.setCells g o vs) (some g)
  | [], _, w => gb_refl w _
  | v :: vs, o, w => by
    simp only [World.setCells]
    exact gb_trans (grown_set' w ⟨g, o, none⟩ v) (gb_setCells g vs (o + 1) _)
section
variable {w w' : World} {g n c i : Nat} {A : Option Addr} {L : List EV}
theorem flatE_len {L : List EV} (h : ∀ e ∈ L, e.ok) : (flatE L).length = L.length * 34 := flat_len (enc := EC) (fun x hx => EC_size (h x hx))
theorem ML.after (h : ML w g A n c L) (hb : Below w.heap.size w w') : ML w' g A n c L := ⟨h.len, h.cap, h.ok, fun hn => by
  obtain ⟨e, rest, hk⟩ := h.blk hn
  exact ⟨e, rest, hk.after hb⟩⟩
theorem ML.drew (h : ML w g A n c L) : ML w.drew g A n c L := h.after (Below.refl _ _).drew
theorem ML.at_ (h : ML w g A n c L) {i : Nat} (hi : i < n) : ∃ ad p x, A = some ad ∧ ad.add (i * 34) = p ∧ Hid (p = ⟨g, i * 34, none⟩) ∧ Hid (L[i]? = some x) ∧ Hid (At w p (EC x)) ∧ Hid (g < w.heap.size) ∧ x.ok := by
  obtain ⟨e, rest, hk⟩ := h.blk (by omega)
  have hl := h.len
  have hil : i < L.length := by omega
  refine ⟨_, _, L[i], e, rfl, ?_, List.getElem?_eq_getElem hil, fun j v hv => ?_, hk.lt, h.ok _ (List.getElem_mem hil)⟩
  · rw [add_plain]
    exact Lib.hid rfl
  · rw [add_of_add, add_plain, hk.cell]
    have := flat_get (enc := EC) (size := 34) (fun x hx => EC_size (h.ok x hx)) (List.getElem?_eq_getElem hil) hv
    rw [List.getElem?_toArray, List.getElem?_append_left (List.getElem?_eq_some_iff.1 this).1]
    exact this
theorem flatE_split {L : List EV} (hi : i < L.length) : flatE L = flatE (L.take i) ++ (EC L[i]).toList ++ flatE (L.drop (i + 1)) := by
  have e : L = L.take i ++ (L[i] :: L.drop (i + 1)) := by rw [← List.drop_eq_getElem_cons hi, List.take_append_drop]
  have e2 : flatE L = flatE (L.take i ++ (L[i] :: L.drop (i + 1))) := congrArg flatE e
  rw [e2]
  simp only [flatE, List.flatMap_append, List.flatMap_cons, List.append_assoc]
theorem ML.set (h : ML w g A n c L) (hi : i < n) {x : EV} (hx : x.ok) : ML (w.setCells g (i * 34) (EC x).toList) g A n c (L.set i x) := by
  have hl := h.len
  have hil : i < L.length := by omega
  refine ⟨by simp [hl], h.cap, fun e he => ?_, fun hn => ?_⟩
  · rcases List.mem_or_eq_of_mem_set he with h1 | h1
    · exact h.ok e h1
    · subst h1; exact hx
  · obtain ⟨e, rest, hk⟩ := h.blk hn
    refine ⟨e, rest, ?_⟩
    have hok1 : ∀ e ∈ L.take i, e.ok := fun e he => h.ok e (List.mem_of_mem_take he)
    have hlen : (flatE (L.take i)).length = i * 34 := by rw [flatE_len hok1, List.length_take, Nat.min_eq_left (by omega)]
    rw [flatE_split hil, List.append_assoc] at hk
    have h2 := blk_setCells g 144 (EC x).toList (flatE (L.take i)) (EC L[i]).toList (flatE (L.drop (i + 1)) ++ rest) w (by rw [Array.length_toList, Array.length_toList, EC_size hx, EC_size (h.ok _ (List.getElem_mem hil))]) hk
    rw [hlen] at h2
    have e2 : flatE (L.set i x) = flatE (L.take i) ++ (EC x).toList ++ flatE (L.drop (i + 1)) := by
      rw [List.set_eq_take_append_cons_drop, if_pos hil]
      simp [flatE]
    rw [e2, List.append_assoc (flatE (L.take i) ++ (EC x).toList)]
    exact h2
theorem ML.there (h : ML w g A n c L) (hi : i < n) : w.there g (i * 34) 34 := fun j hj => by
  obtain ⟨e, rest, hk⟩ := h.blk (by omega)
  have hl := h.len
  refine ⟨?_, hk.frozen _⟩
  rw [hk.cell, Array.getElem?_eq_getElem (by
    rw [List.size_toArray, List.length_append, flatE_len h.ok]
    have : i * 34 + 34 ≤ L.length * 34 := by rw [← Nat.succ_mul]; exact Nat.mul_le_mul_right _ (by omega)
    omega)]
  rfl
/-- An element is stored. -/
theorem wl_stM {ops : Array Oper} {rest : List Oper} {o : Oper} {a : Act} {Q : Exit → Act → World → Prop} (hw : Region.wanted o (yielded ops a.tmps) = true) (x y : Operand) (ho : o.op = .store 144 x y) {p : Addr} (hx : a.eval x = .pointer (some p)) (hp : p = ⟨g, i * 34, none⟩) {R : Array Value} (hy : a.eval y = .agg R) {e : EV} (hR : R = EC e) (he : e.ok) (h : ML w g A n c L) (hi : i < n)
    (hk : ∀ w', ML w' g A n c (L.set i e) → w.grownBy w' (some g) → wpList Try.prog ops Q rest (a.put o.dst undef) w') : wpList Try.prog ops Q (o :: rest) a w := by
  subst hp
  subst hR
  exact BigFrame.wpList_want hw fun _ hK => wp_store_mid 144 x y ho g (i * 34) (EC e) hx hy (by rw [EC_size he]; exact h.there hi) (by rw [EC_size he]; exact size144) (EC_one e) (hK _ _ (hk _ (h.set hi he) (gb_setCells g _ _ _)))
end
end Go.Proofs.Ytaebmhbggbpnoaa
