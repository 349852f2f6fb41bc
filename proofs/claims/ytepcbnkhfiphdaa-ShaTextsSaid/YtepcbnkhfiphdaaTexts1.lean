/- ShaTexts: a hash's text is read as it (plain law), what its road keeps. Conditions: each theorem's premises. -/
import Derived.Test.YtepcbnkhfiphdaaL0
namespace Go.Proofs.Ytepcbnkhfiphdaa
open Go.RowKit
theorem dgN_dg : ∀ k, k < 16 → dgN (Sha.dg k).toNat = (k : Int) := by decide
theorem hex_get : ∀ (nm : List UInt8) (j : Nat) (b : UInt8), nm[j]? = some b → (Sha.hex nm)[2 * j]? = some (Sha.dg (b.toNat / 16)) ∧ (Sha.hex nm)[2 * j + 1]? = some (Sha.dg (b.toNat % 16))
  | c :: nm, 0, b, h => by
    simp only [List.getElem?_cons_zero, Option.some.injEq] at h
    subst h
    exact ⟨rfl, rfl⟩
  | c :: nm, j + 1, b, h => by
    simp only [List.getElem?_cons_succ] at h
    have := hex_get nm j b h
    exact this
  | [], _, _, h => by simp at h
theorem parse_hex (nm : List UInt8) (hn : nm.length = 32) : parseN (Sha.hex nm) = (nm, 0) := by
  have hb : ∀ j, j < 32 → ∃ b, nm[j]? = some b := fun j hj => ⟨_, List.getElem?_eq_getElem (by omega)⟩
  have hd : ∀ j b, nm[j]? = some b → dgN ((Sha.hex nm).getD (2 * j) 0).toNat = ((b.toNat / 16 : Nat) : Int) ∧ dgN ((Sha.hex nm).getD (2 * j + 1) 0).toNat = ((b.toNat % 16 : Nat) : Int) := fun j b h => by
    obtain ⟨h1, h2⟩ := hex_get nm j b h
    have := b.toNat_lt
    rw [List.getD_eq_getElem?_getD, List.getD_eq_getElem?_getD, h1, h2]
    exact ⟨dgN_dg _ (by omega), dgN_dg _ (by omega)⟩
  unfold parseN
  rw [if_pos]
  · congr 1
    refine List.ext_getElem? fun j => ?_
    rcases Nat.lt_or_ge j 32 with hj | hj
    · obtain ⟨b, h⟩ := hb j hj
      rw [List.getElem?_map, List.getElem?_range hj, h]
      obtain ⟨h1, h2⟩ := hd j b h
      have := b.toNat_lt
      simp only [Option.map_some, Option.some.injEq]
      unfold pv
      rw [if_pos (by omega)]
      unfold dS
      rw [h1, h2]
      apply UInt8.toNat_inj.1
      rw [toU8 _ (by omega)]
      omega
    · rw [List.getElem?_eq_none (by simp; omega), List.getElem?_eq_none (by omega)]
  · refine ⟨by rw [hex_len]; omega, List.all_eq_true.2 fun i hi => ?_⟩
    have hi' := List.mem_range.1 hi
    obtain ⟨b, h⟩ := hb (i / 2) (by omega)
    obtain ⟨h1, h2⟩ := hd _ _ h
    apply decide_eq_true
    rcases Nat.mod_two_eq_zero_or_one i with e | e
    · rw [show i = 2 * (i / 2) by omega, h1]; omega
    · rw [show i = 2 * (i / 2) + 1 by omega, h2]; omega
/-- What ShaTexts keeps. -/
structure Tx (w wr : World) (a b x : List UInt8) (p q r : Nat) : Prop where
  a0 : Blk wr w.heap.size 30 (NC a)
  b0 : Blk wr (w.heap.size + 1) 30 (NC b)
  x0 : Blk wr p 30 (NC x)
  y0 : Blk wr q 30 (NC x)
  z0 : Blk wr r 30 (NC a)
  bel : Below w.heap.size w wr
theorem Tx.after {w wr w' : World} {a b x : List UInt8} {p q r : Nat} (h : Tx w wr a b x p q r) (hb : Below wr.heap.size wr w') : Tx w w' a b x p q r :=
  ⟨h.a0.after hb, h.b0.after hb, h.x0.after hb, h.y0.after hb, h.z0.after hb, h.bel.trans (hb.mono h.bel.size)⟩
theorem same_add {a : World} {o : Obj} {w' : World} (hg : (a.alloc o).grownBy w' (some a.heap.size)) : Below a.heap.size a w' :=
  ((Below.refl _ a).alloc (Nat.le_refl _) o).trans (only_below hg (Nat.le_refl _) (by simp))
end Go.Proofs.Ytepcbnkhfiphdaa
