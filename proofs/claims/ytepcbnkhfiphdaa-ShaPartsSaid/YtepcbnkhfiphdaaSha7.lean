/- The walk of the reference's block (sha). Conditions: each theorem's premises. -/
import Derived.Test.YtepcbnkhfiphdaaSha6
namespace Go.Proofs.Ytepcbnkhfiphdaa
open Go.RowKit
/-- Eight words in a block, its room aside. -/
structure Wd (w : World) (b : Nat) (t : Sha.St) : Prop where
  cell : ∀ i, i < 8 → w.cell? ⟨b, i, none⟩ = some (.int .u32 ((t.list.getD i 0 : Nat) : Int))
  free : ∀ i, i < 8 → w.frozen? ⟨b, i, none⟩ = false
section
variable {w w' : World} {b B : Nat} {t : Sha.St}
theorem Wd.lt (h : Wd w b t) : b < w.heap.size := World.block_lt_of_cell? w _ (h.cell 0 (by omega))
theorem Wd.keep (h : Wd w b t) (hc : w'.heap[b]? = w.heap[b]?) : Wd w' b t :=
  ⟨fun i hi => (World.cell?_of_block (a := ⟨b, i, none⟩) hc).trans (h.cell i hi), fun i hi => by rw [← h.free i hi]; simp [World.frozen?, hc]⟩
theorem Wd.below (h : Wd w b t) (hb : Below B w w') (hB : b < B) : Wd w' b t := h.keep (hb.block b hB)
theorem Wd.after (h : Wd w b t) (hb : Below w.heap.size w w') : Wd w' b t := h.below hb h.lt
theorem Wd.grown {row : Option Nat} (h : Wd w b t) (hb : w.grownBy w' row) (hg : some b ≠ row) : Wd w' b t := h.keep (hb.block b h.lt hg)
theorem Wd.drewN (h : Wd w b t) (n : Nat) : Wd (w.drewN n) b t := h.keep rfl
theorem Wd.of_blk {T : TypeId} (h : Blk w b T (SV t)) : Wd w b t := ⟨fun i hi => by rw [h.cell, SV.at_ _ hi], fun i _ => h.frozen i⟩
theorem Wd.eight (h : Wd w b t) : w.cell? ⟨b, 0, none⟩ = some (.int .u32 (t.a : Int)) ∧ w.cell? ⟨b, 1, none⟩ = some (.int .u32 (t.b : Int)) ∧ w.cell? ⟨b, 2, none⟩ = some (.int .u32 (t.c : Int)) ∧ w.cell? ⟨b, 3, none⟩ = some (.int .u32 (t.d : Int)) ∧
    w.cell? ⟨b, 4, none⟩ = some (.int .u32 (t.e : Int)) ∧ w.cell? ⟨b, 5, none⟩ = some (.int .u32 (t.f : Int)) ∧ w.cell? ⟨b, 6, none⟩ = some (.int .u32 (t.g : Int)) ∧ w.cell? ⟨b, 7, none⟩ = some (.int .u32 (t.h : Int)) :=
  ⟨h.cell 0 (by omega), h.cell 1 (by omega), h.cell 2 (by omega), h.cell 3 (by omega), h.cell 4 (by omega), h.cell 5 (by omega), h.cell 6 (by omega), h.cell 7 (by omega)⟩
theorem Wd.set (h : Wd w b t) (k v : Nat) (hk : k < 8) : Wd (w.setCell ⟨b, k, none⟩ (.int .u32 (v : Int))) b (Pl' t k v) := by
  refine ⟨fun i hi => ?_, fun i hi => (frozen_setCell _ _ _ _).trans (h.free i hi)⟩
  unfold Pl'
  rw [stOf_at _ hi]
  by_cases e : i = k
  · subst e
    rw [if_pos rfl]
    exact World.cell?_setCell_same _ _ _ (h.cell i hi)
  · rw [if_neg e]
    exact (World.cell?_setCell_other _ _ _ _ (other_off (fun h => e h.symm))).trans (h.cell i hi)
end
theorem turn_q (c : Int) (x : Nat) (w : World) (hc : c = 2 ∨ c = 6 ∨ c = 7 ∨ c = 11 ∨ c = 13 ∨ c = 17 ∨ c = 18 ∨ c = 19 ∨ c = 22 ∨ c = 25) : Calls Try.prog 37 #[.int .u32 (x : Int), .int .u64 c] w fun e w' => e = .returned (.int .u32 ((Sha.ror c.toNat x : Nat) : Int)) ∧ w' = w := by
  rcases hc with rfl | rfl | rfl | rfl | rfl | rfl | rfl | rfl | rfl | rfl
  · exact swapC (turn2 x w)
  · exact swapC (turn6 x w)
  · exact swapC (turn7 x w)
  · exact swapC (turn11 x w)
  · exact swapC (turn13 x w)
  · exact swapC (turn17 x w)
  · exact swapC (turn18 x w)
  · exact swapC (turn19 x w)
  · exact swapC (turn22 x w)
  · exact swapC (turn25 x w)
/-! ### A word of four bytes, both ways -/
theorem or_add' (a b k : Nat) (hb : b < 2 ^ k) : a * 2 ^ k ||| b = a * 2 ^ k + b := by
  have h := Nat.shiftLeft_add_eq_or_of_lt (i := k) (b := b) hb a
  rw [Nat.shiftLeft_eq] at h
  exact h.symm
theorem orr_sl8 (n c : Nat) (hn : n < 16777216) (hc : c < 256) : Sha.orr (Sha.sl 8 n) c = n * 256 + c := by
  unfold Sha.orr Sha.sl
  rw [show (2 : Nat) ^ 8 = 256 from rfl, Nat.mod_eq_of_lt (by omega : n * 256 < 4294967296), or_add n c hc, Nat.mod_eq_of_lt (by omega)]
theorem word_four {b : List UInt8} {k : Nat} {b0 b1 b2 b3 : UInt8} (h0 : b[4 * k]? = some b0) (h1 : b[4 * k + 1]? = some b1) (h2 : b[4 * k + 2]? = some b2) (h3 : b[4 * k + 3]? = some b3) :
    Sha.orr (Sha.orr (Sha.orr (Sha.sl 24 b0.toNat) (Sha.sl 16 b1.toNat)) (Sha.sl 8 b2.toNat)) b3.toNat = Sha.word b k := by
  have e : (b.drop (4 * k)).take 4 = [b0, b1, b2, b3] := by
    apply List.ext_getElem?
    intro i
    rw [List.getElem?_take]
    rcases i with _ | _ | _ | _ | i
    · simpa using h0
    · simpa using h1
    · simpa using h2
    · simpa using h3
    · simp; intro h; omega
  unfold Sha.word
  rw [e]
  have l0 := b0.toNat_lt
  have l1 := b1.toNat_lt
  have l2 := b2.toNat_lt
  have l3 := b3.toNat_lt
  simp only [List.foldl_cons, List.foldl_nil]
  generalize b0.toNat = a0 at *
  generalize b1.toNat = a1 at *
  generalize b2.toNat = a2 at *
  generalize b3.toNat = a3 at *
  rw [orr_sl8 0 a0 (by omega) (by omega), orr_sl8 _ a1 (by omega) (by omega), orr_sl8 _ a2 (by omega) (by omega), orr_sl8 _ a3 (by omega) (by omega)]
  have p1 : Sha.orr (Sha.sl 24 a0) (Sha.sl 16 a1) = (a0 * 256 + a1) * 65536 := by
    unfold Sha.orr Sha.sl
    rw [show (2 : Nat) ^ 16 = 65536 from rfl, Nat.mod_eq_of_lt (by omega : a1 * 65536 < 4294967296), Nat.mod_eq_of_lt (show a0 * 2 ^ 24 < 4294967296 by omega), or_add' a0 (a1 * 65536) 24 (by omega), Nat.mod_eq_of_lt (by omega)]
    omega
  have p2 : Sha.orr ((a0 * 256 + a1) * 65536) (Sha.sl 8 a2) = ((a0 * 256 + a1) * 256 + a2) * 256 := by
    unfold Sha.orr Sha.sl
    have := or_add' (a0 * 256 + a1) (a2 * 256) 16 (by omega)
    rw [show (2 : Nat) ^ 16 = 65536 from rfl] at this
    rw [show (2 : Nat) ^ 8 = 256 from rfl, Nat.mod_eq_of_lt (by omega : a2 * 256 < 4294967296), this, Nat.mod_eq_of_lt (by omega)]
    omega
  have p3 : Sha.orr (((a0 * 256 + a1) * 256 + a2) * 256) a3 = (((a0 * 256 + a1) * 256 + a2) * 256) + a3 := by
    unfold Sha.orr
    rw [or_add _ a3 (by omega), Nat.mod_eq_of_lt (by omega)]
  rw [p1, p2, p3]
  omega
theorem zero53 : UA 64 (fun _ => 0) = #[.int .u32 0, .int .u32 0, .int .u32 0, .int .u32 0, .int .u32 0, .int .u32 0, .int .u32 0, .int .u32 0, .int .u32 0, .int .u32 0, .int .u32 0, .int .u32 0, .int .u32 0, .int .u32 0, .int .u32 0, .int .u32 0, .int .u32 0, .int .u32 0, .int .u32 0, .int .u32 0, .int .u32 0, .int .u32 0, .int .u32 0, .int .u32 0, .int .u32 0, .int .u32 0, .int .u32 0, .int .u32 0, .int .u32 0, .int .u32 0, .int .u32 0, .int .u32 0, .int .u32 0, .int .u32 0, .int .u32 0, .int .u32 0, .int .u32 0, .int .u32 0, .int .u32 0, .int .u32 0, .int .u32 0, .int .u32 0, .int .u32 0, .int .u32 0, .int .u32 0, .int .u32 0, .int .u32 0, .int .u32 0, .int .u32 0, .int .u32 0, .int .u32 0, .int .u32 0, .int .u32 0, .int .u32 0, .int .u32 0, .int .u32 0, .int .u32 0, .int .u32 0, .int .u32 0, .int .u32 0, .int .u32 0, .int .u32 0, .int .u32 0, .int .u32 0] := by kernel_rfl
/-- What lies there in the reference's block: the state and the words of roots that came, the words. -/
structure Rb (w wr : World) (bh bk b7 : Nat) (s : Sha.St) (f : Nat → Nat) : Prop where
  hh : Wd wr bh s
  kk : Blk wr bk 53 (UA 64 (fun i => Sha.K.getD i 0))
  ww : Blk wr b7 53 (UA 64 f)
  bel : Below w.heap.size w wr
  n0 : bh < w.heap.size
  n1 : bk < w.heap.size
  n2 : w.heap.size ≤ b7
theorem Rb.drewN {w wr : World} {bh bk b7 : Nat} {s : Sha.St} {f : Nat → Nat} (h : Rb w wr bh bk b7 s f) (n : Nat) : Rb w (wr.drewN n) bh bk b7 s f :=
  ⟨h.hh.drewN n, h.kk.drewN n, h.ww.drewN n, below_drewN h.bel n, h.n0, h.n1, h.n2⟩
theorem Rb.set {w wr : World} {bh bk b7 : Nat} {s : Sha.St} {f : Nat → Nat} (h : Rb w wr bh bk b7 s f) (k v : Nat) : Rb w (wr.setCell ⟨b7, k, none⟩ (.int .u32 (v : Int))) bh bk b7 s (fun j => if j = k then v else f j) := by
  have a0 := h.n0
  have a1 := h.n1
  have a2 := h.n2
  have hg : wr.grownBy (wr.setCell ⟨b7, k, none⟩ (.int .u32 (v : Int))) (some b7) := only_setCell (p := ⟨b7, k, none⟩) (World.grownBy.refl _ _) (.inl rfl) _
  exact ⟨h.hh.grown hg (fun e => by injection e with e; omega), h.kk.grown hg (fun e => by injection e with e; omega), by rw [← UA.set]; exact h.ww.set_ k _, h.bel.setCell (p := ⟨b7, k, none⟩) a2 _, a0, a1, a2⟩
theorem Rb.congr {w wr : World} {bh bk b7 : Nat} {s : Sha.St} {f f' : Nat → Nat} (h : Rb w wr bh bk b7 s f) (hf : ∀ i, i < 64 → f i = f' i) : Rb w wr bh bk b7 s f' :=
  ⟨h.hh, h.kk, by rw [← UA.congr hf]; exact h.ww, h.bel, h.n0, h.n1, h.n2⟩
theorem Rb.grown {w wr w' : World} {bh bk b7 b : Nat} {s : Sha.St} {f : Nat → Nat} (h : Rb w wr bh bk b7 s f) (hg : wr.grownBy w' (some b)) (hb : b7 < b) : Rb w w' bh bk b7 s f := by
  have a0 := h.n0
  have a1 := h.n1
  have a2 := h.n2
  exact ⟨h.hh.grown hg (fun e => by injection e with e; omega), h.kk.grown hg (fun e => by injection e with e; omega), h.ww.grown hg (fun e => by injection e with e; omega), h.bel.trans (only_below hg (by omega) h.bel.size), a0, a1, a2⟩
theorem Rb.alloc {w wr : World} {bh bk b7 : Nat} {s : Sha.St} {f : Nat → Nat} (h : Rb w wr bh bk b7 s f) (o : Obj) : Rb w (wr.alloc o) bh bk b7 s f :=
  h.grown (b := wr.heap.size) (only_of_below ((Below.refl _ _).alloc (Nat.le_refl _) _) _) h.ww.lt
theorem info53 : (Try.prog.info? 53).map (fun i => (i.zero, i.size, i.bytes)) = some (some (.int .u32 0), 1, 4) := by kernel_rfl
theorem Wd.reads {w : World} {b : Nat} {t : Sha.St} (h : Wd w b t) (o : Obj) : Reads (w.alloc o) AnyB 1 (some ⟨b, 0, none⟩) 8 (U32 t.list) := by
  have h' := h.after ((Below.refl _ _).alloc (Nat.le_refl _) o)
  refine ⟨rfl, fun _ => ⟨_, rfl, trivial, fun j u hu => ?_⟩⟩
  have hj : j < 8 := (List.getElem?_eq_some_iff.1 hu).1
  rw [add_plain, h'.cell j hj, ← hu, U32.at_ _ _ hj]
/-- What an append of eight words leaves. -/
theorem own_words {w wr w1 : World} {bh bk b7 : Nat} {s t : Sha.St} {f : Nat → Nat} {v : Value} (hown : w1.ownsRow wr.heap.size 53 1 v (0 + 8) ([] ++ U32 t.list)) (hg : (wr.alloc (.cells #[] 53)).grownBy w1 (Value.slice (some ⟨wr.heap.size, 0, none⟩) 0 0).ownBlock)
    (_ : v.ownBlock = (Value.slice (some ⟨wr.heap.size, 0, none⟩) 0 0).ownBlock ∨ v.ownBlock = some (wr.alloc (.cells #[] 53)).heap.size) (h : Rb w (wr.alloc (.cells #[] 53)) bh bk b7 s f) (hw : b7 < wr.heap.size) :
    ∃ b cc, 8 ≤ cc ∧ b7 < b ∧ v = .slice (some ⟨b, 0, none⟩) 8 cc ∧ Hid (Wd w1 b t) ∧ Hid (Rb w w1 bh bk b7 s f) := by
  simp only [Nat.zero_add, List.nil_append] at hown
  obtain ⟨g, cap, hv, hb, hlt⟩ := hown.form (by omega)
  obtain ⟨A, c, hv2, hc⟩ := own_shape hown
  rw [hv] at hv2
  injection hv2 with _ _ hcc
  subst hv
  refine ⟨g, cap, by omega, by omega, rfl, Lib.hid ⟨fun i hi => ?_, fun i _ => hown.frozenAt i⟩, Lib.hid (h.grown hg hw)⟩
  rw [hown.cellAt i (by omega), U32.at_ _ _ hi]
set_option maxRecDepth 100000 in
set_option maxHeartbeats 4000000 in
theorem block_any (w : World) (bh bk : Nat) (ch ck : Nat) (s : Sha.St) (hh : Wd w bh s) (hk : Blk w bk 53 (UA 64 (fun i => Sha.K.getD i 0))) (S : Nat → Prop) (A : Option Addr) (c : Nat) (bs : List UInt8) (hx : Bs w S A 64 c bs) :
    Calls Try.prog 27 #[.slice (some ⟨bh, 0, none⟩) 8 ch, .slice (some ⟨bk, 0, none⟩) 64 ck, .slice A 64 c] w fun e w' => ∃ b cc, e = .returned (.slice (some ⟨b, 0, none⟩) 8 cc) ∧ 8 ≤ cc ∧ w.heap.size ≤ b ∧ Wd w' b (Sha.block s bs) ∧ Below w.heap.size w w' := by
  have HX := Lib.hid hx.old
  have HH := Lib.hid hh
  have HK := Lib.hid hk
  clear hx hh hk
  have hmk : ∀ w : World, (Instr.makeSlice 69 (.int .i64 64) (.int .i64 64)).run Try.prog w = .ok (.slice (some ⟨w.heap.size, 0, none⟩) 64 64) (w.alloc (.cells (UA 64 (fun _ => 0)) 53)) := fun _ => by kernel_rfl
  go_enter Try.func27, Try.ntmps27
  go_wp2_with fail
  have HR := Lib.hid (show Rb w (w.alloc (.cells (UA 64 (fun _ => 0)) 53)) bh bk w.heap.size s (Sha.Sk bs 0) from
    ⟨HH.out.after ((Below.refl _ _).alloc (Nat.le_refl _) _), HK.out.after ((Below.refl _ _).alloc (Nat.le_refl _) _), Blk.new _ _ _, (Below.refl _ _).alloc (Nat.le_refl _) _, HH.out.lt, HK.out.lt, Nat.le_refl _⟩)
  go_loopw [8] (fun v8 wr => ∃ k : Nat, k ≤ 16 ∧ v8 = .int .i64 (k : Int) ∧ Hid (Rb w wr bh bk w.heap.size s (Sha.Sk bs k))) (fun v8 _ => 16 - (intOf v8).toNat)
  case atStart => exact ⟨0, by omega, rfl, HR⟩
  case round =>
    obtain ⟨k, hk, rfl, HR⟩ := hrel
    by_cases hlt : k < 16
    · have hlt' : (k : Int) < 16 := by omega
      have HX1 := Lib.hid (HX.out.below HR.out.bel)
      obtain ⟨ad, b0, rfl, Hb0, hc0⟩ := HX1.out.at_ (k := 4 * k) (by omega)
      obtain ⟨_, b1, e1, Hb1, hc1⟩ := HX1.out.at_ (k := 4 * k + 1) (by omega)
      obtain ⟨_, b2, e2, Hb2, hc2⟩ := HX1.out.at_ (k := 4 * k + 2) (by omega)
      obtain ⟨_, b3, e3, Hb3, hc3⟩ := HX1.out.at_ (k := 4 * k + 3) (by omega)
      injection e1 with e1
      injection e2 with e2
      injection e3 with e3
      subst e1 e2 e3
      have HWORD := Lib.hid (word_four Hb0.out Hb1.out Hb2.out Hb3.out)
      clear Hb0 Hb1 Hb2 Hb3
      go_wp2_with fail
      refine wp_region_still_tail 36 (by kernel_rfl) (by kernel_rfl) ?_
      simp only [List.take_succ_cons, List.take_zero, List.drop_succ_cons, List.drop_zero]
      change wpStill _ _ wr.drew (fun a' => wpList _ _ _ _ a' wr.drew) _ _
      obtain ⟨W2, hW2⟩ : ∃ W2, W2 = wr.drew := ⟨_, rfl⟩
      rw [← hW2]
      have HR2 := Lib.hid (show Rb w W2 bh bk w.heap.size s (Sha.Sk bs k) by rw [hW2]; exact HR.out.drewN 1)
      have d0 : W2.cell? (ad.add (4 * k)) = some (.int .u8 (b0.toNat : Int)) := by rw [hW2]; exact hc0
      have d1 : W2.cell? ⟨ad.block, ad.off + (4 * k + 1), none⟩ = some (.int .u8 (b1.toNat : Int)) := by rw [hW2, ← Addr.add_succ']; exact hc1
      have d2 : W2.cell? ⟨ad.block, ad.off + (4 * k + 2), none⟩ = some (.int .u8 (b2.toNat : Int)) := by rw [hW2, ← Addr.add_succ']; exact hc2
      have d3 : W2.cell? ⟨ad.block, ad.off + (4 * k + 3), none⟩ = some (.int .u8 (b3.toNat : Int)) := by rw [hW2, ← Addr.add_succ']; exact hc3
      have f0 := HR2.out.ww.frozen k
      have ck0 : W2.cell? ⟨w.heap.size, k, none⟩ = some (.int .u32 ((Sha.Sk bs k k : Nat) : Int)) := by rw [HR2.out.ww.cell, UA.at_ (by omega)]
      have w1 : IntKind.i64.wrap (4 * (k : Int)) = 4 * (k : Int) := by rw [IntKind.wrap_i64]; omega
      have w2 : IntKind.i64.wrap (4 * (k : Int) + 1) = 4 * (k : Int) + 1 := by rw [IntKind.wrap_i64]; omega
      have w3 : IntKind.i64.wrap (4 * (k : Int) + 2) = 4 * (k : Int) + 2 := by rw [IntKind.wrap_i64]; omega
      have w4 : IntKind.i64.wrap (4 * (k : Int) + 3) = 4 * (k : Int) + 3 := by rw [IntKind.wrap_i64]; omega
      have t1 : (4 * (k : Int)).toNat = 4 * k := by omega
      have t2 : (4 * (k : Int) + 1).toNat = 4 * k + 1 := by omega
      have t3 : (4 * (k : Int) + 2).toNat = 4 * k + 2 := by omega
      have t4 : (4 * (k : Int) + 3).toNat = 4 * k + 3 := by omega
      have m1 : 0 ≤ 4 * (k : Int) := by omega
      have m2 : 0 ≤ 4 * (k : Int) + 1 := by omega
      have m3 : 0 ≤ 4 * (k : Int) + 2 := by omega
      have m4 : 0 ≤ 4 * (k : Int) + 3 := by omega
      have n1 : 4 * (k : Int) < 64 := by omega
      have n2 : 4 * (k : Int) + 1 < 64 := by omega
      have n3 : 4 * (k : Int) + 2 < 64 := by omega
      have n4 : 4 * (k : Int) + 3 < 64 := by omega
      clear hW2 hc0 hc1 hc2 hc3
      have rl24 : ∀ x : Nat, (x : Int) * 16777216 % 4294967296 = ((Sha.sl 24 x : Nat) : Int) := fun _ => rfl
      have rl16 : ∀ x : Nat, (x : Int) * 65536 % 4294967296 = ((Sha.sl 16 x : Nat) : Int) := fun _ => rfl
      have rl8 : ∀ x : Nat, (x : Int) * 256 % 4294967296 = ((Sha.sl 8 x : Nat) : Int) := r_sl8
      have ro : ∀ a b : Nat, bits .or .u32 (a : Int) (b : Int) = ((Sha.orr a b : Nat) : Int) := r_or
      have g0 := u8_lt b0
      have g1 := u8_lt b1
      have g2 := u8_lt b2
      have g3 := u8_lt b3
      have l0 : (b0.toNat : Int) % 4294967296 = (b0.toNat : Int) := by omega
      have l1 : (b1.toNat : Int) % 4294967296 = (b1.toNat : Int) := by omega
      have l2 : (b2.toNat : Int) % 4294967296 = (b2.toNat : Int) := by omega
      have l3 : (b3.toNat : Int) % 4294967296 = (b3.toNat : Int) := by omega
      have k64 : (k : Int) < 64 := by omega
      clear g0 g1 g2 g3
      repeat still_step
      refine wpStill_nil ?_
      go_wp2_with fail
      rw [HWORD.out]
      have HR3 := Lib.hid ((HR2.out.set k (Sha.word bs k)).congr (f' := Sha.Sk bs (k + 1)) (fun i _ => by
        rw [← SS_lo 48 bs k hlt, ← S_SS]
        exact Sk_succ bs k i))
      exact ⟨⟨k + 1, by omega, by go_num, HR3⟩, by simp [intOf]; omega⟩
    · obtain rfl : k = 16 := by omega
      clear hlt
      rw [show ((16 : Nat) : Int) = 16 from rfl]
      go_wp2_with fail
      go_loopw [9] (fun v9 wr => ∃ k : Nat, 16 ≤ k ∧ k ≤ 64 ∧ v9 = .int .i64 (k : Int) ∧ Hid (Rb w wr bh bk w.heap.size s (Sha.Sk bs k))) (fun v9 _ => 64 - (intOf v9).toNat)
      case atStart => exact ⟨16, by omega, by omega, rfl, HR⟩
      case round =>
        obtain ⟨k, hk1, hk2, rfl, HR⟩ := hrel
        by_cases hlt : k < 64
        · have hlt' : (k : Int) < 64 := by omega
          obtain ⟨m, hkm⟩ : ∃ m, k = 16 + m := ⟨k - 16, by omega⟩
          have HKM := Lib.hid hkm
          have cell : ∀ i, i < 16 + m → wr.cell? ⟨w.heap.size, i, none⟩ = some (.int .u32 ((Sha.S bs i : Nat) : Int)) := fun i hi => by
            rw [HR.out.ww.cell, UA.at_ (by omega)]
            unfold Sha.Sk
            rw [if_pos (by omega)]
          have q0 := cell m (by omega)
          have q1 := cell (m + 1) (by omega)
          have q9 := cell (m + 9) (by omega)
          have q14 := cell (m + 14) (by omega)
          have hS := SS_hi 48 bs m (by omega)
          rw [← S_SS] at hS
          obtain ⟨x0, hx0⟩ : ∃ x, x = Sha.S bs m := ⟨_, rfl⟩
          obtain ⟨x1, hx1⟩ : ∃ x, x = Sha.S bs (m + 1) := ⟨_, rfl⟩
          obtain ⟨x9, hx9⟩ : ∃ x, x = Sha.S bs (m + 9) := ⟨_, rfl⟩
          obtain ⟨x14, hx14⟩ : ∃ x, x = Sha.S bs (m + 14) := ⟨_, rfl⟩
          rw [← hx0] at q0 hS
          rw [← hx1] at q1 hS
          rw [← hx9] at q9 hS
          rw [← hx14] at q14 hS
          have HS := Lib.hid hS
          clear hS hx0 hx1 hx9 hx14
          have n0 : (0 : Int) ≤ (k : Int) - 16 := by omega
          have n1 : (0 : Int) ≤ (k : Int) - 15 := by omega
          have n9 : (0 : Int) ≤ (k : Int) - 7 := by omega
          have n14 : (0 : Int) ≤ (k : Int) - 2 := by omega
          have l0 : (k : Int) - 16 < 64 := by omega
          have l1 : (k : Int) - 15 < 64 := by omega
          have l9 : (k : Int) - 7 < 64 := by omega
          have l14 : (k : Int) - 2 < 64 := by omega
          have t0 : ((k : Int) - 16).toNat = m := by omega
          have t1 : ((k : Int) - 15).toNat = m + 1 := by omega
          have t9 : ((k : Int) - 7).toNat = m + 9 := by omega
          have t14 : ((k : Int) - 2).toNat = m + 14 := by omega
          have w0 : IntKind.i64.wrap ((k : Int) - 16) = (k : Int) - 16 := by rw [IntKind.wrap_i64]; omega
          have w1 : IntKind.i64.wrap ((k : Int) - 15) = (k : Int) - 15 := by rw [IntKind.wrap_i64]; omega
          have w9 : IntKind.i64.wrap ((k : Int) - 7) = (k : Int) - 7 := by rw [IntKind.wrap_i64]; omega
          have w14 : IntKind.i64.wrap ((k : Int) - 2) = (k : Int) - 2 := by rw [IntKind.wrap_i64]; omega
          have m16 : (16 : Int) ≤ (k : Int) := by omega
          have m15 : (15 : Int) ≤ (k : Int) := by omega
          have m7 : (7 : Int) ≤ (k : Int) := by omega
          have m2 : (2 : Int) ≤ (k : Int) := by omega
          clear cell hkm
          have rx : ∀ a b : Nat, bits .xor .u32 (a : Int) (b : Int) = ((Sha.xo a b : Nat) : Int) := r_xor
          have s3 : (x1 : Int) / 8 = ((Sha.sh 3 x1 : Nat) : Int) := r_sh3 x1
          have s10 : (x14 : Int) / 1024 = ((Sha.sh 10 x14 : Nat) : Int) := r_sh10 x14
          go_wp2_with fail
          go_quiet ((go_at_call 37; exact Calls.quiet_of_same (turn_q _ _ _ (by decide))))
          obtain ⟨W2, hW2⟩ : ∃ W2, W2 = wr.drewN nq := ⟨_, rfl⟩
          go_wp2_with fail
          rw [← hW2]
          have HR2 := Lib.hid (show Rb w W2 bh bk w.heap.size s (Sha.Sk bs k) by rw [hW2]; exact HR.out.drewN nq)
          have p0 : W2.cell? ⟨w.heap.size, m, none⟩ = some (.int .u32 (x0 : Int)) := by rw [hW2]; exact q0
          have p9 : W2.cell? ⟨w.heap.size, m + 9, none⟩ = some (.int .u32 (x9 : Int)) := by rw [hW2]; exact q9
          have p14 : W2.cell? ⟨w.heap.size, m + 14, none⟩ = some (.int .u32 (x14 : Int)) := by rw [hW2]; exact q14
          clear q0 q1 q9 q14 hW2 HR
          go_quiet ((go_at_call 37; exact Calls.quiet_of_same (turn_q _ _ _ (by decide))))
          obtain ⟨W3, hW3⟩ : ∃ W3, W3 = W2.drewN nq := ⟨_, rfl⟩
          go_wp2_with fail
          rw [← hW3]
          refine wp_region_still_tail 18 (by kernel_rfl) (by kernel_rfl) ?_
          simp only [List.take_succ_cons, List.take_zero, List.drop_succ_cons, List.drop_zero]
          change wpStill _ _ W3.drew (fun a' => wpList _ _ _ _ a' W3.drew) _ _
          obtain ⟨W4, hW4⟩ : ∃ W4, W4 = W3.drew := ⟨_, rfl⟩
          rw [← hW4]
          have HR4 := Lib.hid (show Rb w W4 bh bk w.heap.size s (Sha.Sk bs k) by rw [hW4, hW3]; exact (HR2.out.drewN nq).drewN 1)
          have r0 : W4.cell? ⟨w.heap.size, m, none⟩ = some (.int .u32 (x0 : Int)) := by rw [hW4, hW3]; exact p0
          have r9 : W4.cell? ⟨w.heap.size, m + 9, none⟩ = some (.int .u32 (x9 : Int)) := by rw [hW4, hW3]; exact p9
          have pf : W4.frozen? ⟨w.heap.size, k, none⟩ = false := HR4.out.ww.frozen k
          have ck : W4.cell? ⟨w.heap.size, k, none⟩ = some (.int .u32 ((Sha.Sk bs k k : Nat) : Int)) := by rw [HR4.out.ww.cell, UA.at_ (by omega)]
          clear hW4 hW3 p0 p9 p14
          have ra : ∀ a b : Nat, ((a : Int) + (b : Int)) % 4294967296 = ((Sha.add a b : Nat) : Int) := r_add
          have raw : ∀ a b : Nat, IntKind.u32.wrap ((a : Int) + (b : Int)) = ((Sha.add a b : Nat) : Int) := r_addw
          repeat still_step
          refine wpStill_nil ?_
          go_wp2_with fail
          have hv : Sha.add (Sha.add (Sha.add x0 (Sha.xo (Sha.xo (Sha.ror 7 x1) (Sha.ror 18 x1)) (Sha.sh 3 x1))) x9) (Sha.xo (Sha.xo (Sha.ror 17 x14) (Sha.ror 19 x14)) (Sha.sh 10 x14)) = Sha.S bs k := by
            rw [HKM.out, HS.out]
            unfold Sha.s0 Sha.s1
            with_reducible rfl
          rw [hv]
          have HR5 := Lib.hid ((HR4.out.set k (Sha.S bs k)).congr (f' := Sha.Sk bs (k + 1)) (fun i _ => Sk_succ bs k i))
          exact ⟨⟨k + 1, by omega, by omega, by go_num, HR5⟩, by simp [intOf]; omega⟩
        · obtain rfl : k = 64 := by omega
          clear hlt
          rw [show ((64 : Nat) : Int) = 64 from rfl]
          have HR6 := Lib.hid (HR.out.congr (f' := Sha.S bs) (fun i hi => by unfold Sha.Sk; rw [if_pos hi]))
          have HH2 := Lib.hid (Wd.reads HR6.out.hh (.cells #[] 53))
          have HWA := Lib.hid (HR6.out.alloc (.cells #[] 53))
          clear HR
          obtain ⟨i0, hi0, hj0, hj1, hj2⟩ := info_parts info53
          go_wp2_with (at_builtin; go_must ((refine wpList_append_any _ rfl (.tmp 120) (.tmp 121) 69 rfl wr.heap.size 53 i0 _ 1 4 Try.underlying69 hi0 hj0 hj1 hj2 rfl (by omega) (.slice (some ⟨wr.heap.size, 0, none⟩) 0 0) 0 [] rfl (World.ownsRow_made wr #[] 0 (Nat.le_refl _) (by simp [maxLen]) rfl) AnyB (some ⟨bh, 0, none⟩) 8 ch (U32 s.list) rfl HH2.out (U32.one _) (by simp [maxLen]) (by omega) (by simp) ?_); intro v1 w1 hown1 hg1 hat1; obtain ⟨b, cc, hcc, hbb, rfl, HV1, HR7⟩ := own_words hown1 hg1 hat1 HWA.out HR6.out.ww.lt; clear hown1 hg1 hat1))
          clear hj0 hj1 hj2 hi0
          go_loopw [12, 13] (fun v12 v13 wr => ∃ k b cc : Nat, k ≤ 64 ∧ v13 = .int .i64 (k : Int) ∧ v12 = .slice (some ⟨b, 0, none⟩) 8 cc ∧ 8 ≤ cc ∧ w.heap.size < b ∧ Hid (Wd wr b (Sha.rounds (Sha.sched bs) s k)) ∧ Hid (Rb w wr bh bk w.heap.size s (Sha.S bs))) (fun _ v13 _ => 64 - (intOf v13).toNat)
          case atStart => exact ⟨0, b, cc, by omega, rfl, rfl, hcc, hbb, HV1, HR7⟩
          case round =>
            clear HV1 HR7 HR6 HWA HH2
            obtain ⟨k, b, cc, hk, rfl, rfl, hcc, hbb, HV, HR⟩ := hrel
            by_cases hlt : k < 64
            · have hlt' : (k : Int) < 64 := by omega
              obtain ⟨t, ht⟩ : ∃ t, t = Sha.rounds (Sha.sched bs) s k := ⟨_, rfl⟩
              rw [← ht] at HV
              have HT := Lib.hid ht
              obtain ⟨q0, q1, q2, q3, q4, q5, q6, q7⟩ := HV.out.eight
              obtain ⟨x, hx⟩ : ∃ x, x = Sha.S bs k := ⟨_, rfl⟩
              obtain ⟨y, hy⟩ : ∃ y, y = Sha.K.getD k 0 := ⟨_, rfl⟩
              have c7 : wr.cell? ⟨w.heap.size, k, none⟩ = some (.int .u32 (x : Int)) := by rw [HR.out.ww.cell, UA.at_ hlt, hx]
              have ck : wr.cell? ⟨bk, k, none⟩ = some (.int .u32 (y : Int)) := by rw [HR.out.kk.cell, UA.at_ hlt, hy]
              have HXY := Lib.hid (And.intro hx hy)
              clear hx hy ht
              have rx : ∀ a b : Nat, bits .xor .u32 (a : Int) (b : Int) = ((Sha.xo a b : Nat) : Int) := r_xor
              have rxm : ∀ b : Nat, bits .xor .u32 IntKind.u32.max (b : Int) = ((Sha.xo 4294967295 b : Nat) : Int) := r_xor 4294967295
              have rxi : ∀ b : Nat, bits .xor .u32 (if IntKind.u32.signed = true then -1 else IntKind.u32.max) (b : Int) = ((Sha.xo 4294967295 b : Nat) : Int) := r_xor 4294967295
              have rxl : ∀ b : Nat, bits .xor .u32 4294967295 (b : Int) = ((Sha.xo 4294967295 b : Nat) : Int) := r_xor 4294967295
              have ro : ∀ a b : Nat, bits .or .u32 (a : Int) (b : Int) = ((Sha.orr a b : Nat) : Int) := r_or
              have rn : ∀ a b : Nat, bits .and .u32 (a : Int) (b : Int) = ((Sha.an a b : Nat) : Int) := r_and
              have ra : ∀ a b : Nat, ((a : Int) + (b : Int)) % 4294967296 = ((Sha.add a b : Nat) : Int) := r_add
              have raw : ∀ a b : Nat, IntKind.u32.wrap ((a : Int) + (b : Int)) = ((Sha.add a b : Nat) : Int) := r_addw
              go_wp2_with fail
              go_quiet ((go_at_call 37; exact Calls.quiet_of_same (turn_q _ _ _ (by decide))))
              obtain ⟨W2, hW2⟩ : ∃ W2, W2 = wr.drewN nq := ⟨_, rfl⟩
              go_wp2_with fail
              rw [← hW2]
              have HR2 := Lib.hid (show Rb w W2 bh bk w.heap.size s (Sha.S bs) by rw [hW2]; exact HR.out.drewN nq)
              have HV2 := Lib.hid (show Wd W2 b t by rw [hW2]; exact HV.out.drewN nq)
              clear hW2 q0 q1 q2 q3 q4 q5 q6 q7 c7 ck HR HV
              obtain ⟨q0, q1, q2, q3, q4, q5, q6, q7⟩ := HV2.out.eight
              have hXch : Sha.add (Sha.add (Sha.add (Sha.add t.h (Sha.xo (Sha.xo (Sha.ror 6 t.e) (Sha.ror 11 t.e)) (Sha.ror 25 t.e))) (Sha.xo (Sha.an t.e t.f) (Sha.an (Sha.xo 4294967295 t.e) t.g))) y) x = Sha.add (Sha.add (Sha.add (Sha.add t.h (Sha.S1 t.e)) (Sha.ch t.e t.f t.g)) y) x := by rw [Sha.ch_ref]; rfl
              obtain ⟨X, hX⟩ : ∃ X, X = Sha.add (Sha.add (Sha.add (Sha.add t.h (Sha.S1 t.e)) (Sha.ch t.e t.f t.g)) y) x := ⟨_, rfl⟩
              rw [← hX] at hXch
              rw [hXch]
              have HXX := Lib.hid hX
              clear hX hXch
              go_quiet ((go_at_call 37; exact Calls.quiet_of_same (turn_q _ _ _ (by decide))))
              obtain ⟨W3, hW3⟩ : ∃ W3, W3 = W2.drewN nq := ⟨_, rfl⟩
              go_wp2_with fail
              rw [← hW3]
              have HR3 := Lib.hid (show Rb w W3 bh bk w.heap.size s (Sha.S bs) by rw [hW3]; exact HR2.out.drewN nq)
              have HV3 := Lib.hid (show Wd W3 b t by rw [hW3]; exact HV2.out.drewN nq)
              clear hW3 q0 q1 q2 q3 q4 q5 q6 q7 HR2 HV2
              have hYmaj : Sha.add (Sha.xo (Sha.xo (Sha.ror 2 t.a) (Sha.ror 13 t.a)) (Sha.ror 22 t.a)) (Sha.xo (Sha.xo (Sha.an t.a t.b) (Sha.an t.a t.c)) (Sha.an t.b t.c)) = Sha.add (Sha.S0 t.a) (Sha.maj t.a t.b t.c) := by rw [Sha.maj_ref]; rfl
              obtain ⟨Y, hY⟩ : ∃ Y, Y = Sha.add (Sha.S0 t.a) (Sha.maj t.a t.b t.c) := ⟨_, rfl⟩
              rw [← hY] at hYmaj
              rw [hYmaj]
              have HYY := Lib.hid hY
              clear hY hYmaj
              refine wp_region_still_tail 26 (by kernel_rfl) (by kernel_rfl) ?_
              simp only [List.take_succ_cons, List.take_zero, List.drop_succ_cons, List.drop_zero]
              change wpStill _ _ W3.drew (fun a' => wpList _ _ _ _ a' W3.drew) _ _
              obtain ⟨W4, hW4⟩ : ∃ W4, W4 = W3.drew := ⟨_, rfl⟩
              rw [← hW4]
              have HR4 := Lib.hid (show Rb w W4 bh bk w.heap.size s (Sha.S bs) by rw [hW4]; exact HR3.out.drewN 1)
              have HV4 := Lib.hid (show Wd W4 b t by rw [hW4]; exact HV3.out.drewN 1)
              clear hW4 HR3 HV3
              obtain ⟨q0, q1, q2, q3, q4, q5, q6, q7⟩ := HV4.out.eight
              repeat still_step
              refine wpStill_nil ?_
              go_wp2_with fail
              have HV5 := Lib.hid (show Wd (W4.alloc (.cells (SV ⟨Sha.add X Y, t.a, t.b, t.c, Sha.add t.d X, t.e, t.f, t.g⟩) 53)) W4.heap.size (Sha.rounds (Sha.sched bs) s (k + 1)) by
                have e : (⟨Sha.add X Y, t.a, t.b, t.c, Sha.add t.d X, t.e, t.f, t.g⟩ : Sha.St) = Sha.rounds (Sha.sched bs) s (k + 1) := by
                  rw [rounds_next, ← HT.out, HXX.out, HYY.out, HXY.out.1, HXY.out.2]
                  unfold Sha.step Sha.S
                  with_reducible rfl
                rw [e]
                exact Wd.of_blk (Blk.new _ _ _))
              have HR5 := Lib.hid (HR4.out.alloc (.cells (SV ⟨Sha.add X Y, t.a, t.b, t.c, Sha.add t.d X, t.e, t.f, t.g⟩) 53))
              have hlt5 := HR4.out.ww.lt
              exact ⟨⟨k + 1, W4.heap.size, 8, by omega, by go_num, rfl, by omega, hlt5, HV5, HR5⟩, by simp [intOf]; omega⟩
            · obtain rfl : k = 64 := by omega
              clear hlt
              rw [show ((64 : Nat) : Int) = 64 from rfl]
              obtain ⟨t, ht⟩ : ∃ t, t = Sha.rounds (Sha.sched bs) s 64 := ⟨_, rfl⟩
              rw [← ht] at HV
              have HT := Lib.hid ht
              clear ht
              go_wp2_with fail
              go_loopw [16] (fun v16 wr => ∃ k : Nat, k ≤ 8 ∧ v16 = .int .i64 (k : Int) ∧ Hid (Wd wr b (Pl t s k)) ∧ Hid (Rb w wr bh bk w.heap.size s (Sha.S bs))) (fun v16 _ => 8 - (intOf v16).toNat)
              case atStart => exact ⟨0, by omega, rfl, Lib.hid (by rw [Pl_zero]; exact HV.out), HR⟩
              case round =>
                obtain ⟨k, hk, rfl, HV, HR⟩ := hrel
                by_cases hlt : k < 8
                · have hlt' : (k : Int) < 8 := by omega
                  obtain ⟨x, hx⟩ : ∃ x, x = t.list.getD k 0 := ⟨_, rfl⟩
                  obtain ⟨y, hy⟩ : ∃ y, y = s.list.getD k 0 := ⟨_, rfl⟩
                  go_wp2_with fail
                  refine wp_region_still_tail 12 (by kernel_rfl) (by kernel_rfl) ?_
                  simp only [List.take_succ_cons, List.take_zero, List.drop_succ_cons, List.drop_zero]
                  change wpStill _ _ wr.drew (fun a' => wpList _ _ _ _ a' wr.drew) _ _
                  obtain ⟨W2, hW2⟩ : ∃ W2, W2 = wr.drew := ⟨_, rfl⟩
                  rw [← hW2]
                  have HR2 := Lib.hid (show Rb w W2 bh bk w.heap.size s (Sha.S bs) by rw [hW2]; exact HR.out.drewN 1)
                  have HV2 := Lib.hid (show Wd W2 b (Pl t s k) by rw [hW2]; exact HV.out.drewN 1)
                  have c8 : W2.cell? ⟨b, k, none⟩ = some (.int .u32 (x : Int)) := by rw [HV2.out.cell k hlt, Pl_at _ _ _ hlt, hx]
                  have c4 : W2.cell? ⟨bh, k, none⟩ = some (.int .u32 (y : Int)) := by rw [HR2.out.hh.cell k hlt, hy]
                  have f8 := HV2.out.free k hlt
                  have HP := Lib.hid (show Pl t s (k + 1) = Pl' (Pl t s k) k (Sha.add x y) by rw [hx, hy]; exact Pl_succ t s k hlt)
                  clear hW2 hx hy
                  have ra : ∀ a b : Nat, ((a : Int) + (b : Int)) % 4294967296 = ((Sha.add a b : Nat) : Int) := r_add
                  have raw : ∀ a b : Nat, IntKind.u32.wrap ((a : Int) + (b : Int)) = ((Sha.add a b : Nat) : Int) := r_addw
                  repeat still_step
                  refine wpStill_nil ?_
                  go_wp2_with fail
                  have HV3 := Lib.hid (show Wd (W2.setCell ⟨b, k, none⟩ (.int .u32 ((Sha.add x y : Nat) : Int))) b (Pl t s (k + 1)) by rw [HP.out]; exact HV2.out.set k _ hlt)
                  have HR3 := Lib.hid (HR2.out.grown (b := b) (only_setCell (p := ⟨b, k, none⟩) (World.grownBy.refl _ _) (.inl rfl) (.int .u32 ((Sha.add x y : Nat) : Int))) hbb)
                  exact ⟨⟨k + 1, by omega, by go_num, HV3, HR3⟩, by simp [intOf]; omega⟩
                · obtain rfl : k = 8 := by omega
                  clear hlt
                  rw [show ((8 : Nat) : Int) = 8 from rfl]
                  have HV9 := Lib.hid (show Wd wr b (Sha.block s bs) by
                    have h := HV.out
                    rw [Pl_all, HT.out] at h
                    exact h)
                  have HB9 := Lib.hid HR.out.bel
                  clear HV HR HT HX HH HK
                  go_wp2_with fail
                  go_ret
                  exact ⟨b, cc, rfl, hcc, by omega, HV9.out, HB9.out⟩
end Go.Proofs.Ytepcbnkhfiphdaa
