/- The walk of the engine's Many (sha). Conditions: each theorem's premises. -/
import Derived.Test.YtepcbnkhfiphdaaSha13
import Derived.Great.BuildSlice
namespace Go.Proofs.Ytepcbnkhfiphdaa
open Go.RowKit
/-- A list of texts that is read. -/
structure RR (w : World) (S : Nat → Prop) (A : Option Addr) (n c : Nat) (l : List (List UInt8)) : Prop where
  len : l.length = n
  cap : n ≤ c
  at_ : ∀ k, k < n → ∃ ad A' c' x, A = some ad ∧ S ad.block ∧ Hid (l[k]? = some x) ∧ w.cell? (ad.add k) = some (.slice A' x.length c') ∧ Bs w S A' x.length c' x ∧ x.length ≤ 140737488351232
section
variable {w w' : World} {S S' : Nat → Prop} {n c B : Nat} {A : Option Addr} {l : List (List UInt8)} {X : Nat → Prop}
theorem RR.keep (h : RR w S A n c l) (hk : ∀ p : Addr, S p.block → p.block < w.heap.size → w'.cell? p = w.cell? p) (hS : ∀ k, S k → k < w.heap.size → S' k) : RR w' S' A n c l :=
  ⟨h.len, h.cap, fun k hlt => by
    obtain ⟨ad, A', c', x, e, hs, hl, hc, hb, hm⟩ := h.at_ k hlt
    have hz := World.block_lt_of_cell? w _ hc
    rw [block_of_add] at hz
    exact ⟨ad, A', c', x, e, hS _ hs hz, hl, (hk _ (by rw [block_of_add]; exact hs) (by rw [block_of_add]; exact hz)).trans hc, hb.keep hk hS, hm⟩⟩
theorem RR.old (h : RR w S A n c l) : RR w (Lo w.heap.size) A n c l := h.keep (fun _ _ _ => rfl) (fun _ _ h => h)
theorem RR.oldS (h : RR w S A n c l) : RR w (fun k => S k ∧ k < w.heap.size) A n c l := h.keep (fun _ _ _ => rfl) (fun _ h h' => ⟨h, h'⟩)
theorem RR.below (h : RR w (Lo B) A n c l) (hb : Below B w w') : RR w' (Lo B) A n c l := h.keep (fun _ hp _ => hb.cell hp) (fun _ h _ => h)
theorem RR.after (h : RR w S A n c l) (hb : Below w.heap.size w w') : RR w' S A n c l := h.keep (fun _ _ hp => hb.cell hp) (fun _ h _ => h)
theorem RR.but (h : RR w S A n c l) (ho : Only X w w') (hS : ∀ k, S k → k < w.heap.size → ¬ X k) : RR w' S A n c l := h.keep (fun _ hp hlt => ho.cell hlt (hS _ hp hlt)) (fun _ h _ => h)
end
/-! ### A row of hashes of the call's own -/
theorem info30 : (Try.prog.info? 30).map (fun i => (i.zero, i.size, i.bytes)) = some (some (.agg (UB (fun _ => 0))), 32, 32) := by kernel_rfl
/-- Hashes as cells. -/
def HV (l : List (List UInt8)) : List Value := (l.map u8s).flatten
theorem HV_snoc (l : List (List UInt8)) (x : List UInt8) : HV (l ++ [x]) = HV l ++ u8s x := by simp [HV]
theorem HV_len (l : List (List UInt8)) (h : ∀ x ∈ l, x.length = 32) : (HV l).length = l.length * 32 := by
  induction l with
  | nil => rfl
  | cons x l ih =>
    have : HV (x :: l) = u8s x ++ HV l := by simp [HV]
    rw [this, List.length_append, u8s_length, h x (by simp), ih (fun y hy => h y (by simp [hy]))]
    simp
    omega
theorem HV_at (l : List (List UInt8)) (h : ∀ x ∈ l, x.length = 32) (k : Nat) (x : List UInt8) (hk : l[k]? = some x) (j : Nat) (hj : j < 32) : (HV l)[k * 32 + j]? = (u8s x)[j]? := by
  induction l generalizing k with
  | nil => simp at hk
  | cons y l ih =>
    have e : HV (y :: l) = u8s y ++ HV l := by simp [HV]
    have hy : (u8s y).length = 32 := by rw [u8s_length, h y (by simp)]
    rw [e]
    rcases k with _ | k
    · simp at hk
      subst hk
      rw [List.getElem?_append_left (by omega)]
      congr 1
      omega
    · rw [List.getElem?_append_right (by omega), hy, show (k + 1) * 32 + j - 32 = k * 32 + j by omega]
      exact ih (fun z hz => h z (by simp [hz])) k (by simpa using hk)
/-- The hashes of texts. -/
def sums (l : List (List UInt8)) : List (List UInt8) := l.map Sha.sum
theorem sums_len (l : List (List UInt8)) : ∀ x ∈ sums l, x.length = 32 := by
  intro x hx
  simp only [sums, List.mem_map] at hx
  obtain ⟨y, -, rfl⟩ := hx
  exact Sha.sum_len y
/-- How many blocks texts have. -/
def blks (l : List (List UInt8)) : Nat := (l.map fun x => (x.length + 72) / 64).sum
theorem blks_snoc (l : List (List UInt8)) (x : List UInt8) : blks (l ++ [x]) = blks l + (x.length + 72) / 64 := by simp [blks]
/-- The append of one hash. -/
theorem wpList_append_hash {ops : Array Oper} {rest : List Oper} {o : Oper} {a : Act} {Q : Exit → Act → World → Prop} {w : World} (hgd : o.guard = none) (s x : Operand)
    (ho : o.op = .call { callee := .builtin .append, args := #[s, x], argTypes := #[26, 26] })
    {base : Nat} {v : Value} {n : Nat} {l : List (List UInt8)} (hs : a.eval s = v) (hown : w.ownsRow base 30 32 v n (HV l))
    {g t : Nat} {y : List UInt8} (hx : a.eval x = .slice (some ⟨g, 0, none⟩) 1 1) (hy : y.length = 32) (hr : Blk w g t (NC y)) (hn : n ≤ 1000) (hbase : base ≤ w.heap.size)
    (h : ∀ v' w', w'.ownsRow base 30 32 v' (n + 1) (HV (l ++ [y])) → w.grownBy w' v.ownBlock → (v'.ownBlock = v.ownBlock ∨ v'.ownBlock = some w.heap.size) → wpList Try.prog ops Q rest (a.put o.dst v') w') : wpList Try.prog ops Q (o :: rest) a w := by
  obtain ⟨i0, hi0, hz0, hz1, hz2⟩ := info_parts info30
  refine wpList_append_any w hgd s x 26 ho base 30 i0 _ 32 32 Try.underlying26 hi0 hz0 hz1 hz2 (UB.size _) (by omega) v n (HV l) hs hown AnyB (some ⟨g, 0, none⟩) 1 1 (u8s y) hx ⟨by rw [u8s_length, hy], fun _ => ⟨_, rfl, trivial, fun j u hu => ?_⟩⟩ u8s_one (by simp only [maxLen]; omega) (by omega) hbase ?_
  · rw [add_plain, hr.cell, ← hu]
    simp [NC]
  · intro v' w' h1 h2 h3
    exact h v' w' (by rw [HV_snoc]; exact h1) h2 h3
theorem list32 : ∀ (nm : List UInt8), nm.length = 32 → ∃ a0 a1 a2 a3 a4 a5 a6 a7 a8 a9 a10 a11 a12 a13 a14 a15 a16 a17 a18 a19 a20 a21 a22 a23 a24 a25 a26 a27 a28 a29 a30 a31, nm = [a0, a1, a2, a3, a4, a5, a6, a7, a8, a9, a10, a11, a12, a13, a14, a15, a16, a17, a18, a19, a20, a21, a22, a23, a24, a25, a26, a27, a28, a29, a30, a31]
  | [a0, a1, a2, a3, a4, a5, a6, a7, a8, a9, a10, a11, a12, a13, a14, a15, a16, a17, a18, a19, a20, a21, a22, a23, a24, a25, a26, a27, a28, a29, a30, a31], _ => ⟨a0, a1, a2, a3, a4, a5, a6, a7, a8, a9, a10, a11, a12, a13, a14, a15, a16, a17, a18, a19, a20, a21, a22, a23, a24, a25, a26, a27, a28, a29, a30, a31, rfl⟩
set_option maxRecDepth 100000 in
theorem fill30 (nm : List UInt8) (hn : nm.length = 32) : ∃ (ie : TypeInfo) (zz : Value), Try.prog.info? 30 = some ie ∧ ie.zero = some zz ∧ ie.size = 32 ∧
    Instr.fill (fun i => some (i * ie.size, ie.size)) ((Array.range (1 * ie.size)).map (zz.cells[· % zz.cells.size]!)) [(0, .agg (NC nm))] = some (NC nm) := by
  obtain ⟨a0, a1, a2, a3, a4, a5, a6, a7, a8, a9, a10, a11, a12, a13, a14, a15, a16, a17, a18, a19, a20, a21, a22, a23, a24, a25, a26, a27, a28, a29, a30, a31, rfl⟩ := list32 nm hn
  obtain ⟨ie, hie⟩ : ∃ ie, Try.prog.info? 30 = some ie := ⟨_, rfl⟩
  refine ⟨_, _, rfl, rfl, rfl, ?_⟩
  kernel_rfl
set_option maxRecDepth 100000 in
theorem many_nil (w : World) (S : Nat → Prop) (A : Option Addr) (n c : Nat) (l : List (List UInt8)) (hx : RR w S A n c l) (hn : n ≤ 1000) : Calls Try.prog 9 #[.pointer none, .slice A n c] w fun e w' => e = .returned (.slice none 0 0) ∧ w = w' := by
  have HX := Lib.hid hx
  clear hx
  go_enter Try.func9, Try.ntmps9
  go_wp2_with fail
  go_loopw [4, 9] (fun v4 v9 wr => w = wr ∧ v4 = .slice none 0 0 ∧ ∃ k : Nat, k ≤ n ∧ v9 = .int .i64 (k : Int)) (fun _ v9 _ => n - (intOf v9).toNat)
  case atStart => exact ⟨rfl, rfl, 0, by omega, rfl⟩
  case round =>
    obtain ⟨rfl, rfl, k, hk, rfl⟩ := hrel
    by_cases hlt : k < n
    · obtain ⟨ad, A', c', x, rfl, -, -, hc, -, -⟩ := HX.out.at_ k hlt
      have hlt' : (k : Int) < (n : Int) := by omega
      go_wp2_with fail
      go_roundw
      case rel => exact ⟨trivial, rfl, k + 1, by omega, by go_num⟩
      case measure => simp [intOf]; omega
    · obtain rfl : k = n := by omega
      go_wp2_with fail
      go_ret
      exact ⟨rfl, rfl⟩
set_option maxRecDepth 100000 in
set_option maxHeartbeats 1000000 in
theorem many_any (w : World) (g : Nat) (nb : Int) (h : Eng w g nb) (hnb : 0 ≤ nb ∧ nb ≤ 1000000) (S : Nat → Prop) (A : Option Addr) (n c : Nat) (l : List (List UInt8)) (hx : RR w S A n c l) (hS : ∀ k, S k → k < w.heap.size → k ≠ g) (hn : n ≤ 20) :
    Calls Try.prog 9 #[.pointer (some ⟨g, 0, none⟩), .slice A n c] w fun e w' => ∃ v, e = .returned v ∧ w'.ownsRow w.heap.size 30 32 v n (HV (sums l)) ∧ (∃ nb' : Int, Eng w' g nb' ∧ 0 ≤ nb' ∧ nb' ≤ 1000000000000000) ∧ w.grownBy w' (some g) := by
  obtain ⟨hn1, hn2⟩ := hnb
  have HX := Lib.hid hx.oldS
  have HE := Lib.hid h
  have HS := Lib.hid hS
  have hgl := h.lt
  clear hx h hS
  go_enter Try.func9, Try.ntmps9
  go_wp2_with fail
  go_loopw [4, 9] (fun v4 v9 wr => ∃ (k : Nat) (A4 : Option Addr) (c4 : Nat) (m : Int), k ≤ n ∧ v9 = .int .i64 (k : Int) ∧ v4 = .slice A4 k c4 ∧ nb ≤ m ∧ m ≤ nb + 10000000000000 * (k : Int) ∧ Hid (Eng wr g m) ∧ Hid (wr.ownsRow w.heap.size 30 32 (.slice A4 k c4) k (HV (sums (l.take k)))) ∧ Hid (w.grownBy wr (some g))) (fun _ v9 _ => n - (intOf v9).toNat)
  case atStart => exact ⟨0, none, 0, nb, by omega, rfl, rfl, by omega, by omega, HE, Lib.hid (World.ownsRow_nil _ _ _ _), Lib.hid (World.grownBy.refl _ _)⟩
  case round =>
    obtain ⟨k, A4, c4, m, hk, rfl, rfl, hm1, hm2, HE4, HO4, HG4⟩ := hrel
    by_cases hlt : k < n
    · have hlt' : (k : Int) < (n : Int) := by omega
      have o4 : Only (fun j => j = g) w wr := Only.of_grown HG4.out (fun j e => by injection e with e; exact e.symm)
      obtain ⟨ad, A', c', x, rfl, hs, Hl, hc, hb, hm⟩ := (HX.out.but o4 (fun j hj hlt e => HS.out j hj.1 hlt e)).at_ k hlt
      obtain ⟨x0, c0⟩ := HE4.out.c0
      have HBX := Lib.hid hb
      have HOO := Lib.hid o4
      clear hb hs o4
      go_wp2_with fail
      refine (esum_any wr g m HE4.out (by omega) _ A' c' x HBX.out (fun j hj hlt e => HS.out j hj.1 hj.2 e) hm).mono ?_
      rintro e w2 ⟨rfl, hen, hg2⟩
      have HEN := Lib.hid hen
      have HG2 := Lib.hid hg2
      have HO2 := Lib.hid (HO4.out.kept (row := some g) hg2 (.inr (fun e => by have := own_base HO4.out g e; omega)))
      have hz2 := HG4.out.size
      have hz3 := hg2.size
      have HSL := Lib.hid (Sha.sum_len x)
      clear hen hg2 c0
      obtain ⟨y, hy⟩ : ∃ y, y = Sha.sum x := ⟨_, rfl⟩
      rw [← hy] at HSL
      rw [← hy]
      have HY := Lib.hid hy
      clear hy
      obtain ⟨ie, zz, hie, hzz, hsz, hfill⟩ := fill30 y HSL.out
      have HFI := Lib.hid (And.intro hie (And.intro hzz (And.intro hsz hfill)))
      clear hie hzz hsz hfill
      go_wp2_with (first
        | (with_reducible show wpList Try.prog _ _ ({ dst := some 19, op := Op.buildSlice 26 1 _, type := _, pos := _, after := _, guard := none } :: _) _ _; go_must ((refine wpList_buildSlice rfl 26 30 1 _ rfl (NC y) ie zz Try.underlying26 HFI.out.1 HFI.out.2.1 (by rw [HFI.out.2.2.1]; omega) (by rw [HFI.out.2.2.1]; omega) ((congrArg (Instr.fill _ _) (by simp [Act.eval])).trans HFI.out.2.2.2) ?_)); simp only [Act.put, List.setIfInBounds_toArray, List.set_cons_zero, List.set_cons_succ])
        | (at_builtin; go_must ((refine wpList_append_hash rfl (.tmp 15) (.tmp 19) rfl (base := w.heap.size) (v := .slice A4 k c4) (n := k) (l := sums (l.take k)) rfl (HO2.out.alloc _) rfl HSL.out (Blk.new w2 30 (NC y)) (by omega) (by simp; omega) ?_); intro v3 w3 hown3 hg3 hat3)))
      have hL : sums (l.take (k + 1)) = sums (l.take k) ++ [y] := by
        unfold sums
        rw [take_snoc Hl.out, List.map_append, HY.out]
        rfl
      rw [← hL] at hown3
      obtain ⟨A5, c5, hv5, -⟩ := own_shape hown3
      subst hv5
      have hob := own_base HO2.out
      have hE3 : En w3 g 1 0 fillF (m + (((x.length + 72) / 64 : Nat) : Int)) := (HEN.out.alloc _).grown hg3 (fun e => by have := hob g e.symm; omega)
      have hG3 : w.grownBy w3 (some g) := by
        have o1 : Only (fun j => j = g) w w2 := HOO.out.then (Only.of_grown (X := fun j => j = g) HG2.out (fun j e => by injection e with e; exact e.symm)) (fun i _ e => e)
        have o2 := (o1.alloc (.cells (NC y) 30)).then (Only.of_grown (X := fun j => w.heap.size ≤ j) hg3 (fun j e => hob j e)) (fun i hi e => by omega)
        exact ⟨o2.os, o2.tape, o2.output, o2.size, fun i hi hne => o2.block i hi (fun e => hne (by rw [e]))⟩
      exact ⟨⟨k + 1, A5, c5, m + (((x.length + 72) / 64 : Nat) : Int), by omega, by go_num, rfl, by omega, by omega, Lib.hid (.inl hE3), Lib.hid hown3, Lib.hid hG3⟩, by simp [intOf]; omega⟩
    · obtain rfl : k = n := by omega
      have HF := Lib.hid HO4.out
      rw [List.take_of_length_le (by rw [HX.out.len]; omega)] at HF
      go_wp2_with fail
      go_ret
      exact ⟨_, rfl, HF.out, ⟨m, HE4.out, by omega, by omega⟩, HG4.out⟩
end Go.Proofs.Ytepcbnkhfiphdaa
