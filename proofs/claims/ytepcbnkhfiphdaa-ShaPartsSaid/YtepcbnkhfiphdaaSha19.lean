/- The walks of Compare and the reference's Less (sha). Conditions: each theorem's premises. -/
import Derived.Test.YtepcbnkhfiphdaaSha18
import Derived.Lib.BytesEntry
import Derived.Lib.Bytealg
namespace Go.Proofs.Ytepcbnkhfiphdaa
open Go.RowKit
theorem loaded {w : World} {S : Nat → Prop} {A : Option Addr} {n c : Nat} {bs : List UInt8} (h : Bs w S A n c bs) : (Extern.Bytes.bytesOf (.slice A n c)).run Try.prog w = .ok ⟨bs.toArray⟩ w := by
  rcases A with _ | ad
  · obtain ⟨rfl, rfl⟩ := h.nil0
    rfl
  · obtain ⟨xs, hxs⟩ : ∃ xs : List Int, xs = bs.map (fun b => (b.toNat : Int)) := ⟨_, rfl⟩
    have hl : xs.length = n := by rw [hxs, List.length_map, h.len]
    have hc : ∀ j x, xs[j]? = some x → w.cell? (ad.add j) = some (.int .u8 x) := fun j x hx => by
      have hj : j < n := by rw [← hl]; exact (List.getElem?_eq_some_iff.1 hx).1
      obtain ⟨ad', b, e, Hb, hcell⟩ := h.at_ hj
      injection e with e
      subst e
      rw [hcell]
      rw [hxs, List.getElem?_map, Hb.out] at hx
      simp at hx
      rw [hx]
    have := Lib.run_loadBytesX (P := Try.prog) w xs ad .empty hc
    rw [hl] at this
    show (Extern.Bytes.loadBytes ad n .empty).run Try.prog w = _
    rw [this, hxs]
    have e2 : Lib.bytesOf (bs.map (fun b => (b.toNat : Int))) = bs := by
      unfold Lib.bytesOf
      rw [List.map_map]
      exact (List.map_congr_left (fun b _ => by simp)).trans (List.map_id' bs)
    rw [e2]
    simp
theorem run_compare_slices {w : World} {S S' : Nat → Prop} {A A' : Option Addr} {n c n' c' : Nat} {bs bs' : List UInt8} (h : Bs w S A n c bs) (h' : Bs w S' A' n' c' bs') :
    (Extern.BytealgCompare.compare #[.slice A n c, .slice A' n' c']).run Try.prog w = .ok (.int .i64 (Lib.compareBytes bs bs')) w := by
  change Sem.run Try.prog (do pure (goInt (Extern.BytealgCompare.cmp (← Extern.Bytes.bytesOf (.slice A n c)) (← Extern.Bytes.bytesOf (.slice A' n' c'))))) w = _
  simp only [Sem.run_bind, Sem.run_pure, Result.andThen, loaded h, loaded h']
  rw [Lib.cmp_eq]
  rfl
theorem bcompare_any {w : World} {S S' : Nat → Prop} {A A' : Option Addr} {n c n' c' : Nat} {bs bs' : List UInt8} (h : Bs w S A n c bs) (h' : Bs w S' A' n' c' bs') :
    Calls Try.prog 36 #[.slice A n c, .slice A' n' c'] w fun e w' => e = .returned (.int .i64 (Lib.compareBytes bs bs')) ∧ w' = w := by
  have hr := run_compare_slices h h'
  go_enter Try.func36, Try.ntmps36
  go_wp2
  rw [run_callFunc_extern Try.func46 (by kernel_rfl) (by kernel_rfl) (by kernel_rfl) (e := Extern.BytealgCompare.compare) (by kernel_rfl), hr]
  simp only [Result.andThen]
  rw [Oper.upon_value]
  go_wp2
  go_ret
  exact ⟨rfl, rfl⟩
/-- Does one list of bytes stand ahead of another, of as many? -/
def lessL : List UInt8 → List UInt8 → Bool
  | x :: xs, y :: ys => if x = y then lessL xs ys else decide (x < y)
  | _, _ => false
theorem compare_less : ∀ (a b : List UInt8), a.length = b.length → Lib.compareBytes a b = if lessL b a = true then 1 else if lessL a b = true then -1 else 0
  | [], [], _ => rfl
  | x :: xs, y :: ys, h => by
    have ih := compare_less xs ys (by simpa using h)
    unfold Lib.compareBytes lessL
    by_cases e : x = y
    · subst e
      rw [if_neg (UInt8.lt_irrefl x), if_neg (UInt8.lt_irrefl x), if_pos rfl, if_pos rfl]
      exact ih
    · have e' : ¬ y = x := fun h => e h.symm
      by_cases hl : x < y
      · have hg : ¬ y < x := fun h => UInt8.lt_irrefl x (UInt8.lt_trans hl h)
        simp [hl, hg, e, e']
      · have hg : y < x := by
          rcases UInt8.lt_or_lt_of_ne e with h | h
          · exact absurd h hl
          · exact h
        simp [hl, hg, e']
theorem nc_bs {w : World} {g t : Nat} {nm : List UInt8} (h : Blk w g t (NC nm)) (hn : nm.length = 32) : Bs w AnyB (some ⟨g, 0, none⟩) 32 32 nm := by
  refine ⟨hn, Nat.le_refl _, by rw [u8s_length, hn], fun _ => ⟨_, rfl, trivial, fun j u hu => ?_⟩⟩
  rw [add_plain, h.cell, ← hu]
  simp [NC]
theorem Bs.drewN {w : World} {S : Nat → Prop} {A : Option Addr} {n c : Nat} {bs : List UInt8} (h : Bs w S A n c bs) (k : Nat) : Bs (w.drewN k) S A n c bs := ⟨h.len, h.cap, h.rd⟩
set_option maxRecDepth 100000 in
theorem compare_any (w : World) (a b : List UInt8) (ha : a.length = 32) (hb : b.length = 32) : Calls Try.prog 23 #[.agg (NC a), .agg (NC b)] w fun e w' => e = .returned (.int .i64 (Lib.compareBytes a b)) ∧ Below w.heap.size w w' := by
  have h1 := Blk.alloc (Blk.new w 30 (NC a)) (.cells (NC b) 30)
  have h2 : Blk ((w.alloc (.cells (NC a) 30)).alloc (.cells (NC b) 30)) (w.heap.size + 1) 30 (NC b) := blk_new (by simp)
  have H1 := Lib.hid (nc_bs h1 ha)
  have H2 := Lib.hid (nc_bs h2 hb)
  have HW := Lib.hid (show Below w.heap.size w ((w.alloc (.cells (NC a) 30)).alloc (.cells (NC b) 30)) from ((Below.refl w.heap.size w).alloc (Nat.le_refl _) _).alloc (by simp) _)
  clear h1 h2 ha hb
  have hsl : ∀ (g : Nat) (W : World), (Instr.sliceAt 30 (.pointer (some ⟨g, 0, none⟩)) none none none).run Try.prog W = .ok (.slice (some ⟨g, 0, none⟩) 32 32) W := fun g W => by kernel_rfl
  go_enter Try.func23, Try.ntmps23
  go_wp2_with fail
  obtain ⟨W0, hW0⟩ : ∃ W0, W0 = (w.alloc (.cells (NC a) 30)).alloc (.cells (NC b) 30) := ⟨_, rfl⟩
  rw [← hW0] at H1 H2 HW
  rw [← hW0]
  clear hW0
  go_quiet ((go_at_call 36; exact Calls.quiet_of_same (bcompare_any (H1.out.drewN _) (H2.out.drewN _))))
  go_wp2_with fail
  go_ret
  exact ⟨rfl, below_drewN HW.out _⟩
theorem less_drop (a b : List UInt8) (i : Nat) (x y : UInt8) (hx : a[i]? = some x) (hy : b[i]? = some y) : lessL (a.drop i) (b.drop i) = if x = y then lessL (a.drop (i + 1)) (b.drop (i + 1)) else decide (x < y) := by
  have e1 : a.drop i = x :: a.drop (i + 1) := by rw [List.drop_eq_getElem_cons (List.getElem?_eq_some_iff.1 hx).1, (List.getElem?_eq_some_iff.1 hx).2]
  have e2 : b.drop i = y :: b.drop (i + 1) := by rw [List.drop_eq_getElem_cons (List.getElem?_eq_some_iff.1 hy).1, (List.getElem?_eq_some_iff.1 hy).2]
  rw [e1, e2]
  rfl
set_option maxRecDepth 100000 in
theorem less_any (w : World) (a b : List UInt8) (ha : a.length = 32) (hb : b.length = 32) : Calls Try.prog 21 #[.agg (NC a), .agg (NC b)] w fun e w' => e = .returned (.bool (lessL a b)) ∧ Below w.heap.size w w' := by
  have h1 := Blk.alloc (Blk.new w 30 (NC a)) (.cells (NC b) 30)
  have h2 : Blk ((w.alloc (.cells (NC a) 30)).alloc (.cells (NC b) 30)) (w.heap.size + 1) 30 (NC b) := blk_new (by simp)
  have H1 := Lib.hid h1
  have H2 := Lib.hid h2
  have HA := Lib.hid ha
  have HB := Lib.hid hb
  have HW := Lib.hid (show Below w.heap.size w ((w.alloc (.cells (NC a) 30)).alloc (.cells (NC b) 30)) from ((Below.refl w.heap.size w).alloc (Nat.le_refl _) _).alloc (by simp) _)
  clear h1 h2 ha hb
  go_enter Try.func21, Try.ntmps21
  go_wp2_with fail
  obtain ⟨W0, hW0⟩ : ∃ W0, W0 = (w.alloc (.cells (NC a) 30)).alloc (.cells (NC b) 30) := ⟨_, rfl⟩
  rw [← hW0] at H1 H2 HW
  rw [← hW0]
  clear hW0
  go_loopw [5] (fun v5 wr => ∃ i : Nat, i ≤ 32 ∧ v5 = .int .i64 (i : Int) ∧ Hid (lessL a b = lessL (a.drop i) (b.drop i)) ∧ Hid (Blk wr w.heap.size 30 (NC a)) ∧ Hid (Blk wr (w.heap.size + 1) 30 (NC b)) ∧ Hid (Below w.heap.size w wr)) (fun v5 _ => 32 - (intOf v5).toNat)
  case atStart => exact ⟨0, by omega, rfl, Lib.hid rfl, H1, H2, HW⟩
  case round =>
    clear H1 H2 HW
    obtain ⟨i, hi, rfl, HL, H1, H2, HW⟩ := hrel
    by_cases hlt : i < 32
    · have hlt' : (i : Int) < 32 := by omega
      obtain ⟨x, hx⟩ : ∃ x, a[i]? = some x := ⟨_, List.getElem?_eq_getElem (by rw [HA.out]; exact hlt)⟩
      obtain ⟨y, hy⟩ : ∃ y, b[i]? = some y := ⟨_, List.getElem?_eq_getElem (by rw [HB.out]; exact hlt)⟩
      have c1 : wr.cell? ⟨w.heap.size, i, none⟩ = some (.int .u8 (x.toNat : Int)) := by rw [H1.out.cell]; simp [NC, u8s, u8v, hx]
      have c2 : wr.cell? ⟨w.heap.size + 1, i, none⟩ = some (.int .u8 (y.toNat : Int)) := by rw [H2.out.cell]; simp [NC, u8s, u8v, hy]
      have hd := less_drop a b i x y hx hy
      clear hx hy
      by_cases e : x = y
      · subst e
        rw [if_pos rfl] at hd
        have HD := Lib.hid hd
        clear hd
        go_wp2_with fail
        go_quiet (fail)
        go_wp2_with fail
        go_roundw
        case rel => exact ⟨i + 1, by omega, by go_num, Lib.hid (by rw [HL.out, HD.out]), Lib.hid (H1.out.drewN _), Lib.hid (H2.out.drewN _), Lib.hid (below_drewN HW.out _)⟩
        case measure => simp [intOf]; omega
      · rw [if_neg e] at hd
        have ht := u8_ne e
        have hlt2 : decide (x.toNat < y.toNat) = decide (x < y) := rfl
        have HD := Lib.hid (show lessL a b = decide (x.toNat < y.toNat) by rw [HL.out, hd, hlt2])
        clear hd e hlt2
        go_wp2_with fail
        go_quiet (fail)
        go_wp2_with fail
        obtain ⟨W2, hW2⟩ : ∃ W2, W2 = wr.drewN nq := ⟨_, rfl⟩
        rw [← hW2]
        have k1 : W2.cell? ⟨w.heap.size, i, none⟩ = some (.int .u8 (x.toNat : Int)) := by rw [hW2]; exact c1
        have k2 : W2.cell? ⟨w.heap.size + 1, i, none⟩ = some (.int .u8 (y.toNat : Int)) := by rw [hW2]; exact c2
        have HW2 := Lib.hid (show Below w.heap.size w W2 by rw [hW2]; exact below_drewN HW.out nq)
        clear hW2 c1 c2
        go_quiet (fail)
        go_wp2_with fail
        go_ret
        exact ⟨by rw [HD.out]; simp, below_drewN HW2.out _⟩
    · obtain rfl : i = 32 := by omega
      have HF : Hid (lessL a b = false) := Lib.hid (by
        rw [HL.out, List.drop_eq_nil_of_le (by rw [HA.out]; omega), List.drop_eq_nil_of_le (by rw [HB.out]; omega)]
        rfl)
      go_wp2_with fail
      go_ret
      exact ⟨by rw [HF.out]; rfl, HW.out⟩
end Go.Proofs.Ytepcbnkhfiphdaa
