/- The walk of the reference's Sum (sha). Conditions: each theorem's premises. -/
import Derived.Test.YtepcbnkhfiphdaaSha8
namespace Go.Proofs.Ytepcbnkhfiphdaa
open Go.RowKit
/-- 32 bytes as cells. -/
def UB (f : Nat → UInt8) : Array Value := ((List.range 32).map fun i => .int .u8 ((f i).toNat : Int)).toArray
theorem UB.size (f : Nat → UInt8) : (UB f).size = 32 := by simp [UB]
theorem UB.at_ {f : Nat → UInt8} {i : Nat} (h : i < 32) : (UB f)[i]? = some (.int .u8 ((f i).toNat : Int)) := by simp [UB, List.getElem?_range h]
theorem UB.congr {f f' : Nat → UInt8} (h : ∀ i, i < 32 → f i = f' i) : UB f = UB f' := by
  unfold UB
  congr 1
  apply List.map_congr_left
  intro i hi
  rw [h i (List.mem_range.1 hi)]
theorem UB.set (f : Nat → UInt8) (k : Nat) (v : UInt8) : (UB f).setIfInBounds k (.int .u8 (v.toNat : Int)) = UB (fun j => if j = k then v else f j) := by
  apply Array.ext_getElem?
  intro i
  rw [Array.getElem?_setIfInBounds]
  rcases Nat.lt_or_ge i 32 with hi | hi
  · rw [UB.at_ hi]
    by_cases e : k = i
    · subst e
      rw [if_pos rfl, if_pos (by rw [UB.size]; exact hi), UB.at_ hi, if_pos rfl]
    · rw [if_neg e, UB.at_ hi, if_neg (fun h => e h.symm)]
  · have h1 : (UB f)[i]? = none := Array.getElem?_eq_none (by rw [UB.size]; exact hi)
    have h2 : (UB fun j => if j = k then v else f j)[i]? = none := Array.getElem?_eq_none (by rw [UB.size]; exact hi)
    rw [h1, h2]
    by_cases e : k = i
    · rw [if_pos e, if_neg (by rw [UB.size]; omega)]
    · rw [if_neg e]
theorem UB.one (f : Nat → UInt8) : (UB f).all (·.oneCell') = true := by
  rw [Array.all_eq_true_iff_forall_mem]
  intro v hv
  simp only [UB, List.mem_toArray, List.mem_map] at hv
  obtain ⟨b, _, rfl⟩ := hv
  rfl
/-- A name's cells. -/
def NC (nm : List UInt8) : Array Value := (u8s nm).toArray
theorem UB_NC (nm : List UInt8) (h : nm.length = 32) : UB (fun i => nm.getD i 0) = NC nm := by
  apply Array.ext_getElem?
  intro i
  rcases Nat.lt_or_ge i 32 with hi | hi
  · rw [UB.at_ hi]
    simp [NC, u8s, u8v, List.getElem?_eq_getElem (show i < nm.length by omega), List.getD_eq_getElem?_getD]
  · rw [Array.getElem?_eq_none (by rw [UB.size]; exact hi), Array.getElem?_eq_none (by simp [NC, u8s]; omega)]
theorem zero30 : UB (fun _ => 0) = #[.int .u8 0, .int .u8 0, .int .u8 0, .int .u8 0, .int .u8 0, .int .u8 0, .int .u8 0, .int .u8 0, .int .u8 0, .int .u8 0, .int .u8 0, .int .u8 0, .int .u8 0, .int .u8 0, .int .u8 0, .int .u8 0, .int .u8 0, .int .u8 0, .int .u8 0, .int .u8 0, .int .u8 0, .int .u8 0, .int .u8 0, .int .u8 0, .int .u8 0, .int .u8 0, .int .u8 0, .int .u8 0, .int .u8 0, .int .u8 0, .int .u8 0, .int .u8 0] := by kernel_rfl
theorem size30 : (Try.prog.info? 30).map (·.size) = some 32 := by kernel_rfl
section
variable {ops : Array Oper} {rest : List Oper} {o : Oper} {a : Act} {Q : Exit → Act → World → Prop} {w : World}
theorem wl_ld30 (hw : Region.wanted o (yielded ops a.tmps) = true) (x : Operand) (ho : o.op = .load 30 x) {g t : Nat} (hx : a.eval x = .pointer (some ⟨g, 0, none⟩)) {f : Nat → UInt8} (h : Blk w g t (UB f))
    (hk : wpList Try.prog ops Q rest (a.put o.dst (.agg (UB f))) w) : wpList Try.prog ops Q (o :: rest) a w :=
  BigFrame.wpList_want hw fun _ hK => wp_load_row 30 x ho g hx t _ (0, 0) _ h Try.underlying30 rfl (by rw [size30, UB.size]) (hK _ _ hk)
theorem wl_st30 (hw : Region.wanted o (yielded ops a.tmps) = true) (x y : Operand) (ho : o.op = .store 30 x y) {g t : Nat} (hx : a.eval x = .pointer (some ⟨g, 0, none⟩)) {f : Nat → UInt8} (hy : a.eval y = .agg (UB f)) {old : Array Value} (h : Blk w g t old) (hold : old.size = 32)
    (hk : ∀ w', Blk w' g t (UB f) → w.grownBy w' (some g) → wpList Try.prog ops Q rest (a.put o.dst undef) w') : wpList Try.prog ops Q (o :: rest) a w := by
  have hi : (Try.prog.info? 30).map (·.size) = some (UB f).size := by rw [size30, UB.size]
  exact BigFrame.wpList_want hw fun _ hK => wp_store_row 30 x y ho g _ hx hy t old h hi (by rw [hold, UB.size]) (UB.one f) (hK _ _ (hk _ (setRow_heap w g old _ t (0, 0) h) ⟨rfl, rfl, rfl, by simp, fun i _ hne => setRow_other w g i _ (fun e => hne (by rw [e]))⟩))
end
/-- A hash's byte, of a state. -/
def outF (t : Sha.St) (i : Nat) : UInt8 := (t.list.getD (i / 4) 0 / 2 ^ (24 - i % 4 * 8)).toUInt8
theorem outF_B (t : Sha.St) (i : Nat) (h : i < 32) : outF t i = (Sha.outB t.list).getD i 0 := by
  unfold Sha.outB outF
  simp [List.getD_eq_getElem?_getD, List.getElem?_range h]
theorem outB_len (l : List Nat) : (Sha.outB l).length = 32 := by simp [Sha.outB]
theorem UB_out (t : Sha.St) : UB (outF t) = NC (Sha.outB t.list) := by
  rw [← UB_NC _ (outB_len _)]
  exact UB.congr (outF_B t)
/-- .. behind k bytes. -/
def outK (t : Sha.St) (k i : Nat) : UInt8 := if i < k then outF t i else 0
theorem outK_succ (t : Sha.St) (k i : Nat) : (if i = k then outF t k else outK t k i) = outK t (k + 1) i := by
  unfold outK
  by_cases e : i = k
  · subst e
    rw [if_pos rfl, if_pos (by omega)]
  · rw [if_neg e]
    by_cases h : i < k
    · rw [if_pos h, if_pos (by omega)]
    · rw [if_neg h, if_neg (by omega)]
theorem pad_whole (bs : List UInt8) : (bs ++ Sha.tail bs.length).length = 64 * ((bs.length + 9 + Sha.zs bs.length) / 64) := by
  rw [List.length_append, Sha.tail_len, Sha.whole]
  omega
/-- What stands in the reference's Sum. -/
structure Rs (w wr : World) (bk b : Nat) (A : Option Addr) (L c : Nat) (P : List UInt8) (t : Sha.St) : Prop where
  wd : Wd wr b t
  kk : Blk wr bk 53 (UA 64 (fun i => Sha.K.getD i 0))
  bs : Bs wr AnyB A L c P
  out : Blk wr w.heap.size 30 (UB (fun _ => 0))
  bel : Below w.heap.size w wr
theorem Rs.after {w wr w' : World} {bk b b' : Nat} {A : Option Addr} {L c : Nat} {P : List UInt8} {t t' : Sha.St} (h : Rs w wr bk b A L c P t) (h' : Wd w' b' t') (hb : Below wr.heap.size wr w') : Rs w w' bk b' A L c P t' :=
  ⟨h', h.kk.after hb, h.bs.after hb, h.out.after hb, h.bel.trans (hb.mono h.bel.size)⟩
theorem sh_byte (x e : Nat) : (x : Int) / 2 ^ e % 256 = (((x / 2 ^ e).toUInt8.toNat : Nat) : Int) := by
  have h : (x : Int) / 2 ^ e = ((x / 2 ^ e : Nat) : Int) := by simp
  have : (x / 2 ^ e).toUInt8.toNat = x / 2 ^ e % 256 := by simp [Nat.toUInt8]
  rw [h, this]
  omega
/-- .. as the hash is laid out. -/
structure Ro (w wr : World) (b g : Nat) (t : Sha.St) (k : Nat) : Prop where
  wd : Wd wr b t
  new : Blk wr g 30 (UB (outK t k))
  out : Blk wr w.heap.size 30 (UB (fun _ => 0))
  bel : Below w.heap.size w wr
  n0 : b < g
  n1 : w.heap.size < g
theorem Ro.set {w wr : World} {b g : Nat} {t : Sha.St} {k : Nat} (h : Ro w wr b g t k) (v : UInt8) (hv : v = outF t k) : Ro w (wr.setCell ⟨g, k, none⟩ (.int .u8 (v.toNat : Int))) b g t (k + 1) := by
  subst hv
  have a0 := h.n0
  have a1 := h.n1
  have hg : wr.grownBy (wr.setCell ⟨g, k, none⟩ (.int .u8 ((outF t k).toNat : Int))) (some g) := only_setCell (p := ⟨g, k, none⟩) (World.grownBy.refl _ _) (.inl rfl) _
  exact ⟨h.wd.grown hg (fun e => by injection e with e; omega), by rw [← UB.congr (fun i _ => outK_succ t k i), ← UB.set]; exact h.new.set_ _ _, h.out.grown hg (fun e => by injection e with e; omega), h.bel.trans (only_below hg (by omega) h.bel.size), a0, a1⟩
set_option maxRecDepth 100000 in
set_option maxHeartbeats 1000000 in
theorem rsum_any (w : World) (S : Nat → Prop) (A : Option Addr) (c : Nat) (bs : List UInt8) (hx : Bs w S A bs.length c bs) (hn : bs.length ≤ 1000000) :
    Calls Try.prog 10 #[.slice A bs.length c] w fun e w' => e = .returned (.agg (NC (Sha.sum bs))) ∧ Below w.heap.size w w' := by
  have HX := Lib.hid hx
  clear hx
  go_enter Try.func10, Try.ntmps10
  go_wp2_with fail
  obtain ⟨W0, hW0⟩ : ∃ W0, W0 = w.alloc (.cells (UB (fun _ => 0)) 30) := ⟨_, rfl⟩
  rw [zero30] at hW0
  rw [← hW0]
  have HB0 := Lib.hid (show Blk W0 w.heap.size 30 (UB (fun _ => 0)) by rw [hW0, zero30]; exact Blk.new _ _ _)
  have HW0 := Lib.hid (show Below w.heap.size w W0 by rw [hW0]; exact (Below.refl _ _).alloc (Nat.le_refl _) _)
  clear hW0
  refine (first_any W0).mono ?_
  rintro e w1 ⟨rfl, hh, hb1⟩
  have HH1 := Lib.hid hh
  have HB1 := Lib.hid hb1
  clear hh hb1
  go_wp2_with fail
  refine (rounds_any w1).mono ?_
  rintro e w2 ⟨rfl, hk, hb2⟩
  have HK2 := Lib.hid hk
  have HB2 := Lib.hid hb2
  clear hk hb2
  have HW2 := Lib.hid ((HW0.out.trans (HB1.out.mono HW0.out.size)).trans (HB2.out.mono (Nat.le_trans HW0.out.size HB1.out.size)))
  have HX2 := Lib.hid (HX.out.after HW2.out)
  go_wp2_with fail
  refine (padded_any w2 S A c bs HX2.out hn).mono ?_
  rintro e w3 ⟨v, rfl, hO⟩
  obtain ⟨A5, c5, hv⟩ := hO.shape
  subst hv
  go_wp2_with fail
  have hb3 := hO.2
  have HR := Lib.hid (show Rs w w3 w1.heap.size W0.heap.size A5 (bs ++ Sha.tail bs.length).length c5 (bs ++ Sha.tail bs.length) Sha.H0 from
    ⟨(HH1.out.after HB2.out).after hb3, HK2.out.after hb3, hO.bs.any, ((HB0.out.after HB1.out).after HB2.out).after hb3, HW2.out.trans (hb3.mono HW2.out.size)⟩)
  have hPL := pad_whole bs
  have hz := zs_lt bs.length
  have hsum : Hid (Sha.sum bs = Sha.outB (Sha.comp ((bs.length + 9 + Sha.zs bs.length) / 64) Sha.H0 (bs ++ Sha.tail bs.length)).list) := Lib.hid rfl
  obtain ⟨N, hN⟩ : ∃ N, N = (bs.length + 9 + Sha.zs bs.length) / 64 := ⟨_, rfl⟩
  rw [← hN] at hPL hsum
  rw [← List.length_append]
  obtain ⟨P, hP⟩ : ∃ P, P = bs ++ Sha.tail bs.length := ⟨_, rfl⟩
  rw [← hP] at hPL HR hsum
  rw [← hP]
  obtain ⟨L, hL⟩ : ∃ L, L = P.length := ⟨_, rfl⟩
  rw [← hL] at hPL HR
  rw [← hL]
  have hLb : L ≤ bs.length + 100 := by omega
  have HPL := Lib.hid hPL
  have HLN := Lib.hid hL
  clear hPL hN hP hL hO hb3 HH1 HB1 HK2 HB2 HX2 HX HB0 HW0 HW2
  obtain ⟨bk, hbk⟩ : ∃ bk, bk = w1.heap.size := ⟨_, rfl⟩
  rw [← hbk] at HR
  rw [← hbk]
  obtain ⟨b0, hb0⟩ : ∃ b0, b0 = W0.heap.size := ⟨_, rfl⟩
  rw [← hb0] at HR
  rw [← hb0]
  clear hbk hb0
  go_loopw [3, 6] (fun v3 v6 wr => ∃ k i b cc : Nat, i = 64 * k ∧ i ≤ L ∧ v6 = .int .i64 (i : Int) ∧ v3 = .slice (some ⟨b, 0, none⟩) 8 cc ∧ Hid (Rs w wr bk b A5 L c5 P (Sha.comp k Sha.H0 P))) (fun _ v6 _ => L - (intOf v6).toNat)
  case atStart => exact ⟨0, 0, b0, 8, rfl, by omega, rfl, rfl, HR⟩
  case round =>
    obtain ⟨k, i, b, cc, hi, hiL, rfl, rfl, HR⟩ := hrel
    by_cases hlt : i < L
    · have h64 : i + 64 ≤ L := by have := HPL.out; omega
      have hlt' : (i : Int) < (L : Int) := by omega
      obtain ⟨A6, c6, hcut, hcb⟩ := HR.out.bs.cut (i : Int) ((i : Int) + 64) i 64 rfl rfl h64
      have HI := Lib.hid hi
      have HC := Lib.hid hcb
      clear hcb hi
      go_wp2_with fail
      refine (block_any wr b bk cc 64 (Sha.comp k Sha.H0 P) HR.out.wd HR.out.kk _ A6 c6 _ HC.out).mono ?_
      rintro e w' ⟨b', cc', rfl, hcc, hbb, hW, hB⟩
      have HR2 := Lib.hid (HR.out.after hW hB)
      clear hW hB hcc hbb
      go_wp2_with fail
      go_roundw
      case rel => exact ⟨k + 1, i + 64, b', cc', by have := HI.out; omega, h64, by go_num, rfl, Lib.hid (by rw [Sha.comp_snoc, ← HI.out]; exact HR2.out)⟩
      case measure => simp [intOf]; omega
    · have hkN : k = N := by have := HPL.out; omega
      obtain rfl : i = L := by omega
      rw [hkN] at HR
      obtain ⟨t, ht⟩ : ∃ t, t = Sha.comp N Sha.H0 P := ⟨_, rfl⟩
      rw [← ht] at HR hsum
      clear hlt ht hi hkN
      go_wp2_with fail
      rw [← zero30]
      obtain ⟨W4, hW4⟩ : ∃ W4, W4 = wr.alloc (.cells (UB (fun _ => 0)) 30) := ⟨_, rfl⟩
      rw [← hW4]
      obtain ⟨g7, hg7⟩ : ∃ g7, g7 = wr.heap.size := ⟨_, rfl⟩
      rw [← hg7]
      have HO := Lib.hid (show Ro w W4 b g7 t 0 by
        rw [hW4, hg7]
        exact ⟨HR.out.wd.after ((Below.refl _ _).alloc (Nat.le_refl _) _), Blk.new _ _ _, HR.out.out.after ((Below.refl _ _).alloc (Nat.le_refl _) _), HR.out.bel.trans ((Below.refl _ _).alloc HR.out.bel.size _), by have := HR.out.wd.lt; omega, HR.out.out.lt⟩)
      clear hW4 hg7 HR
      go_loopw [8] (fun v8 wr => ∃ k : Nat, k ≤ 32 ∧ v8 = .int .i64 (k : Int) ∧ Hid (Ro w wr b g7 t k)) (fun v8 _ => 32 - (intOf v8).toNat)
      case atStart => exact ⟨0, by omega, rfl, HO⟩
      case round =>
        obtain ⟨k, hk, rfl, HO⟩ := hrel
        by_cases hlt : k < 32
        · have hlt' : (k : Int) < 32 := by omega
          have hk4 : k / 4 < 8 := by omega
          obtain ⟨x, hx⟩ : ∃ x, x = t.list.getD (k / 4) 0 := ⟨_, rfl⟩
          have c0 : wr.cell? ⟨b, k / 4, none⟩ = some (.int .u32 (x : Int)) := by rw [HO.out.wd.cell _ hk4, hx]
          have c7 : wr.cell? ⟨g7, k, none⟩ = some (.int .u8 ((outK t k k).toNat : Int)) := by rw [HO.out.new.cell, UB.at_ hlt]
          have f7 := HO.out.new.frozen k
          have HX := Lib.hid hx
          clear hx
          go_wp2_with fail
          rw [sh_byte x (24 - k % 4 * 8)]
          have HO2 := Lib.hid (HO.out.set (x / 2 ^ (24 - k % 4 * 8)).toUInt8 (by rw [HX.out]; rfl))
          exact ⟨⟨k + 1, by omega, by go_num, HO2⟩, by simp [intOf]; omega⟩
        · obtain rfl : k = 32 := by omega
          have HN := Lib.hid (show Blk wr g7 30 (UB (outF t)) by
            have h := HO.out.new
            rw [UB.congr (f' := outF t) (fun i hi => by unfold outK; rw [if_pos hi])] at h
            exact h)
          have HU := Lib.hid HO.out.out
          have HBL := Lib.hid HO.out.bel
          have n1 := HO.out.n1
          clear HO hlt
          go_wp2_with (first
            | (refine wl_ld30 rfl (.tmp 7) rfl rfl HN.out ?_)
            | (refine wl_st30 rfl (.tmp 2) (.tmp 45) rfl rfl rfl HU.out (UB.size _) ?_; intro w5 hb5 hg5))
          refine bodyPost_ret (results_cell_row rfl _ _ w.heap.size 30 (UB (outF t)) (0, 0) _ rfl hb5 Try.underlying30 rfl (by rw [size30, UB.size])) rfl ⟨by rw [hsum.out, UB_out], ?_⟩
          exact HBL.out.trans (only_below hg5 (Nat.le_refl _) HBL.out.size)
end Go.Proofs.Ytepcbnkhfiphdaa
