/- The walk of spread (sha). Conditions: each theorem's premises. -/
import Derived.Test.YtepcbnkhfiphdaaSha4
namespace Go.Proofs.Ytepcbnkhfiphdaa
open Go.RowKit
/-- n words as cells. -/
def UA (n : Nat) (f : Nat → Nat) : Array Value := ((List.range n).map fun i => .int .u32 (f i : Int)).toArray
theorem UA.size (n : Nat) (f : Nat → Nat) : (UA n f).size = n := by simp [UA]
theorem UA.at_ {n : Nat} {f : Nat → Nat} {i : Nat} (h : i < n) : (UA n f)[i]? = some (.int .u32 (f i : Int)) := by simp [UA, List.getElem?_range h]
theorem UA.congr {n : Nat} {f f' : Nat → Nat} (h : ∀ i, i < n → f i = f' i) : UA n f = UA n f' := by
  unfold UA
  congr 1
  apply List.map_congr_left
  intro i hi
  rw [h i (List.mem_range.1 hi)]
theorem UA.set (n : Nat) (f : Nat → Nat) (k v : Nat) : (UA n f).setIfInBounds k (.int .u32 (v : Int)) = UA n (fun j => if j = k then v else f j) := by
  apply Array.ext_getElem?
  intro i
  rw [Array.getElem?_setIfInBounds]
  rcases Nat.lt_or_ge i n with hi | hi
  · rw [UA.at_ hi]
    by_cases e : k = i
    · subst e
      rw [if_pos rfl, if_pos (by rw [UA.size]; exact hi), UA.at_ hi, if_pos rfl]
    · rw [if_neg e, UA.at_ hi, if_neg (fun h => e h.symm)]
  · have h1 : (UA n f)[i]? = none := Array.getElem?_eq_none (by rw [UA.size]; exact hi)
    have h2 : (UA n fun j => if j = k then v else f j)[i]? = none := Array.getElem?_eq_none (by rw [UA.size]; exact hi)
    rw [h1, h2]
    by_cases e : k = i
    · rw [if_pos e, if_neg (by rw [UA.size]; omega)]
    · rw [if_neg e]
theorem UA.one (n : Nat) (f : Nat → Nat) : (UA n f).all (·.oneCell') = true := by
  rw [Array.all_eq_true_iff_forall_mem]
  intro v hv
  simp only [UA, List.mem_toArray, List.mem_map] at hv
  obtain ⟨b, _, rfl⟩ := hv
  rfl
theorem size63 : (Try.prog.info? 63).map (·.size) = some 64 := by kernel_rfl
theorem zero63 : UA 64 (fun _ => 0) = #[.int .u32 0, .int .u32 0, .int .u32 0, .int .u32 0, .int .u32 0, .int .u32 0, .int .u32 0, .int .u32 0, .int .u32 0, .int .u32 0, .int .u32 0, .int .u32 0, .int .u32 0, .int .u32 0, .int .u32 0, .int .u32 0, .int .u32 0, .int .u32 0, .int .u32 0, .int .u32 0, .int .u32 0, .int .u32 0, .int .u32 0, .int .u32 0, .int .u32 0, .int .u32 0, .int .u32 0, .int .u32 0, .int .u32 0, .int .u32 0, .int .u32 0, .int .u32 0, .int .u32 0, .int .u32 0, .int .u32 0, .int .u32 0, .int .u32 0, .int .u32 0, .int .u32 0, .int .u32 0, .int .u32 0, .int .u32 0, .int .u32 0, .int .u32 0, .int .u32 0, .int .u32 0, .int .u32 0, .int .u32 0, .int .u32 0, .int .u32 0, .int .u32 0, .int .u32 0, .int .u32 0, .int .u32 0, .int .u32 0, .int .u32 0, .int .u32 0, .int .u32 0, .int .u32 0, .int .u32 0, .int .u32 0, .int .u32 0, .int .u32 0, .int .u32 0] := by kernel_rfl
section
variable {ops : Array Oper} {rest : List Oper} {o : Oper} {a : Act} {Q : Exit → Act → World → Prop} {w : World}
theorem wl_ld63 (hw : Region.wanted o (yielded ops a.tmps) = true) (x : Operand) (ho : o.op = .load 63 x) {g t : Nat} (hx : a.eval x = .pointer (some ⟨g, 0, none⟩)) {f : Nat → Nat} (h : Blk w g t (UA 64 f))
    (hk : wpList Try.prog ops Q rest (a.put o.dst (.agg (UA 64 f))) w) : wpList Try.prog ops Q (o :: rest) a w :=
  BigFrame.wpList_want hw fun _ hK => wp_load_row 63 x ho g hx t _ (0, 0) _ h Try.underlying63 rfl (by rw [size63, UA.size]) (hK _ _ hk)
theorem wl_st63 (hw : Region.wanted o (yielded ops a.tmps) = true) (x y : Operand) (ho : o.op = .store 63 x y) {g t : Nat} (hx : a.eval x = .pointer (some ⟨g, 0, none⟩)) {f : Nat → Nat} (hy : a.eval y = .agg (UA 64 f)) {old : Array Value} (h : Blk w g t old) (hold : old.size = 64)
    (hk : ∀ w', Blk w' g t (UA 64 f) → w.grownBy w' (some g) → wpList Try.prog ops Q rest (a.put o.dst undef) w') : wpList Try.prog ops Q (o :: rest) a w := by
  have hi : (Try.prog.info? 63).map (·.size) = some (UA 64 f).size := by rw [size63, UA.size]
  exact BigFrame.wpList_want hw fun _ hK => wp_store_row 63 x y ho g _ hx hy t old h hi (by rw [hold, UA.size]) (UA.one 64 f) (hK _ _ (hk _ (setRow_heap w g old _ t (0, 0) h) ⟨rfl, rfl, rfl, by simp, fun i _ hne => setRow_other w g i _ (fun e => hne (by rw [e]))⟩))
end
/-! ### The words of a block -/
def Sha.S (b : List UInt8) (i : Nat) : Nat := (Sha.sched b).getD i 0
/-- What spread's block holds behind k words. -/
def Sha.Sk (b : List UInt8) (k j : Nat) : Nat := if j < k then Sha.S b j else 0
theorem more_get (l : List Nat) (m j : Nat) (d : Nat) (h : j < l.length + m) : (Sha.more (m + d) l).getD j 0 = (Sha.more m l).getD j 0 := by
  induction d with
  | zero => rfl
  | succ d ih =>
    rw [← ih]
    rw [show m + (d + 1) = (m + d) + 1 from rfl, Sha.more]
    rw [List.getD_eq_getElem?_getD, List.getD_eq_getElem?_getD, List.getElem?_append_left (by rw [Sha.more_len]; omega)]
theorem words_get (b : List UInt8) (n j : Nat) (h : j < n) : (Sha.words b n).getD j 0 = Sha.word b j := by
  induction n with
  | zero => omega
  | succ n ih =>
    rw [Sha.words]
    rcases Nat.lt_or_ge j n with hj | hj
    · rw [List.getD_eq_getElem?_getD, List.getElem?_append_left (by rw [Sha.words_len]; exact hj), ← List.getD_eq_getElem?_getD]
      exact ih hj
    · obtain rfl : j = n := by omega
      simp [List.getD_eq_getElem?_getD, Sha.words_len]
theorem more_le (l : List Nat) (n m j : Nat) (hm : m ≤ n) (h : j < l.length + m) : (Sha.more n l).getD j 0 = (Sha.more m l).getD j 0 := by
  obtain ⟨d, rfl⟩ : ∃ d, n = m + d := ⟨n - m, by omega⟩
  exact more_get l m j d h
theorem more_zero (l : List Nat) : Sha.more 0 l = l := rfl
theorem getD_snoc (l : List Nat) (x n : Nat) (h : n = l.length) : (l ++ [x]).getD n 0 = x := by
  subst h
  simp [List.getD_eq_getElem?_getD]
theorem more_succ (l : List Nat) (m : Nat) : Sha.more (m + 1) l = Sha.more m l ++ [Sha.next (Sha.more m l)] := by rw [Sha.more]
theorem more_last (l : List Nat) (m : Nat) : (Sha.more (m + 1) l).getD (l.length + m) 0 = Sha.next (Sha.more m l) := by
  rw [more_succ]
  exact getD_snoc _ _ _ (Sha.more_len m l).symm
def Sha.SS (n : Nat) (b : List UInt8) (i : Nat) : Nat := (Sha.more n (Sha.words b 16)).getD i 0
theorem SS_lo (n : Nat) (b : List UInt8) (j : Nat) (h : j < 16) : Sha.SS n b j = Sha.word b j := by
  unfold Sha.SS
  rw [more_le _ n 0 j (Nat.zero_le _) (by rw [Sha.words_len]; omega), more_zero]
  exact words_get b 16 j h
theorem SS_hi (n : Nat) (b : List UInt8) (m : Nat) (h2 : m < n) : Sha.SS n b (16 + m) = Sha.add (Sha.add (Sha.add (Sha.SS n b m) (Sha.s0 (Sha.SS n b (m + 1)))) (Sha.SS n b (m + 9))) (Sha.s1 (Sha.SS n b (m + 14))) := by
  have hw := Sha.words_len b 16
  obtain ⟨l, hl0⟩ : ∃ l, l = Sha.words b 16 := ⟨_, rfl⟩
  unfold Sha.SS
  rw [← hl0] at hw ⊢
  have hl : (Sha.more m l).length = 16 + m := by rw [Sha.more_len, hw]
  have h3 : (Sha.more n l).getD (16 + m) 0 = Sha.next (Sha.more m l) := by
    rw [more_le l n (m + 1) (16 + m) (by omega) (by omega), ← more_last l m, hw]
  rw [h3, more_le l n m m (by omega) (by omega), more_le l n m (m + 1) (by omega) (by omega), more_le l n m (m + 9) (by omega) (by omega), more_le l n m (m + 14) (by omega) (by omega)]
  unfold Sha.next
  rw [hl, show 16 + m - 16 = m by omega, show 16 + m - 15 = m + 1 by omega, show 16 + m - 7 = m + 9 by omega, show 16 + m - 2 = m + 14 by omega]
theorem S_SS (b : List UInt8) : Sha.S b = Sha.SS 48 b := rfl
/-- A word behind j of its bytes. -/
def Sha.part (cut : List UInt8) (j : Nat) : Nat := (cut.take j).foldl (fun n c => Sha.orr (Sha.sl 8 n) c.toNat) 0
theorem part_zero (cut : List UInt8) : Sha.part cut 0 = 0 := rfl
theorem part_snoc {cut : List UInt8} {j : Nat} {c : UInt8} (h : cut[j]? = some c) : Sha.part cut (j + 1) = Sha.orr (Sha.sl 8 (Sha.part cut j)) c.toNat := by
  unfold Sha.part
  rw [take_snoc h, List.foldl_append]
  rfl
theorem part_all (b : List UInt8) (i : Nat) : Sha.part ((b.drop (4 * i)).take 4) 4 = Sha.word b i := by
  unfold Sha.part Sha.word
  rw [List.take_take, Nat.min_self]
/-- What the block holds: k whole words and j bytes of the next. -/
def Sha.Sp (b : List UInt8) (k j x : Nat) : Nat := if x = k then Sha.part ((b.drop (4 * k)).take 4) j else Sha.Sk b k x
theorem Sp_zero (b : List UInt8) (k x : Nat) : Sha.Sk b k x = Sha.Sp b k 0 x := by
  unfold Sha.Sp Sha.Sk
  by_cases e : x = k
  · rw [if_pos e, if_neg (by omega), part_zero]
  · rw [if_neg e]
theorem Sp_four (b : List UInt8) (k x : Nat) (hk : k < 16) : Sha.Sp b k 4 x = Sha.Sk b (k + 1) x := by
  unfold Sha.Sp Sha.Sk
  by_cases e : x = k
  · subst e
    rw [if_pos rfl, if_pos (by omega), part_all, S_SS, SS_lo _ _ _ hk]
  · rw [if_neg e]
    by_cases h : x < k
    · rw [if_pos h, if_pos (by omega)]
    · rw [if_neg h, if_neg (by omega)]
theorem Sp_succ (b : List UInt8) (k j x v : Nat) (hv : v = Sha.part ((b.drop (4 * k)).take 4) (j + 1)) : (if x = k then v else Sha.Sp b k j x) = Sha.Sp b k (j + 1) x := by
  subst hv
  unfold Sha.Sp
  by_cases e : x = k
  · rw [if_pos e, if_pos e]
  · rw [if_neg e, if_neg e, if_neg e]
theorem Sk_succ (b : List UInt8) (k x : Nat) : (if x = k then Sha.S b k else Sha.Sk b k x) = Sha.Sk b (k + 1) x := by
  unfold Sha.Sk
  by_cases e : x = k
  · subst e
    rw [if_pos rfl, if_pos (by omega)]
  · rw [if_neg e]
    by_cases h : x < k
    · rw [if_pos h, if_pos (by omega)]
    · rw [if_neg h, if_neg (by omega)]
theorem Sp_at (b : List UInt8) (k j : Nat) : Sha.Sp b k j k = Sha.part ((b.drop (4 * k)).take 4) j := by
  unfold Sha.Sp
  rw [if_pos rfl]
set_option maxRecDepth 100000 in
set_option maxHeartbeats 1000000 in
theorem spread_any (w : World) (S : Nat → Prop) (A : Option Addr) (c : Nat) (bs : List UInt8) (hx : Bs w S A 64 c bs) :
    Calls Try.prog 40 #[.slice A 64 c] w fun e w' => e = .returned (.agg (UA 64 (Sha.S bs))) ∧ Below w.heap.size w w' := by
  have HX := Lib.hid hx.old
  clear hx
  go_enter Try.func40, Try.ntmps40
  go_wp2_with fail
  rw [← zero63]
  obtain ⟨W, hW⟩ : ∃ W, W = w.alloc (.cells (UA 64 (fun _ => 0)) 63) := ⟨_, rfl⟩
  rw [← hW]
  have HB0 := Lib.hid (show Blk W w.heap.size 63 (UA 64 (Sha.Sk bs 0)) by rw [hW]; exact Blk.new _ _ _)
  have HBW := Lib.hid (show Below w.heap.size w W by rw [hW]; exact (Below.refl _ _).alloc (Nat.le_refl _) _)
  clear hW
  have rl : ∀ x : Nat, (x : Int) * 256 % 4294967296 = ((Sha.sl 8 x : Nat) : Int) := r_sl8
  have ro : ∀ a b : Nat, bits .or .u32 (a : Int) (b : Int) = ((Sha.orr a b : Nat) : Int) := r_or
  go_loopw [11] (fun v11 wr => ∃ k : Nat, k ≤ 16 ∧ v11 = .int .i64 (k : Int) ∧ Hid (Blk wr w.heap.size 63 (UA 64 (Sha.Sk bs k))) ∧ Hid (Below w.heap.size w wr)) (fun v11 _ => 16 - (intOf v11).toNat)
  case atStart => exact ⟨0, by omega, rfl, HB0, HBW⟩
  case round =>
    obtain ⟨k, hk, rfl, HB, HW⟩ := hrel
    clear HB0 HBW
    by_cases hlt : k < 16
    · have hlt' : (k : Int) < 16 := by omega
      obtain ⟨A2, c2, hcut, hcb⟩ := HX.out.cut (4 * (k : Int)) (4 * (k : Int) + 4) (4 * k) 4 (by omega) (by omega) (by omega)
      have HC := Lib.hid hcb
      clear hcb
      go_wp2_with fail
      obtain ⟨wo, hwo⟩ : ∃ wo : World, wo = wr := ⟨_, rfl⟩
      subst hwo
      go_loopw [22] (fun v22 wr => ∃ j : Nat, j ≤ 4 ∧ v22 = .int .i64 (j : Int) ∧ Hid (Blk wr w.heap.size 63 (UA 64 (Sha.Sp bs k j))) ∧ Hid (Below w.heap.size w wr)) (fun v22 _ => 4 - (intOf v22).toNat)
      case atStart => exact ⟨0, by omega, rfl, Lib.hid (by rw [← UA.congr (fun i _ => Sp_zero bs k i)]; exact HB.out), HW⟩
      case round =>
        obtain ⟨j, hj, rfl, HB2, HW2⟩ := hrel
        by_cases hj4 : j < 4
        · have hj4' : (j : Int) < 4 := by omega
          obtain ⟨ad, b, rfl, Hb, hc⟩ := (HC.out.below HW2.out).at_ hj4
          obtain ⟨x, hx⟩ : ∃ x, x = Sha.part ((bs.drop (4 * k)).take 4) j := ⟨_, rfl⟩
          have c0 : wr.cell? ⟨w.heap.size, k, none⟩ = some (.int .u32 (x : Int)) := by rw [HB2.out.cell, UA.at_ (by omega), Sp_at, hx]
          have f0 := HB2.out.frozen k
          have HX2 : Hid (Sha.orr (Sha.sl 8 x) b.toNat = Sha.part ((bs.drop (4 * k)).take 4) (j + 1)) := Lib.hid (by rw [part_snoc Hb.out, hx])
          clear hx
          have hbb := u8_lt b
          have hbm : (b.toNat : Int) % 4294967296 = (b.toNat : Int) := by omega
          go_wp2_with fail
          go_roundw
          case rel => exact ⟨j + 1, by omega, by go_num, Lib.hid (by rw [← UA.congr (fun i _ => Sp_succ bs k j i _ HX2.out), ← UA.set]; exact HB2.out.set_ _ _), Lib.hid (HW2.out.setCell (p := ⟨w.heap.size, k, none⟩) (Nat.le_refl _) _)⟩
          case measure => simp [intOf]; omega
        · obtain rfl : j = 4 := by omega
          clear hj4
          go_wp2_with fail
          go_roundw
          case rel => exact ⟨k + 1, by omega, by go_num, Lib.hid (by rw [← UA.congr (fun i _ => Sp_four bs k i hlt)]; exact HB2.out), HW2⟩
          case measure => simp [intOf]; omega
    · obtain rfl : k = 16 := by omega
      clear hlt
      rw [show ((16 : Nat) : Int) = 16 from rfl]
      go_wp2_with fail
      go_loopw [6] (fun v6 wr => ∃ k : Nat, 16 ≤ k ∧ k ≤ 64 ∧ v6 = .int .i64 (k : Int) ∧ Hid (Blk wr w.heap.size 63 (UA 64 (Sha.Sk bs k))) ∧ Hid (Below w.heap.size w wr)) (fun v6 _ => 64 - (intOf v6).toNat)
      case atStart => exact ⟨16, by omega, by omega, rfl, HB, HW⟩
      case round =>
        obtain ⟨k, hk1, hk2, rfl, HB, HW⟩ := hrel
        by_cases hlt : k < 64
        · have hlt' : (k : Int) < 64 := by omega
          obtain ⟨m, hkm⟩ : ∃ m, k = 16 + m := ⟨k - 16, by omega⟩
          have HKM := Lib.hid hkm
          have cell : ∀ i, i < 16 + m → wr.cell? ⟨w.heap.size, i, none⟩ = some (.int .u32 ((Sha.S bs i : Nat) : Int)) := fun i hi => by
            rw [HB.out.cell, UA.at_ (by omega)]
            unfold Sha.Sk
            rw [if_pos (by omega)]
          have q0 := cell m (by omega)
          have q1 := cell (m + 1) (by omega)
          have q9 := cell (m + 9) (by omega)
          have q14 := cell (m + 14) (by omega)
          have hS := SS_hi 48 bs m (by omega)
          rw [← S_SS] at hS
          obtain ⟨x0, hx0⟩ : ∃ x, x = Sha.S bs m := ⟨_, rfl⟩
          obtain ⟨x1, hx1⟩ : ∃ x, x = Sha.S bs (m + 1) := ⟨_, rfl⟩
          obtain ⟨x9, hx9⟩ : ∃ x, x = Sha.S bs (m + 9) := ⟨_, rfl⟩
          obtain ⟨x14, hx14⟩ : ∃ x, x = Sha.S bs (m + 14) := ⟨_, rfl⟩
          rw [← hx0] at q0 hS
          rw [← hx1] at q1 hS
          rw [← hx9] at q9 hS
          rw [← hx14] at q14 hS
          have HS := Lib.hid hS
          clear hS hx0 hx1 hx9 hx14
          have f16 := HB.out.frozen k
          have n0 : (0 : Int) ≤ (k : Int) - 16 := by omega
          have n1 : (0 : Int) ≤ (k : Int) - 15 := by omega
          have n9 : (0 : Int) ≤ (k : Int) - 7 := by omega
          have n14 : (0 : Int) ≤ (k : Int) - 2 := by omega
          have l0 : (k : Int) - 16 < 64 := by omega
          have l1 : (k : Int) - 15 < 64 := by omega
          have l9 : (k : Int) - 7 < 64 := by omega
          have l14 : (k : Int) - 2 < 64 := by omega
          have t0 : ((k : Int) - 16).toNat = m := by omega
          have t1 : ((k : Int) - 15).toNat = m + 1 := by omega
          have t9 : ((k : Int) - 7).toNat = m + 9 := by omega
          have t14 : ((k : Int) - 2).toNat = m + 14 := by omega
          have w0 : IntKind.i64.wrap ((k : Int) - 16) = (k : Int) - 16 := by rw [IntKind.wrap_i64]; omega
          have w1 : IntKind.i64.wrap ((k : Int) - 15) = (k : Int) - 15 := by rw [IntKind.wrap_i64]; omega
          have w9 : IntKind.i64.wrap ((k : Int) - 7) = (k : Int) - 7 := by rw [IntKind.wrap_i64]; omega
          have w14 : IntKind.i64.wrap ((k : Int) - 2) = (k : Int) - 2 := by rw [IntKind.wrap_i64]; omega
          clear cell hkm
          go_wp2_with fail
          go_quiet (fail)
          go_wp2_with fail
          refine (rot7 x1 _).mono ?_
          rintro e w' ⟨rfl, rfl⟩
          go_wp2_with fail
          refine (rot18 x1 _).mono ?_
          rintro e w' ⟨rfl, rfl⟩
          have rx : ∀ a b : Nat, bits .xor .u32 (a : Int) (b : Int) = ((Sha.xo a b : Nat) : Int) := r_xor
          have s3 : (x1 : Int) / 8 = ((Sha.sh 3 x1 : Nat) : Int) := r_sh3 x1
          have s10 : (x14 : Int) / 1024 = ((Sha.sh 10 x14 : Nat) : Int) := r_sh10 x14
          go_wp2_with fail
          refine (rot17 x14 _).mono ?_
          rintro e w' ⟨rfl, rfl⟩
          go_wp2_with fail
          refine (rot19 x14 _).mono ?_
          rintro e w' ⟨rfl, rfl⟩
          go_wp2_with fail
          refine wp_region_still_tail 15 (by kernel_rfl) (by kernel_rfl) ?_
          simp only [List.take_succ_cons, List.take_zero, List.drop_succ_cons, List.drop_zero]
          change wpStill _ _ (wr.drewN nq).drew (fun a' => wpList _ _ _ _ a' (wr.drewN nq).drew) _ _
          obtain ⟨W2, hW2⟩ : ∃ W2, W2 = (wr.drewN nq).drew := ⟨_, rfl⟩
          rw [← hW2]
          have p0 : W2.cell? ⟨w.heap.size, m, none⟩ = some (.int .u32 (x0 : Int)) := by rw [hW2]; exact q0
          have p9 : W2.cell? ⟨w.heap.size, m + 9, none⟩ = some (.int .u32 (x9 : Int)) := by rw [hW2]; exact q9
          have HB2 := Lib.hid (show Blk W2 w.heap.size 63 (UA 64 (Sha.Sk bs k)) by rw [hW2]; exact (HB.out.drewN nq).drew)
          have HW2 := Lib.hid (show Below w.heap.size w W2 by rw [hW2]; exact (below_drewN HW.out nq).drew)
          have pf : W2.frozen? ⟨w.heap.size, k, none⟩ = false := HB2.out.frozen k
          have ck : W2.cell? ⟨w.heap.size, k, none⟩ = some (.int .u32 ((Sha.Sk bs k k : Nat) : Int)) := by rw [HB2.out.cell, UA.at_ (by omega)]
          clear hW2 q0 q1 q9 q14 f16
          have ra : ∀ a b : Nat, ((a : Int) + (b : Int)) % 4294967296 = ((Sha.add a b : Nat) : Int) := r_add
          have raw : ∀ a b : Nat, IntKind.u32.wrap ((a : Int) + (b : Int)) = ((Sha.add a b : Nat) : Int) := r_addw
          have m16 : (16 : Int) ≤ (k : Int) := by omega
          have m7 : (7 : Int) ≤ (k : Int) := by omega
          repeat still_step
          refine wpStill_nil ?_
          go_wp2_with fail
          go_roundw
          case rel =>
            have hv : Sha.add (Sha.add (Sha.add x0 (Sha.xo (Sha.xo (Sha.ror 7 x1) (Sha.ror 18 x1)) (Sha.sh 3 x1))) x9) (Sha.xo (Sha.xo (Sha.ror 17 x14) (Sha.ror 19 x14)) (Sha.sh 10 x14)) = Sha.S bs k := by
              rw [HKM.out, HS.out]
              unfold Sha.s0 Sha.s1
              with_reducible rfl
            rw [hv]
            exact ⟨k + 1, by omega, by omega, by go_num, Lib.hid (by rw [← UA.congr (fun i _ => Sk_succ bs k i), ← UA.set]; exact HB2.out.set_ _ _), Lib.hid (HW2.out.setCell (p := ⟨w.heap.size, k, none⟩) (Nat.le_refl _) _)⟩
          case measure => simp [intOf]; omega
        · obtain rfl : k = 64 := by omega
          clear hlt
          have HB' := Lib.hid (show Blk wr w.heap.size 63 (UA 64 (Sha.S bs)) by rw [← UA.congr (f := Sha.Sk bs 64) (fun i hi => by unfold Sha.Sk; rw [if_pos hi])]; exact HB.out)
          go_wp2_with (first | (refine wl_ld63 rfl (.tmp 2) rfl rfl HB'.out ?_) | (refine wl_st63 rfl (.tmp 2) (.tmp 80) rfl rfl rfl HB'.out (UA.size _ _) ?_; intro w3 hb3 hg3))
          refine bodyPost_ret (results_cell_row rfl _ _ w.heap.size 63 (UA 64 (Sha.S bs)) (0, 0) _ rfl hb3 Try.underlying63 rfl (by rw [size63, UA.size])) rfl ⟨rfl, ?_⟩
          exact only_below (only_new (only_of_below HW.out (some w.heap.size)) hg3 (Nat.le_refl _)) (Nat.le_refl _) (Nat.le_refl _)
end Go.Proofs.Ytepcbnkhfiphdaa
