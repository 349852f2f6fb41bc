/- The walk of a stream's Sum (sha). Conditions: each theorem's premises. -/
import Derived.Test.YtepcbnkhfiphdaaSha11
namespace Go.Proofs.Ytepcbnkhfiphdaa
open Go.RowKit
theorem box30 (w : World) : Blk (w.alloc (.cells #[.int .u8 0, .int .u8 0, .int .u8 0, .int .u8 0, .int .u8 0, .int .u8 0, .int .u8 0, .int .u8 0, .int .u8 0, .int .u8 0, .int .u8 0, .int .u8 0, .int .u8 0, .int .u8 0, .int .u8 0, .int .u8 0, .int .u8 0, .int .u8 0, .int .u8 0, .int .u8 0, .int .u8 0, .int .u8 0, .int .u8 0, .int .u8 0, .int .u8 0, .int .u8 0, .int .u8 0, .int .u8 0, .int .u8 0, .int .u8 0, .int .u8 0, .int .u8 0] 30)) w.heap.size 30 (UB (fun _ => 0)) := by
  rw [← zero30]
  exact Blk.new _ _ _
theorem rep_get (n i : Nat) : (List.replicate n (0 : UInt8)).getD i 0 = 0 := by
  rw [List.getD_eq_getElem?_getD, List.getElem?_replicate]
  split <;> rfl
theorem ssum_nil (w : World) : Calls Try.prog 15 #[.pointer none] w fun e w' => e = .returned (.agg (NC (List.replicate 32 0))) ∧ Below w.heap.size w w' := by
  have hB := Lib.hid (box30 w)
  have hb := (Below.refl w.heap.size w).alloc (Nat.le_refl _) (.cells #[.int .u8 0, .int .u8 0, .int .u8 0, .int .u8 0, .int .u8 0, .int .u8 0, .int .u8 0, .int .u8 0, .int .u8 0, .int .u8 0, .int .u8 0, .int .u8 0, .int .u8 0, .int .u8 0, .int .u8 0, .int .u8 0, .int .u8 0, .int .u8 0, .int .u8 0, .int .u8 0, .int .u8 0, .int .u8 0, .int .u8 0, .int .u8 0, .int .u8 0, .int .u8 0, .int .u8 0, .int .u8 0, .int .u8 0, .int .u8 0, .int .u8 0, .int .u8 0] 30)
  have HBL := Lib.hid hb
  clear hb
  go_enter Try.func15, Try.ntmps15
  go_wp2_with (first
    | (refine wl_ld30 rfl (.tmp 2) rfl rfl hB.out ?_)
    | (refine wl_st30 rfl (.tmp 2) (.tmp 9) rfl rfl rfl hB.out (UB.size _) ?_; intro w5 hb5 hg5))
  refine bodyPost_ret (results_cell_row rfl _ _ w.heap.size 30 (UB (fun _ => 0)) (0, 0) _ rfl hb5 Try.underlying30 rfl (by rw [size30, UB.size])) rfl ⟨?_, HBL.out.trans (only_below hg5 (Nat.le_refl _) HBL.out.size)⟩
  rw [← UB_NC _ List.length_replicate]
  exact congrArg _ (congrArg _ (UB.congr fun i _ => (rep_get 32 i).symm))
/-- Where a stream's Sum stands, ahead of its rounds. -/
structure Ss (w wr : World) (s g : Nat) (nb : Int) (lv : Value) (all : List UInt8) : Prop where
  sm : Sm wr s g lv all
  en : En wr g 1 0 fillF nb
  out : Blk wr w.heap.size 30 (UB (fun _ => 0))
  bel : Below w.heap.size w wr
theorem Ss.after {w wr w' : World} {s g : Nat} {nb : Int} {lv : Value} {all : List UInt8} (h : Ss w wr s g nb lv all) (hb : Below wr.heap.size wr w') : Ss w w' s g nb lv all :=
  ⟨h.sm.after hb, h.en.after hb, h.out.after hb, h.bel.trans (hb.mono h.bel.size)⟩
theorem zs_mod (n : Nat) : Sha.zs (n % 64) = Sha.zs n := by unfold Sha.zs; rw [Nat.mod_mod]
/-- What the rest is, and what its blocks come to. -/
theorem rest_sum {wr : World} {S : Nat → Prop} {A : Option Addr} {L c n r : Nat} {all Rl : List UInt8} (hn : n = all.length) (hr : r = n % 64) (hR : Rl = all.drop (64 * (n / 64))) (hb : Bs wr S A L c (Rl ++ 128 :: List.replicate (Sha.zs r) 0 ++ (Sha.be8 (8 * n)).take 8)) :
    ∃ P, Bs wr S A L c P ∧ P = Rl ++ Sha.tail n ∧ Sha.sum all = Sha.outB (Sha.comp ((r + 9 + Sha.zs r) / 64) (Sha.comp (n / 64) Sha.H0 all) P).list := by
  subst hn hr hR
  refine ⟨_, hb, ?_, ?_⟩
  · rw [zs_mod, List.append_assoc]; rfl
  · unfold Sha.sum
    have h1 : (all.length + 9 + Sha.zs all.length) / 64 = all.length / 64 + (all.length % 64 + 9 + Sha.zs (all.length % 64)) / 64 := by rw [zs_mod]; omega
    rw [h1, Sha.comp_add, comp_q, drop_q, zs_mod, List.append_assoc]
    rfl
theorem be_len2 (bs : List UInt8) (k n j : Nat) (hj : j ≤ 8) : (bs ++ 128 :: List.replicate k (0 : UInt8) ++ (Sha.be8 (8 * n)).take j).length = bs.length + 1 + k + j := by
  rw [List.length_append, pad_len, List.length_take, show (Sha.be8 (8 * n)).length = 8 from rfl]
  omega
/-- Where a stream's Sum stands in its rounds. -/
structure Sr (w wr : World) (s g : Nat) (nb : Int) (lv : Value) (n : Nat) (T : Sha.St) (b5 : Nat) (A : Option Addr) (L c : Nat) (P : List UInt8) (t : Sha.St) : Prop where
  bk : Blk wr s 77 (SC g T lv n)
  en : En wr g 1 0 fillF nb
  v : Blk wr b5 74 (SV t)
  bs : Bs wr (fun j => w.heap.size ≤ j ∧ j < b5) A L c P
  out : Blk wr w.heap.size 30 (UB (fun _ => 0))
  on : w.grownBy wr (some g)
  n0 : g < s
  n1 : s < w.heap.size
  n2 : w.heap.size < b5
theorem Sr.begin {w W0 wr w3 : World} {s g n : Nat} {nb : Int} {lv : Value} {T : Sha.St} {A : Option Addr} {L c : Nat} {P all : List UInt8} {o : Obj} (hk : Blk wr s 77 (SC g T lv n)) (h : Ss w wr s g nb lv all) (hb : Bs wr (fun k => W0.heap.size ≤ k ∧ k < wr.heap.size) A L c P) (hb3 : Blk w3 wr.heap.size 74 (SV T)) (hg3 : (wr.alloc o).grownBy w3 (some wr.heap.size)) (hs : s < w.heap.size) (hW : w.heap.size ≤ W0.heap.size) :
    Sr w w3 s g nb lv n T wr.heap.size A L c P T := by
  have hg : wr.grownBy w3 (some wr.heap.size) := only_of_alloc hg3
  have hbl : Below wr.heap.size wr w3 := only_below hg (Nat.le_refl _) (Nat.le_refl _)
  exact ⟨hk.after hbl, h.en.after hbl, hb3, (hb.after hbl).mono (fun j hj => ⟨Nat.le_trans hW hj.1, hj.2⟩), h.out.after hbl, only_of_below (h.bel.trans (hbl.mono h.bel.size)) _, h.sm.lt, hs, h.out.lt⟩
theorem Sr.drew {w wr : World} {s g n : Nat} {nb : Int} {lv : Value} {T : Sha.St} {b5 : Nat} {A : Option Addr} {L c : Nat} {P : List UInt8} {t : Sha.St} (h : Sr w wr s g nb lv n T b5 A L c P t) : Sr w wr.drew s g nb lv n T b5 A L c P t :=
  ⟨h.bk.drew, h.en.drew, h.v.drew, h.bs.drew, h.out.drew, only_drew h.on, h.n0, h.n1, h.n2⟩
theorem SV.range {w : World} {b : Nat} {t : Sha.St} (h : Blk w b 74 (SV t)) : w.rangeAt b 0 (U32 t.list) := by
  intro j v hv
  rw [h.cell, Nat.zero_add, ← hv, SV, List.getElem?_toArray]
theorem Sr.turn {w W2 w2 w4 : World} {s g n : Nat} {nb : Int} {lv : Value} {T : Sha.St} {b5 : Nat} {A A7 : Option Addr} {L c L7 c7 : Nat} {P P7 : List UInt8} {t t2 : Sha.St} (h : Sr w W2 s g nb lv n T b5 A L c P t) (hF : Bs W2 (fun j => w.heap.size ≤ j ∧ j < b5) A7 L7 c7 P7) (hE : En w2 g 1 0 fillF (nb + 1)) (hG : W2.grownBy w2 (some g)) (hb4 : Blk w4 b5 74 (SV t2)) (hg4 : w2.grownBy w4 (some b5)) :
    Sr w w4 s g (nb + 1) lv n T b5 A7 L7 c7 P7 t2 := by
  have a0 := h.n0
  have a1 := h.n1
  have a2 := h.n2
  have o1 : Only (fun j => j = g) W2 w2 := Only.of_grown hG (fun j e => by injection e with e; exact e.symm)
  have o2 : Only (fun j => j = b5) w2 w4 := Only.of_grown hg4 (fun j e => by injection e with e; exact e.symm)
  exact ⟨(h.bk.but o1 (by omega)).but o2 (by omega), hE.but o2 (by omega), hb4, (hF.but o1 (fun j hj _ e => by have := hj.1; omega)).but o2 (fun j hj _ e => by have := hj.2; omega), (h.out.but o1 (by omega)).but o2 (by omega), only_new (only_trans h.on hG) hg4 (by omega), a0, a1, a2⟩
set_option maxRecDepth 100000 in
set_option maxHeartbeats 1000000 in
theorem ssum_any (w : World) (s g : Nat) (nb : Int) (lv : Value) (all : List UInt8) (hs : Sm w s g lv all) (hE : En w g 1 0 fillF nb) (hnb : 0 ≤ nb ∧ nb ≤ 50000000000000000) (ha : all.length ≤ 2000000000000000) :
    Calls Try.prog 15 #[.pointer (some ⟨s, 0, none⟩)] w fun e w' => e = .returned (.agg (NC (Sha.sum all))) ∧ En w' g 1 0 fillF (nb + (((all.length + 72) / 64 - all.length / 64 : Nat) : Int)) ∧ w.grownBy w' (some g) := by
  obtain ⟨hn1, hn2⟩ := hnb
  have HS := Lib.hid hs
  have HE := Lib.hid hE
  obtain ⟨A0, c0, hlv, hbs⟩ := own_bs' hs.ow
  subst hlv
  have HB0 := Lib.hid hbs
  clear hs hE hbs
  obtain ⟨n, hnn⟩ : ∃ n, n = all.length := ⟨_, rfl⟩
  rw [← hnn] at ha HB0
  have HN := Lib.hid hnn
  rw [← hnn] at HS
  rw [← hnn]
  clear hnn
  go_enter Try.func15, Try.ntmps15
  have q9 : w.cell? ⟨s, 9, none⟩ = some (.slice A0 (n % 64) c0) := HS.out.bk.cell 9
  have q0 : w.cell? ⟨s, 0, none⟩ = some (.pointer (some ⟨g, 0, none⟩)) := HS.out.bk.cell 0
  have hsl := HS.out.bk.lt
  have HBX := Lib.hid (box30 w)
  go_wp2_with fail
  obtain ⟨W0, hW0⟩ : ∃ W0, W0 = w.alloc (.cells #[.int .u8 0, .int .u8 0, .int .u8 0, .int .u8 0, .int .u8 0, .int .u8 0, .int .u8 0, .int .u8 0, .int .u8 0, .int .u8 0, .int .u8 0, .int .u8 0, .int .u8 0, .int .u8 0, .int .u8 0, .int .u8 0, .int .u8 0, .int .u8 0, .int .u8 0, .int .u8 0, .int .u8 0, .int .u8 0, .int .u8 0, .int .u8 0, .int .u8 0, .int .u8 0, .int .u8 0, .int .u8 0, .int .u8 0, .int .u8 0, .int .u8 0, .int .u8 0] 30) := ⟨_, rfl⟩
  rw [← hW0] at HBX
  rw [← hW0]
  have hb0 : Below w.heap.size w W0 := by rw [hW0]; exact (Below.refl _ _).alloc (Nat.le_refl _) _
  have HP := Lib.hid (show Ss w W0 s g nb (.slice A0 (n % 64) c0) all from ⟨HS.out.after hb0, HE.out.after hb0, HBX.out, hb0⟩)
  have HB1 := Lib.hid (HB0.out.after hb0)
  have HSL := Lib.hid hsl
  clear hW0 hb0 HB0 HBX HS HE q9 q0 hsl
  refine (clone_any W0 _ A0 (n % 64) c0 _ HB1.out (by omega)).mono ?_
  rintro e w1 ⟨A1, c1, rfl, hown, hb1⟩
  obtain ⟨Rl, hRl⟩ : ∃ Rl, Rl = all.drop (64 * (n / 64)) := ⟨_, rfl⟩
  rw [← hRl] at hown
  have HRL := Lib.hid hRl
  obtain ⟨r, hr⟩ : ∃ r, r = n % 64 := ⟨_, rfl⟩
  have hRr : Rl.length = r := by have := HB1.out.len; rw [← hRl, ← hr] at this; exact this
  rw [← hr] at hown
  rw [← hr]
  have hr64 : r < 64 := by omega
  have HR := Lib.hid (And.intro hr hRr)
  have HO := Lib.hid (show Own W0 w1 (.slice A1 r c1) Rl from ⟨by rw [hRr]; exact hown, hb1⟩)
  clear HB1 hown hRl hr hRr hb1
  go_wp2_with (at_builtin; go_must ((refine wpList_append_u8 rfl (.tmp 14) (.tmp 15) rfl (base := W0.heap.size) (v := .slice A1 r c1) (n := r) (xs := Rl) rfl (by have := HO.out.alloc (.cells #[.int .u8 128] 5); rw [HR.out.2] at this; exact this) (m := 1) (c := 1) (ys := [128]) rfl (bs_one w1 128) (by omega) (by have := HO.out.size; simp; omega) ?_); intro v2 w2 hown2 hg2 hat2))
  have hO2 := HO.out.step (m := 1) (ys := [128]) (by rw [HR.out.2]; exact hown2) rfl hg2 ((Below.refl _ _).alloc (Nat.le_refl _) _)
  obtain ⟨A2, c2, hv2⟩ := hO2.shape
  subst hv2
  have hL2 : (Rl ++ [128]).length = r + 1 := by rw [List.length_append, HR.out.2]; rfl
  rw [hL2] at hO2
  rw [hL2]
  have HO2 := Lib.hid hO2
  clear hown2 hg2 hat2 HO hO2 hL2
  go_loopw [3] (fun v3 wr => ∃ (k L : Nat) (A3 : Option Addr) (c3 : Nat), k ≤ Sha.zs r ∧ L = r + 1 + k ∧ v3 = .slice A3 L c3 ∧ Hid (Own W0 wr (.slice A3 L c3) (Rl ++ 128 :: List.replicate k 0))) (fun v3 _ => r + 200 - (match v3 with | .slice _ L _ => L | _ => 0))
  case atStart => exact ⟨0, r + 1, A2, c2, by omega, by omega, rfl, HO2⟩
  case round =>
    obtain ⟨k, L, A3, c3, hk, hL, rfl, HO3⟩ := hrel
    have HL := Lib.hid hL
    have hz := zs_lt r
    by_cases hlt : k < Sha.zs r
    · have ht : ((L : Int) % 64 != 56) = true := by
        have := zs_more r k hlt
        rw [hL]
        simp only [bne_iff_ne, ne_eq]
        omega
      have hLb : L ≤ r + 64 := by omega
      clear hL
      go_wp2_with (at_builtin; go_must ((refine wpList_append_u8 rfl (.tmp 21) (.tmp 22) rfl (base := W0.heap.size) (v := .slice A3 L c3) (n := L) (xs := Rl ++ 128 :: List.replicate k 0) rfl (by have := HO3.out.alloc (.cells #[.int .u8 0] 5); rw [pad_len, HR.out.2, ← HL.out] at this; exact this) (m := 1) (c := 1) (ys := [0]) rfl (bs_one wr 0) (by omega) (by have := HO3.out.size; simp; omega) ?_); intro v2 w2 hown2 hg2 hat2))
      have hO4 := HO3.out.step (m := 1) (ys := [0]) (by rw [pad_len, HR.out.2, ← HL.out]; exact hown2) rfl hg2 ((Below.refl _ _).alloc (Nat.le_refl _) _)
      rw [pad_succ] at hO4
      obtain ⟨A4, c4, hv4⟩ := hO4.shape
      subst hv4
      have hL4 : (Rl ++ 128 :: List.replicate (k + 1) (0 : UInt8)).length = L + 1 := by rw [pad_len, HR.out.2, HL.out]; omega
      rw [hL4] at hO4
      rw [hL4]
      have HO4 := Lib.hid hO4
      clear hO4 hown2 hg2 hat2 hL4
      go_roundw
      case rel => exact ⟨k + 1, L + 1, A4, c4, by omega, by rw [HL.out]; omega, rfl, HO4⟩
      case measure => show r + 200 - (L + 1) < r + 200 - L; omega
    · obtain rfl : k = Sha.zs r := by omega
      have ht : ((L : Int) % 64 != 56) = false := by
        have := zs_done r
        rw [hL]
        simp only [bne_eq_false_iff_eq]
        omega
      have hLb : L ≤ r + 64 := by omega
      clear hL hlt
      go_wp2_with fail
      obtain ⟨L0, hL0⟩ : ∃ L0, L0 = L := ⟨_, rfl⟩
      have HL0 := Lib.hid hL0
      clear hL0
      go_loopw [3, 4] (fun v3 v4 wr => ∃ (j L : Nat) (A3 : Option Addr) (c3 : Nat), j ≤ 8 ∧ L = L0 + j ∧ v3 = .slice A3 L c3 ∧ v4 = .int .i64 (56 - 8 * (j : Int)) ∧ Hid (Own W0 wr (.slice A3 L c3) (Rl ++ 128 :: List.replicate (Sha.zs r) 0 ++ (Sha.be8 (8 * n)).take j))) (fun _ v4 _ => (intOf v4 + 8).toNat)
      case atStart => exact ⟨0, L, A3, c3, by omega, by rw [HL0.out]; rfl, rfl, rfl, Lib.hid (by rw [List.take_zero, List.append_nil]; exact HO3.out)⟩
      case round =>
        obtain ⟨j, L4, A4, c4, hj, hL4, rfl, rfl, HO4⟩ := hrel
        have HL4 := Lib.hid hL4
        have hLb4 : L4 ≤ r + 100 := by have := HL0.out; omega
        clear hL4
        have HP4 := Lib.hid (HP.out.after HO4.out.2)
        have s10 : wr.cell? ⟨s, 10, none⟩ = some (.int .i64 (n : Int)) := by rw [HN.out]; exact HP4.out.sm.bk.cell 10
        have s0 : wr.cell? ⟨s, 0, none⟩ = some (.pointer (some ⟨g, 0, none⟩)) := HP4.out.sm.bk.cell 0
        by_cases hj8 : j < 8
        · have hj8' : 8 * (j : Int) ≤ 56 := by omega
          obtain ⟨x, hx⟩ : ∃ x : UInt8, x = (8 * n / 2 ^ (8 * (7 - j))).toUInt8 := ⟨_, rfl⟩
          have he : (n : Int) * 8 / 2 ^ (56 - 8 * j) % 256 = (x.toNat : Int) := by
            rw [hx, Int.mul_comm, show 56 - 8 * j = 8 * (7 - j) by omega]
            exact be_byte n _
          have HB := Lib.hid (show (Sha.be8 (8 * n))[j]? = some x by rw [hx]; exact be8_at _ _ hj8)
          clear hx
          go_wp2_with (at_builtin; go_must ((refine wpList_append_u8 rfl (.tmp 28) (.tmp 38) rfl (base := W0.heap.size) (v := .slice A4 L4 c4) (n := L4) (xs := Rl ++ 128 :: List.replicate (Sha.zs r) 0 ++ (Sha.be8 (8 * n)).take j) rfl (by have := HO4.out.alloc (.cells #[.int .u8 (x.toNat : Int)] 5); rw [be_len2 _ _ _ _ hj, HR.out.2, ← HL.out, ← HL0.out, ← HL4.out] at this; exact this) (m := 1) (c := 1) (ys := [x]) rfl (bs_one wr x) (by omega) (by have := HO4.out.size; simp; omega) ?_); intro v2 w2 hown2 hg2 hat2))
          have hO5 := HO4.out.step (m := 1) (ys := [x]) (by rw [be_len2 _ _ _ _ hj, HR.out.2, ← HL.out, ← HL0.out, ← HL4.out]; exact hown2) rfl hg2 ((Below.refl _ _).alloc (Nat.le_refl _) _)
          rw [List.append_assoc, ← take_snoc HB.out] at hO5
          obtain ⟨A5, c5, hv5⟩ := hO5.shape
          subst hv5
          have hL5 : (Rl ++ 128 :: List.replicate (Sha.zs r) (0 : UInt8) ++ (Sha.be8 (8 * n)).take (j + 1)).length = L4 + 1 := by rw [be_len2 _ _ _ _ (by omega), HR.out.2, ← HL.out, ← HL0.out, HL4.out]; omega
          rw [hL5] at hO5
          rw [hL5]
          have HO5 := Lib.hid hO5
          clear hO5 hown2 hg2 hat2 hL5 he
          go_roundw
          case rel => exact ⟨j + 1, L4 + 1, A5, c5, by omega, by rw [HL4.out]; omega, rfl, by go_num, HO5⟩
          case measure => simp [intOf]; omega
        · obtain rfl : j = 8 := by omega
          have hLe : L4 = 64 * ((r + 9 + Sha.zs r) / 64) := by rw [HL4.out, HL0.out, HL.out, Sha.whole]; omega
          have HF := Lib.hid (rest_sum HN.out HR.out.1 HRL.out HO4.out.bs)
          have HBE := Lib.hid HO4.out.2
          clear HO4 s10 s0
          rw [show (56 - 8 * ((8 : Nat) : Int)) = -8 from rfl]
          obtain ⟨P, hP1, hP2, hP3⟩ := HF.out
          obtain ⟨T, hT⟩ : ∃ T, T = Sha.comp (n / 64) Sha.H0 all := ⟨_, rfl⟩
          rw [← hT] at hP3
          have HBK := Lib.hid (show Blk wr s 77 (SC g T (.slice A0 (n % 64) c0) n) by have := HP4.out.sm.bk; rw [← HN.out, ← hT] at this; exact this)
          obtain ⟨N, hN⟩ : ∃ N, N = (r + 9 + Sha.zs r) / 64 := ⟨_, rfl⟩
          rw [← hN] at hP3 hLe
          have HP1 := Lib.hid hP1.oldS
          have HP3 := Lib.hid hP3
          have HLE := Lib.hid hLe
          have HNN := Lib.hid (And.intro hN hP2)
          clear hP1 hP2 hP3 hT hLe hN HF
          go_wp2_with (first
            | (refine wl_stmid rfl (.tmp 42) rfl rfl (SC.mid HBK.out) ?_)
            | (refine wl_stStore rfl (.tmp 5) (.tmp 43) rfl rfl rfl (Blk.new wr 74 _) rfl ?_; intro w3 hb3 hg3))
          have HSR := Lib.hid (show Sr w w3 s g nb (.slice A0 (n % 64) c0) n T wr.heap.size A4 L4 c4 P T from Sr.begin HBK.out HP4.out HP1.out hb3 hg3 HSL.out HP.out.bel.size)
          clear hb3 hg3 HP1 HBK HP4 HBE
          obtain ⟨b5, hb5⟩ : ∃ b5, b5 = wr.heap.size := ⟨_, rfl⟩
          rw [← hb5] at HSR
          rw [← hb5]
          clear hb5
          try simp only [Act.put]
          go_loopg [3] N (fun gk v3 wr => ∃ (k L : Nat) (A3 : Option Addr) (c3 : Nat), Hid (gk + k = N ∧ L = 64 * gk) ∧ v3 = .slice A3 L c3 ∧ Hid (Sr w wr s g (nb + (k : Int)) (.slice A0 (n % 64) c0) n T b5 A3 L c3 (P.drop (64 * k)) (Sha.comp k T P)))
          case atStart => exact ⟨0, L4, A4, c4, Lib.hid ⟨by omega, HLE.out⟩, rfl, Lib.hid (by simpa [Sha.comp] using HSR.out)⟩
          case round =>
            obtain ⟨k, L, A3, c3, HK, rfl, HSR⟩ := hrel
            by_cases h0 : 0 < gk
            · have hL0 : (0 : Int) < (L : Int) := by have := HK.out; omega
              have h64 : 64 ≤ L := by have := HK.out; omega
              obtain ⟨A6, c6, hcut, hcb⟩ := HSR.out.bs.upto 64 64 rfl h64
              obtain ⟨A7, c7, hfrom, hcf⟩ := HSR.out.bs.from_ 64 64 (L - 64) rfl (by omega)
              obtain ⟨t, ht⟩ : ∃ t, t = Sha.comp k T P := ⟨_, rfl⟩
              have HT := Lib.hid ht
              rw [← ht] at HSR
              have HCF := Lib.hid hcf
              clear ht hcf
              have hkN : (k : Int) ≤ 2 := by have := HK.out; have := HNN.out.1; have := zs_lt r; omega
              go_wp2_with fail
              refine wp_region_still_tail 7 (by kernel_rfl) (by kernel_rfl) ?_
              simp only [List.take_succ_cons, List.take_zero, List.drop_succ_cons, List.drop_zero]
              change wpStill _ _ wr.drew (fun a' => wpList _ _ _ _ a' wr.drew) _ _
              obtain ⟨W2, hW2⟩ : ∃ W2, W2 = wr.drew := ⟨_, rfl⟩
              rw [← hW2]
              have HS2 := Lib.hid (show Sr w W2 s g (nb + (k : Int)) (.slice A0 (n % 64) c0) n T b5 A3 L c3 (P.drop (64 * k)) t by rw [hW2]; exact HSR.out.drew)
              have HC2 := Lib.hid (show Bs W2 _ A6 64 c6 _ by rw [hW2]; exact hcb.drew)
              have HF2 := Lib.hid (show Bs W2 _ A7 (L - 64) c7 _ by rw [hW2]; exact HCF.out.drew)
              have s0 : W2.cell? ⟨s, 0, none⟩ = some (.pointer (some ⟨g, 0, none⟩)) := HS2.out.bk.cell 0
              clear hW2 hcb HSR HCF
              repeat still_step
              refine still_sc rfl (.tmp 5) rfl rfl (SV.range HS2.out.v) ?_
              simp only [Act.put, List.setIfInBounds_toArray, List.set_cons_zero, List.set_cons_succ]
              repeat still_step
              refine wpStill_nil ?_
              go_wp2_with fail
              refine (round_any W2 g (nb + (k : Int)) HS2.out.en t _ A6 c6 _ HC2.out (by omega)).mono ?_
              rintro e w2 ⟨rfl, hE3, hG3⟩
              have HE3 := Lib.hid hE3
              have HG3 := Lib.hid hG3
              have a0 := HS2.out.n0
              have a1 := HS2.out.n1
              have a2 := HS2.out.n2
              have hv3 := HS2.out.v.grown hG3 (fun e => by injection e with e; omega)
              have HV3 := Lib.hid hv3
              clear hE3 hG3 hv3
              go_wp2_with (refine wl_stStore rfl (.tmp 5) (.tmp 56) rfl rfl rfl HV3.out rfl ?_; intro w4 hb4 hg4)
              go_roundg (gk - 1)
              case measure => omega
              case rel =>
                refine ⟨k + 1, L - 64, A7, c7, Lib.hid (by have := HK.out; omega), rfl, Lib.hid ?_⟩
                have h := HS2.out.turn HF2.out HE3.out HG3.out hb4 hg4
                rw [List.drop_drop] at h
                rw [Sha.comp_snoc, ← HT.out, show 64 * (k + 1) = 64 * k + 64 by omega, show nb + ((k + 1 : Nat) : Int) = nb + (k : Int) + 1 by omega]
                exact h
            · have hkN : k = N := by have := HK.out; omega
              have hL0 : L = 0 := by have := HK.out; omega
              subst hL0
              obtain ⟨t, ht⟩ : ∃ t, t = Sha.comp k T P := ⟨_, rfl⟩
              rw [← ht] at HSR
              have HT := Lib.hid (show Sha.sum all = Sha.outB t.list by rw [HP3.out, ht, hkN])
              have HNK := Lib.hid hkN
              clear ht hkN h0
              go_wp2_with fail
              obtain ⟨wo, hwo⟩ : ∃ wo : World, wo = wr := ⟨_, rfl⟩
              subst hwo
              go_loopw [57] (fun v57 wr => ∃ i : Nat, i ≤ 32 ∧ v57 = .int .i64 (i : Int) ∧ Hid (Blk wr b5 74 (SV t)) ∧ Hid (Blk wr w.heap.size 30 (UB (outK t i))) ∧ Hid (En wr g 1 0 fillF (nb + (k : Int))) ∧ Hid (w.grownBy wr (some g)) ∧ Hid (g < w.heap.size ∧ w.heap.size < b5)) (fun v57 _ => 32 - (intOf v57).toNat)
              case atStart => exact ⟨0, by omega, rfl, Lib.hid HSR.out.v, Lib.hid HSR.out.out, Lib.hid HSR.out.en, Lib.hid HSR.out.on, Lib.hid ⟨Nat.lt_trans HSR.out.n0 HSR.out.n1, HSR.out.n2⟩⟩
              case round =>
                obtain ⟨i, hi, rfl, HV, HO, HE, HG, HZ⟩ := hrel
                by_cases hlt : i < 32
                · have hlt' : (i : Int) < 32 := by omega
                  have hk4 : i / 4 < 8 := by omega
                  obtain ⟨x, hx⟩ : ∃ x, x = t.list.getD (i / 4) 0 := ⟨_, rfl⟩
                  have c0 : wr.cell? ⟨b5, i / 4, none⟩ = some (.int .u32 (x : Int)) := by rw [HV.out.cell, SV.at_ _ hk4, hx]
                  have c7 : wr.cell? ⟨w.heap.size, i, none⟩ = some (.int .u8 ((outK t i i).toNat : Int)) := by rw [HO.out.cell, UB.at_ hlt]
                  have f7 := HO.out.frozen i
                  have HX := Lib.hid hx
                  clear hx
                  go_wp2_with fail
                  rw [sh_byte x (24 - i % 4 * 8)]
                  have hgz := HZ.out.1
                  have hbz := HZ.out.2
                  obtain ⟨y, hy⟩ : ∃ y : UInt8, y = (x / 2 ^ (24 - i % 4 * 8)).toUInt8 := ⟨_, rfl⟩
                  rw [← hy]
                  have hyo : y = outF t i := by rw [hy, HX.out]; rfl
                  have ho : Only (fun j => j = w.heap.size) wr (wr.setCell ⟨w.heap.size, i, none⟩ (.int .u8 (y.toNat : Int))) := (Only.refl (fun j => j = w.heap.size) wr).setCell (p := ⟨w.heap.size, i, none⟩) (.inl rfl) _
                  have e1 := Lib.hid (HV.out.but ho (by omega))
                  have e2 : Hid (Blk (wr.setCell ⟨w.heap.size, i, none⟩ (.int .u8 (y.toNat : Int))) w.heap.size 30 (UB (outK t (i + 1)))) := Lib.hid (by
                    rw [← UB.congr (fun j _ => outK_succ t i j), ← UB.set, ← hyo]
                    exact HO.out.set_ _ _)
                  have e3 := Lib.hid (HE.out.but ho (by omega))
                  have e4 := Lib.hid (only_setCell (p := ⟨w.heap.size, i, none⟩) HG.out (.inr (Nat.le_refl _)) (.int .u8 (y.toNat : Int)))
                  exact ⟨⟨i + 1, by omega, by go_num, e1, e2, e3, e4, HZ⟩, by simp [intOf]; omega⟩
                · obtain rfl : i = 32 := by omega
                  have HN2 := Lib.hid (show Blk wr w.heap.size 30 (UB (outF t)) by
                    have h := HO.out
                    rw [UB.congr (f' := outF t) (fun i hi => by unfold outK; rw [if_pos hi])] at h
                    exact h)
                  have hgz := HZ.out.1
                  clear HO hlt
                  go_wp2_with (first
                    | (refine wl_ld30 rfl (.tmp 2) rfl rfl HN2.out ?_)
                    | (refine wl_st30 rfl (.tmp 2) (.tmp 73) rfl rfl rfl HN2.out (UB.size _) ?_; intro w5 hb5 hg5))
                  refine bodyPost_ret (results_cell_row rfl _ _ w.heap.size 30 (UB (outF t)) (0, 0) _ rfl hb5 Try.underlying30 rfl (by rw [size30, UB.size])) rfl ⟨by rw [HT.out, UB_out], ?_, ?_⟩
                  · have h := HE.out.grown hg5 (fun e => by injection e with e; omega)
                    have hk : (n + 72) / 64 - n / 64 = k := by
                      rw [HNK.out, HNN.out.1, HR.out.1]
                      unfold Sha.zs
                      omega
                    rw [hk]
                    exact h
                  · exact only_new HG.out hg5 (Nat.le_refl _)
end Go.Proofs.Ytepcbnkhfiphdaa
