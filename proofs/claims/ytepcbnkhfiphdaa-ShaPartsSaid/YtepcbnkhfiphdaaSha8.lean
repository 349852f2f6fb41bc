/- The walks of the reference's first, rounds, padded, Sum, Blocks (sha). Conditions: each theorem's premises. -/
import Derived.Test.YtepcbnkhfiphdaaSha7
namespace Go.Proofs.Ytepcbnkhfiphdaa
open Go.RowKit
theorem first_any (w : World) : Calls Try.prog 24 #[] w fun e w' => e = .returned (.slice (some ⟨w.heap.size, 0, none⟩) 8 8) ∧ Wd w' w.heap.size Sha.H0 ∧ Below w.heap.size w w' := by
  have h := Lib.hid (Wd.of_blk (Blk.new w 53 (SV Sha.H0)))
  go_enter Try.func24, Try.ntmps24
  go_wp2_with fail
  go_ret
  exact ⟨rfl, h.out, (Below.refl _ _).alloc (Nat.le_refl _) _⟩
theorem rounds_any (w : World) : Calls Try.prog 25 #[] w fun e w' => e = .returned (.slice (some ⟨w.heap.size, 0, none⟩) 64 64) ∧ Blk w' w.heap.size 53 (UA 64 (fun i => Sha.K.getD i 0)) ∧ Below w.heap.size w w' := by
  have h := Lib.hid (Blk.new w 53 (UA 64 (fun i => Sha.K.getD i 0)))
  go_enter Try.func25, Try.ntmps25
  go_wp2_with fail
  go_ret
  exact ⟨rfl, h.out, (Below.refl _ _).alloc (Nat.le_refl _) _⟩
theorem rblocks_any (n : Nat) (hn : n ≤ 1000000) (w : World) : Calls Try.prog 16 #[.int .i64 (n : Int)] w fun e w' => e = .returned (.int .i64 (((n + 72) / 64 : Nat) : Int)) ∧ w = w' := by
  go_enter Try.func16, Try.ntmps16
  go_wp2_with fail
  go_ret
  exact ⟨ret_int (by omega), rfl⟩
/-! ### What is laid behind a text -/
theorem bs_one (w : World) (b : UInt8) : Bs (w.alloc (.cells #[.int .u8 (b.toNat : Int)] 5)) (fun k => w.heap.size ≤ k) (some ⟨w.heap.size, 0, none⟩) 1 1 [b] := by
  have hB := Blk.new w 5 #[.int .u8 (b.toNat : Int)]
  refine ⟨rfl, Nat.le_refl _, rfl, fun _ => ⟨_, rfl, Nat.le_refl _, fun j u hu => ?_⟩⟩
  have hj : j = 0 := by have := (List.getElem?_eq_some_iff.1 hu).1; simp [u8s] at this; exact this
  subst hj
  rw [add_plain, hB.cell 0, ← hu]
  rfl
/-- The text's length's bytes, from the i-th on. -/
theorem be8_at (n i : Nat) (h : i < 8) : (Sha.be8 n)[i]? = some (n / 2 ^ (8 * (7 - i))).toUInt8 := by
  rcases i with _ | _ | _ | _ | _ | _ | _ | _ | i
  · rfl
  · rfl
  · rfl
  · rfl
  · rfl
  · rfl
  · rfl
  · simp [Sha.be8]
  · omega
theorem zs_more (n k : Nat) (h : k < Sha.zs n) : (n + 1 + k) % 64 ≠ 56 := by unfold Sha.zs at h; omega
theorem zs_done (n : Nat) : (n + 1 + Sha.zs n) % 64 = 56 := by unfold Sha.zs; omega
theorem zs_lt (n : Nat) : Sha.zs n < 64 := by unfold Sha.zs; omega
theorem pad_succ (bs : List UInt8) (k : Nat) : bs ++ 128 :: List.replicate k (0 : UInt8) ++ [0] = bs ++ 128 :: List.replicate (k + 1) 0 := by
  rw [List.replicate_succ']; simp
theorem pad_len (bs : List UInt8) (k : Nat) : (bs ++ 128 :: List.replicate k (0 : UInt8)).length = bs.length + 1 + k := by simp; omega
theorem tail_eq (n : Nat) : (128 :: List.replicate (Sha.zs n) (0 : UInt8)) ++ (Sha.be8 (8 * n)).take 8 = Sha.tail n := rfl
theorem be_byte (n k : Nat) : 8 * (n : Int) / 2 ^ k % 256 = (((8 * n / 2 ^ k).toUInt8.toNat : Nat) : Int) := by
  have e : 8 * (n : Int) / 2 ^ k = ((8 * n / 2 ^ k : Nat) : Int) := by simp
  rw [e]
  have : (8 * n / 2 ^ k).toUInt8.toNat = 8 * n / 2 ^ k % 256 := by simp [Nat.toUInt8]
  rw [this]
  omega
theorem be_len (bs : List UInt8) (n j : Nat) (hj : j ≤ 8) : (bs ++ 128 :: List.replicate (Sha.zs n) (0 : UInt8) ++ (Sha.be8 (8 * n)).take j).length = bs.length + 1 + Sha.zs n + j := by
  rw [List.length_append, pad_len, List.length_take, show (Sha.be8 (8 * n)).length = 8 from rfl]
  omega
/-- A row of bytes of the call's own. -/
def Own (w wr : World) (v : Value) (xs : List UInt8) : Prop := wr.ownsRow w.heap.size 5 1 v xs.length (u8s xs) ∧ Below w.heap.size w wr
theorem Own.shape {w wr : World} {v : Value} {xs : List UInt8} (h : Own w wr v xs) : ∃ A c, v = .slice A xs.length c := by
  obtain ⟨A, c, e, -⟩ := own_shape h.1
  exact ⟨A, c, e⟩
theorem Own.step {w wr W w' : World} {v v' : Value} {xs ys : List UInt8} {m : Nat} (h : Own w wr v xs) (hown : w'.ownsRow w.heap.size 5 1 v' (xs.length + m) (u8s (xs ++ ys))) (hl : ys.length = m) (hg : W.grownBy w' v.ownBlock) (hW : Below wr.heap.size wr W) : Own w w' v' (xs ++ ys) := by
  refine ⟨by rw [List.length_append, hl]; exact hown, ?_⟩
  have h1 : Below w.heap.size w W := h.2.trans (hW.mono h.2.size)
  exact h1.grown hg h1.size (fun k hk => own_base h.1 k hk)
theorem Own.alloc {w wr : World} {v : Value} {xs : List UInt8} (h : Own w wr v xs) (o : Obj) : (wr.alloc o).ownsRow w.heap.size 5 1 v xs.length (u8s xs) := own_below h.1 ((Below.refl _ _).alloc (Nat.le_refl _) o) (Nat.le_refl _)
theorem Own.made (w : World) : Own w (w.alloc (.cells #[] 5)) (.slice (some ⟨w.heap.size, 0, none⟩) 0 0) [] :=
  ⟨(World.ownsRow_made w #[] 0 (Nat.le_refl _) (by simp [maxLen]) rfl : World.ownsRow _ _ _ _ _ _ (u8s [])), (Below.refl _ _).alloc (Nat.le_refl _) _⟩
theorem Own.size {w wr : World} {v : Value} {xs : List UInt8} (h : Own w wr v xs) : w.heap.size ≤ wr.heap.size := h.2.size
theorem Own.bs {w wr : World} {A : Option Addr} {n c : Nat} {xs : List UInt8} (h : Own w wr (.slice A n c) xs) : Bs wr (fun k => w.heap.size ≤ k) A n c xs := by
  obtain ⟨A', c', e, hb⟩ := own_bs h.1
  injection e with e1 e2 e3
  subst e1 e2 e3
  exact hb
set_option maxRecDepth 100000 in
set_option maxHeartbeats 1000000 in
theorem padded_any (w : World) (S : Nat → Prop) (A : Option Addr) (c : Nat) (bs : List UInt8) (hx : Bs w S A bs.length c bs) (hn : bs.length ≤ 1000000) :
    Calls Try.prog 26 #[.slice A bs.length c] w fun e w' => ∃ v, e = .returned v ∧ Own w w' v (bs ++ Sha.tail bs.length) := by
  have HX := Lib.hid hx
  have tok1 : True := trivial
  obtain ⟨n, hnn⟩ : ∃ n, n = bs.length := ⟨_, rfl⟩
  rw [← hnn] at hn hx HX
  rw [← hnn]
  have HN := Lib.hid hnn
  clear hx hnn
  go_enter Try.func26, Try.ntmps26
  go_wp2_with (at_builtin; (first
    | (have _t := tok1; refine wpList_append_u8 rfl (.tmp 6) (.tmp 7) rfl (base := w.heap.size) (v := .slice (some ⟨w.heap.size, 0, none⟩) 0 0) (n := 0) (xs := []) rfl (Own.made w).1 (A := A) (m := n) (c := c) (ys := bs) rfl (HX.out.after ((Below.refl _ _).alloc (Nat.le_refl _) _)) (by omega) (by simp) ?_; intro v1 w1 hown1 hg1 hat1; have HO := Lib.hid ((Own.made w).step (by rw [← HN.out] at *; exact hown1) HN.out.symm hg1 (Below.refl _ _)); clear tok1 hown1 hg1 hat1)
    | (refine wpList_append_u8 rfl (.tmp 8) (.tmp 9) rfl (base := w.heap.size) (v := v1) (n := n) (xs := bs) rfl (by have := HO.out.alloc (.cells #[.int .u8 128] 5); rw [List.nil_append, ← HN.out] at this; exact this) (m := 1) (c := 1) (ys := [128]) rfl (bs_one w1 128) (by omega) (by have := HO.out.size; simp; omega) ?_; intro v2 w2 hown2 hg2 hat2)))
  have hO1 : Own w w1 v1 bs := HO.out
  have hO2 := hO1.step (m := 1) (ys := [128]) (by rw [← HN.out]; exact hown2) rfl hg2 ((Below.refl _ _).alloc (Nat.le_refl _) _)
  clear hO1
  obtain ⟨A2, c2, hv2⟩ := hO2.shape
  subst hv2
  have hL2 : (bs ++ [128]).length = n + 1 := by rw [List.length_append, ← HN.out]; rfl
  rw [hL2] at hO2
  rw [hL2]
  have HO2 := Lib.hid hO2
  clear hown2 hg2 hat2 HO hO2 hL2
  go_loopw [3] (fun v3 wr => ∃ (k L : Nat) (A3 : Option Addr) (c3 : Nat), k ≤ Sha.zs n ∧ L = n + 1 + k ∧ v3 = .slice A3 L c3 ∧ Hid (Own w wr (.slice A3 L c3) (bs ++ 128 :: List.replicate k 0))) (fun v3 _ => n + 200 - (match v3 with | .slice _ L _ => L | _ => 0))
  case atStart => exact ⟨0, n + 1, A2, c2, by omega, by omega, rfl, HO2⟩
  case round =>
    obtain ⟨k, L, A3, c3, hk, hL, rfl, HO3⟩ := hrel
    have HL := Lib.hid hL
    have hz := zs_lt n
    by_cases hlt : k < Sha.zs n
    · have ht : ((L : Int) % 64 != 56) = true := by
        have := zs_more n k hlt
        rw [hL]
        simp only [bne_iff_ne, ne_eq]
        omega
      have hLb : L ≤ n + 64 := by omega
      clear hL
      go_wp2_with (at_builtin; go_must ((refine wpList_append_u8 rfl (.tmp 15) (.tmp 16) rfl (base := w.heap.size) (v := .slice A3 L c3) (n := L) (xs := bs ++ 128 :: List.replicate k 0) rfl (by have := HO3.out.alloc (.cells #[.int .u8 0] 5); rw [pad_len, ← HN.out, ← HL.out] at this; exact this) (m := 1) (c := 1) (ys := [0]) rfl (bs_one wr 0) (by omega) (by have := HO3.out.size; simp; omega) ?_); intro v2 w2 hown2 hg2 hat2))
      have hO4 := HO3.out.step (m := 1) (ys := [0]) (by rw [pad_len, ← HN.out, ← HL.out]; exact hown2) rfl hg2 ((Below.refl _ _).alloc (Nat.le_refl _) _)
      rw [pad_succ] at hO4
      obtain ⟨A4, c4, hv4⟩ := hO4.shape
      subst hv4
      have hL4 : (bs ++ 128 :: List.replicate (k + 1) (0 : UInt8)).length = L + 1 := by rw [pad_len, ← HN.out, HL.out]; omega
      rw [hL4] at hO4
      rw [hL4]
      have HO4 := Lib.hid hO4
      clear hO4 hown2 hg2 hat2 hL4
      go_roundw
      case rel => exact ⟨k + 1, L + 1, A4, c4, by omega, by rw [HL.out]; omega, rfl, HO4⟩
      case measure => show n + 200 - (L + 1) < n + 200 - L; omega
    · obtain rfl : k = Sha.zs n := by omega
      have ht : ((L : Int) % 64 != 56) = false := by
        have := zs_done n
        rw [hL]
        simp only [bne_eq_false_iff_eq]
        omega
      have hLb : L ≤ n + 64 := by omega
      have hn8 : IntKind.u64.wrap ((n : Int) * 8) = ((8 * n : Nat) : Int) := by rw [IntKind.wrap_u64]; omega
      have hnw : (n : Int) % 18446744073709551616 = (n : Int) := by omega
      clear hL hlt
      go_wp2_with fail
      obtain ⟨L0, hL0⟩ : ∃ L0, L0 = L := ⟨_, rfl⟩
      have HL0 := Lib.hid hL0
      clear hL0
      go_loopw [3, 5] (fun v3 v5 wr => ∃ (j L : Nat) (A3 : Option Addr) (c3 : Nat), j ≤ 8 ∧ L = L0 + j ∧ v3 = .slice A3 L c3 ∧ v5 = .int .i64 (7 - (j : Int)) ∧ Hid (Own w wr (.slice A3 L c3) (bs ++ 128 :: List.replicate (Sha.zs n) 0 ++ (Sha.be8 (8 * n)).take j))) (fun _ v5 _ => (intOf v5 + 1).toNat)
      case atStart => exact ⟨0, L, A3, c3, by omega, by rw [HL0.out]; rfl, rfl, rfl, Lib.hid (by rw [List.take_zero, List.append_nil]; exact HO3.out)⟩
      case round =>
        obtain ⟨j, L4, A4, c4, hj, hL4, rfl, rfl, HO4⟩ := hrel
        have HL4 := Lib.hid hL4
        have hLb4 : L4 ≤ n + 100 := by have := HL0.out; omega
        clear hL4
        by_cases hj8 : j < 8
        · have hj8' : (j : Int) ≤ 7 := by omega
          obtain ⟨x, hx⟩ : ∃ x : UInt8, x = (8 * n / 2 ^ (8 * (7 - j))).toUInt8 := ⟨_, rfl⟩
          have he : 8 * (n : Int) / 2 ^ (8 * (7 - j)) % 256 = (x.toNat : Int) := by rw [hx]; exact be_byte n _
          have HB := Lib.hid (show (Sha.be8 (8 * n))[j]? = some x by rw [hx]; exact be8_at _ _ hj8)
          clear hx
          go_wp2_with (at_builtin; go_must ((refine wpList_append_u8 rfl (.tmp 26) (.tmp 33) rfl (base := w.heap.size) (v := .slice A4 L4 c4) (n := L4) (xs := bs ++ 128 :: List.replicate (Sha.zs n) 0 ++ (Sha.be8 (8 * n)).take j) rfl (by have := HO4.out.alloc (.cells #[.int .u8 (x.toNat : Int)] 5); rw [be_len _ _ _ hj, ← HN.out, ← HL.out, ← HL0.out, ← HL4.out] at this; exact this) (m := 1) (c := 1) (ys := [x]) rfl (bs_one wr x) (by omega) (by have := HO4.out.size; simp; omega) ?_); intro v2 w2 hown2 hg2 hat2))
          have hO5 := HO4.out.step (m := 1) (ys := [x]) (by rw [be_len _ _ _ hj, ← HN.out, ← HL.out, ← HL0.out, ← HL4.out]; exact hown2) rfl hg2 ((Below.refl _ _).alloc (Nat.le_refl _) _)
          rw [List.append_assoc, ← take_snoc HB.out] at hO5
          obtain ⟨A5, c5, hv5⟩ := hO5.shape
          subst hv5
          have hL5 : (bs ++ 128 :: List.replicate (Sha.zs n) (0 : UInt8) ++ (Sha.be8 (8 * n)).take (j + 1)).length = L4 + 1 := by rw [be_len _ _ _ (by omega), ← HN.out, ← HL.out, ← HL0.out, HL4.out]; omega
          rw [hL5] at hO5
          rw [hL5]
          have HO5 := Lib.hid hO5
          clear hO5 hown2 hg2 hat2 hL5 he
          go_roundw
          case rel => exact ⟨j + 1, L4 + 1, A5, c5, by omega, by rw [HL4.out]; omega, rfl, by go_num, HO5⟩
          case measure => simp [intOf]; omega
        · obtain rfl : j = 8 := by omega
          have HF := Lib.hid (show Own w wr (.slice A4 L4 c4) (bs ++ Sha.tail n) by
            have := HO4.out
            rw [List.append_assoc] at this
            exact this)
          clear HO4
          go_wp2_with fail
          go_ret
          exact ⟨_, rfl, HF.out⟩
end Go.Proofs.Ytepcbnkhfiphdaa
