/- The walks of New, Seal, Open (crc). Conditions: each theorem's premises. -/
import Derived.Test.YtaebmhbggbpnoaaGCrc2
import Derived.Test.YtaebmhbggbpnoaaGTlv5
namespace Go.Proofs.Ytaebmhbggbpnoaa
open Go.RowKit
theorem zero171 : Try.zeroCells171.toList = [.int .u32 0, .int .i32 0, .int .u32 0] ++ List.replicate 256 (.int .u32 0) ++ [.int .i64 0] := by kernel_rfl
set_option maxRecDepth 100000 in
theorem zero171_at (i : Nat) : Try.zeroCells171[i]? = ([.int .u32 0, .int .i32 0, .int .u32 0] ++ List.replicate 256 (.int .u32 0) ++ [.int .i64 0] : List Value)[i]? := by
  rw [← zero171, Array.getElem?_toList]
set_option maxRecDepth 100000 in
theorem tb_new (w : World) : Tb (w.alloc (.cells Try.zeroCells171 171)) w.heap.size 0 0 (fun _ => 0) 0 := by
  have hB := Blk.new w 171 Try.zeroCells171
  refine ⟨?_, ?_, fun i hi => ?_, ?_, fun i => hB.frozen i⟩
  · rw [hB.cell, zero171_at]; rfl
  · rw [hB.cell, zero171_at]; rfl
  · rw [hB.cell, zero171_at, List.append_assoc, List.getElem?_append_right (by simp), List.getElem?_append_left (by simp; omega)]
    rw [List.getElem?_replicate, if_pos (by simp; omega)]
    rfl
  · rw [hB.cell, zero171_at, List.getElem?_append_right (by simp)]
    simp
set_option maxRecDepth 100000 in
theorem new_any (w : World) :
    Calls Try.prog 32 #[] w fun e w' => e = .returned (.pointer (some ⟨w.heap.size, 0, none⟩)) ∧ Tb w' w.heap.size 0 0 (fun _ => 0) 0 ∧ Below w.heap.size w w' := by
  have HT := Lib.hid (tb_new w)
  go_enter Try.func32, Try.ntmps32
  go_wp2_with fail
  go_ret
  exact ⟨rfl, HT.out, (Below.refl _ _).alloc (Nat.le_refl _) _⟩
theorem byte_of (s k : Nat) : ((UInt8.ofNat (s / k)).toNat : Int) = ((s / k : Nat) : Int) % 256 := by
  rw [UInt8.toNat_ofNat']; omega
theorem bs_four (w : World) (t : TypeId) (s : Nat) (hs : s < 4294967296) : Bs (w.alloc (.cells #[.int .u8 ((s : Int) % 256), .int .u8 ((s : Int) / 256 % 256), .int .u8 ((s : Int) / 65536 % 256), .int .u8 ((s : Int) / 16777216)] t)) AnyB (some ⟨w.heap.size, 0, none⟩) 4 4 (Crc.le32 s) := by
  refine ⟨rfl, Nat.le_refl _, rfl, fun _ => ⟨_, rfl, trivial, fun j u hu => ?_⟩⟩
  rw [add_plain, World.cell?_alloc_new]
  have e0 := byte_of s 1
  have e1 := byte_of s 256
  have e2 := byte_of s 65536
  have e3 := byte_of s 16777216
  simp only [Nat.div_one] at e0
  match j, hu with
  | 0, hu => simp [u8s, u8v, Crc.le32] at hu ⊢; rw [← hu]
  | 1, hu => simp [u8s, u8v, Crc.le32] at hu ⊢; rw [← hu]
  | 2, hu => simp [u8s, u8v, Crc.le32] at hu ⊢; rw [← hu]
  | 3, hu => simp [u8s, u8v, Crc.le32] at hu ⊢; rw [← hu]; congr 1; omega
  | j + 4, hu => simp [u8s, u8v, Crc.le32] at hu
set_option maxRecDepth 10000 in
set_option maxHeartbeats 1000000 in
/-- Seal. -/
theorem seal_any (w : World) (g : Nat) (d : Int) (h : Tbl w g d) (S : Nat → Prop) (A : Option Addr) (n c : Nat) (bs : List UInt8) (hx : Bs w S A n c bs) (hS : ∀ k, S k → k < w.heap.size → k ≠ g)
    (hd : 0 ≤ d ∧ d ≤ 1000000000000) (hn : n ≤ 100000000) :
    Calls Try.prog 41 #[.pointer (some ⟨g, 0, none⟩), .slice A n c] w fun e w' => ∃ A' c', e = .returned (.slice A' (n + 4) c') ∧ w'.ownsRow w.heap.size 5 1 (.slice A' (n + 4) c') (n + 4) (u8s (Crc.seal_ bs)) ∧ Tb w' g 1 0 Crc.row (d + (n : Int)) ∧ w.grownBy w' (some g) := by
  have HC := Lib.hid (sum_any w g d h S A n c bs hx hS hd (by omega))
  have HX := Lib.hid hx
  have HS := Lib.hid hS
  obtain ⟨i0, hi0, hz0, hz1, hz2⟩ := info_parts Try.info5
  have hgl : g < w.heap.size := by rcases h with h | ⟨f, h⟩ <;> exact h.lt
  obtain ⟨s, hs⟩ : ∃ s, s = Crc.sum bs := ⟨_, rfl⟩
  have hsl : s < 4294967296 := by rw [hs]; exact Crc.sum_lt bs
  rw [← hs] at HC
  have HSum := Lib.hid hs
  clear h hx hS hd hs
  go_enter Try.func41, Try.ntmps41
  go_wp2_with fail
  refine (HC.out).mono ?_
  rintro e w1 ⟨rfl, hT, hg⟩
  have HF := Lib.hid (And.intro hT hg)
  have hx1 := HX.out.only hg HS.out
  have hsz := hg.size
  clear hT hg HC
  go_wp2_with fail
  refine (clone_any w1 S A n c bs hx1 (by omega)).mono ?_
  rintro e w2 ⟨A', c', rfl, hown, hb⟩
  have HO := Lib.hid (And.intro hown hb)
  have hs2 := hb.size
  clear hown hb hx1
  have hsl' : (s : Int) < 4294967296 := by omega
  have HB4 := Lib.hid (bs_four w2 5 s hsl)
  go_wp2_with (at_builtin; go_must (refine wpList_append_u8 rfl (.tmp 12) (.tmp 24) rfl (base := w1.heap.size) (v := .slice A' n c') (n := n) (xs := bs) rfl (own_below HO.out.1 ((Below.refl _ _).alloc (Nat.le_refl _) _) (Nat.le_refl _)) (m := 4) (c := 4) (ys := Crc.le32 s) rfl HB4.out (by omega) (by simp; omega) ?_); intro v' w3 hown3 hg3 hat3)
  obtain ⟨A3, c3, rfl, -⟩ := own_shape hown3
  have hb13 : Below w1.heap.size w1 w3 := Below.grown (HO.out.2.alloc HO.out.2.size _) hg3 (by simp; omega) (own_base HO.out.1)
  have hfin : w3.ownsRow w.heap.size 5 1 (.slice A3 (n + 4) c3) (n + 4) (u8s (Crc.seal_ bs)) := by
    have : Crc.seal_ bs = bs ++ Crc.le32 s := by rw [HSum.out]; rfl
    rw [this]
    exact own_base' hown3 hsz
  have HQ := Lib.hid (And.intro hfin (And.intro (HF.out.1.after hb13) (only_trans HF.out.2 (only_of_below hb13 _))))
  clear hfin hb13 hown3 hg3 hat3
  go_ret
  exact ⟨A3, c3, rfl, HQ.out⟩
end Go.Proofs.Ytaebmhbggbpnoaa
namespace Go.Proofs.Ytaebmhbggbpnoaa
open Go.RowKit
set_option maxHeartbeats 400000 in
theorem equal_any (w : World) (S S' : Nat → Prop) (A A' : Option Addr) (n n' c c' : Nat) (xs ys : List UInt8) (hx : Bs w S A n c xs) (hy : Bs w S' A' n' c' ys) (hn : n ≤ 1000000000) (hn' : n' ≤ 1000000000) :
    Calls Try.prog 95 #[.slice A n c, .slice A' n' c'] w fun e w' => e = .returned (.bool (decide (xs = ys))) ∧ ∃ k, w' = w.drewN k := by
  have hlx := hx.len
  have hly := hy.len
  by_cases hne : n = n'
  · subst hne
    have Hlx := Lib.hid hlx
    have Hly := Lib.hid hly
    clear hlx hly
    go_enter Try.func95, Try.ntmps95
    go_wp2
    go_loopw [13] (fun i wr => ∃ k m : Nat, k ≤ n ∧ i = .int .i64 k ∧ Hid (xs.take k = ys.take k) ∧ wr = w.drewN m) (fun i _ => n - (intOf i).toNat)
    case atStart => exact ⟨0, 0, Nat.zero_le _, rfl, Lib.hid (by simp), rfl⟩
    case round =>
      obtain ⟨k, m, hk, rfl, he, rfl⟩ := hrel
      by_cases hlt : k < n
      · obtain ⟨ad, a, rfl, ha, h1⟩ := hx.at_ hlt
        obtain ⟨ad', b, rfl, hb, h2⟩ := hy.at_ hlt
        by_cases hd : a = b
        · subst hd
          have he' : Hid (xs.take (k + 1) = ys.take (k + 1)) := Lib.hid (by rw [take_snoc ha.out, take_snoc hb.out, he.out])
          go_wp2
          go_quiet (fail)
          go_wp2
          go_roundw
          case rel => exact ⟨k + 1, _, by omega, by go_num, he', rfl⟩
          case measure => simp [intOf]; omega
        · have hbb := u8_ne hd
          have hf : Hid (xs ≠ ys) := Lib.hid (by rintro rfl; have := ha.out; rw [hb.out] at this; injection this with this; exact hd this.symm)
          clear hd
          go_wp2
          go_quiet (fail)
          go_wp2
          go_ret
          exact ⟨ret_bool (by simp [hf.out]), _, World.drewN_drewN _ _ _⟩
      · obtain rfl : k = n := by omega
        go_wp2
        go_ret
        refine ⟨ret_bool ?_, _, rfl⟩
        have := he.out
        rw [List.take_of_length_le (by have := Hlx.out; omega), List.take_of_length_le (by have := Hly.out; omega)] at this
        simp [this]
  · have h0 : ((n : Int) != (n' : Int)) = true := by simp; omega
    have Hne : Hid (xs ≠ ys) := Lib.hid (by rintro rfl; omega)
    clear hne
    clear hlx hly
    go_enter Try.func95, Try.ntmps95
    go_wp2
    go_ret
    exact ⟨ret_bool (by simp [Hne.out]), 0, rfl⟩
/-- What bytes open to. -/
def openB (bs : List UInt8) : List UInt8 := if bs.length < 4 then [] else if Crc.seal_ (bs.take (bs.length - 4)) = bs then bs.take (bs.length - 4) else []
def openF (bs : List UInt8) : Int := if bs.length < 4 then 3 else if Crc.seal_ (bs.take (bs.length - 4)) = bs then 0 else 4
theorem tbl_lt {w : World} {g : Nat} {d : Int} (h : Tbl w g d) : g < w.heap.size := by rcases h with h | ⟨f, h⟩ <;> exact h.lt
theorem grown_drewN {a w : World} {row : Option Nat} (h : a.grownBy w row) (n : Nat) : a.grownBy (w.drewN n) row := only_drewN h n
set_option maxRecDepth 10000 in
set_option maxHeartbeats 1000000 in
/-- Open. -/
theorem open_any (w : World) (g : Nat) (d : Int) (h : Tbl w g d) (S : Nat → Prop) (A : Option Addr) (n c : Nat) (bs : List UInt8) (hx : Bs w S A n c bs) (hS : ∀ k, S k → k < w.heap.size → k ≠ g)
    (hd : 0 ≤ d ∧ d ≤ 1000000000000) (hn : n ≤ 100000000) :
    Calls Try.prog 39 #[.pointer (some ⟨g, 0, none⟩), .slice A n c] w fun e w' => ∃ A' n' c', e = .returned (.tuple #[.slice A' n' c', .int .i64 (openF bs)]) ∧ Bs w' (fun k => w.heap.size ≤ k) A' n' c' (openB bs) ∧ Tbl w' g (d + ((n - 4 : Nat) : Int)) ∧ w.grownBy w' (some g) := by
  by_cases h4 : n < 4
  · have H := Lib.hid h
    have e1 : openF bs = 3 := by unfold openF; rw [if_pos (by rw [hx.len]; exact h4)]
    have e2 : openB bs = [] := by unfold openB; rw [if_pos (by rw [hx.len]; exact h4)]
    rw [e1, e2]
    have hlt : (n : Int) < 4 := by omega
    clear e1 e2 hx hS h
    go_enter Try.func39, Try.ntmps39
    go_wp2_with fail
    go_ret2
    exact ⟨none, 0, 0, rfl, Bs.nil _ _ _, by rw [show n - 4 = 0 from by omega]; simpa using H.out, World.grownBy.refl _ _⟩
  · obtain ⟨k, hk⟩ : ∃ k, n = k + 4 := ⟨n - 4, by omega⟩
    obtain ⟨A1, c1, hsl, hx1⟩ := hx.upto ((n : Int) - 4) k (by omega) (by omega)
    have HC := Lib.hid (seal_any w g d h S A1 k c1 _ hx1 hS hd (by omega))
    have HX := Lib.hid hx
    have HX1 := Lib.hid hx1
    have HS := Lib.hid hS
    have hgl := tbl_lt h
    have hge : (4 : Int) ≤ (n : Int) := by omega
    have HK := Lib.hid hk
    have hkn : k ≤ n := by omega
    have hlk : bs.length - 4 = k := by rw [hx.len]; omega
    have hF : openF bs = if Crc.seal_ (bs.take k) = bs then 0 else 4 := by unfold openF; rw [if_neg (by rw [hx.len]; exact h4), hlk]
    have hB : openB bs = if Crc.seal_ (bs.take k) = bs then bs.take k else [] := by unfold openB; rw [if_neg (by rw [hx.len]; exact h4), hlk]
    have HFF := Lib.hid (And.intro hF hB)
    clear h hx hS hd h4 hx1 hk hF hB hlk
    have hnot : ∀ (x : Bool) (w : World), (Op.unary .not (.bool x)).run Try.prog w = .ok (.bool (!x)) w := fun _ _ => rfl
    go_enter Try.func39, Try.ntmps39
    go_wp2_with fail
    refine (HC.out).mono ?_
    rintro e w1 ⟨A2, c2, rfl, hown, hT, hg⟩
    have HF := Lib.hid (And.intro hown (And.intro hT hg))
    have hsz := hg.size
    clear hown hT hg HC
    go_wp2_with fail
    refine (equal_any w1 _ S A2 A (k + 4) n c2 c _ bs ⟨by simp [Crc.seal_, Crc.le32, HX1.out.len], (own_shape HF.out.1).elim fun A => (fun ⟨c, e, h⟩ => by cases e; exact h), Reads.of_own HF.out.1⟩ (HX.out.only HF.out.2.2 HS.out) (by omega) (by omega)).mono ?_
    rintro e w2 ⟨rfl, m, rfl⟩
    by_cases heq : Crc.seal_ (bs.take k) = bs
    · have e1 : decide (Crc.seal_ (bs.take k) = bs) = true := by simp [heq]
      rw [e1]
      have HQ : Hid (openF bs = 0 ∧ openB bs = bs.take k) := Lib.hid ⟨by rw [HFF.out.1, if_pos heq], by rw [HFF.out.2, if_pos heq]⟩
      have HX2 := Lib.hid (HX1.out.only HF.out.2.2 HS.out)
      clear heq e1
      go_wp2_with fail
      refine (clone_any (w1.drewN m) S A1 k c1 _ ⟨HX2.out.len, HX2.out.cap, HX2.out.rd⟩ (by omega)).mono ?_
      rintro e w3 ⟨A3, c3, rfl, hown3, hb3⟩
      have HO := Lib.hid (And.intro hown3 hb3)
      clear hown3 hb3
      go_wp2_with fail
      go_ret2
      rw [HQ.out.1, HQ.out.2]
      obtain ⟨A4, c4, e4, hbs⟩ := own_bs HO.out.1
      cases e4
      refine ⟨A3, k, c3, rfl, hbs.mono (fun j hj => by simp at hj; omega), .inl ?_, only_trans (only_drewN HF.out.2.2 m) (only_of_below HO.out.2 _)⟩
      have hT3 : Tb w3 g 1 0 Crc.row (d + (k : Int)) := Tb.after (w := w1.drewN m) (HF.out.2.1.keep (fun _ => rfl) (fun _ => rfl)) HO.out.2
      rw [show n - 4 = k from by have := HK.out; omega]
      exact hT3
    · have e1 : decide (Crc.seal_ (bs.take k) = bs) = false := by simp [heq]
      rw [e1]
      have HQ : Hid (openF bs = 4 ∧ openB bs = []) := Lib.hid ⟨by rw [HFF.out.1, if_neg heq], by rw [HFF.out.2, if_neg heq]⟩
      clear heq e1
      go_wp2_with fail
      go_ret2
      rw [HQ.out.1, HQ.out.2]
      refine ⟨none, 0, 0, rfl, Bs.nil _ _ _, .inl ?_, only_drewN HF.out.2.2 m⟩
      rw [show n - 4 = k from by have := HK.out; omega]
      exact HF.out.2.1.keep (fun _ => rfl) (fun _ => rfl)
end Go.Proofs.Ytaebmhbggbpnoaa
namespace Go.Proofs.Ytaebmhbggbpnoaa
open Go.RowKit
theorem neg_u32' (r : Nat) (hr : r < 4294967296) : bits .xor .u32 IntKind.u32.max (r : Int) = ((Crc.neg r : Nat) : Int) := neg_u32 r hr
set_option maxRecDepth 10000 in
set_option maxHeartbeats 2000000 in
theorem rmore_any (w : World) (r : Nat) (hr : r < 4294967296) (S : Nat → Prop) (A : Option Addr) (n c : Nat) (bs : List UInt8) (hx : Bs w S A n c bs) (hn : n ≤ 1000000000) :
    Calls Try.prog 37 #[.int .u32 (r : Int), .slice A n c] w fun e w' => e = .returned (.int .u32 ((Crc.more r bs : Nat) : Int)) ∧ w = w' := by
  have HX := Lib.hid hx
  have HR := Lib.hid (Crc.neg_lt hr)
  have n0 : IntKind.u32.signed = false := rfl
  have n1 := neg_u32 r hr
  clear hx
  go_enter Try.func37, Try.ntmps37
  go_wp2_with fail
  go_loop [5, 6] (fun v5 v6 => ∃ k y : Nat, k ≤ n ∧ v6 = .int .i64 (k : Int) ∧ v5 = .int .u32 (y : Int) ∧ y < 4294967296 ∧ Hid (y = Crc.run (Crc.neg r) (bs.take k))) (fun _ v6 => n - (intOf v6).toNat)
  case atStart => exact ⟨0, Crc.neg r, by omega, rfl, rfl, HR.out, Lib.hid rfl⟩
  case round =>
    obtain ⟨k, y, hk, rfl, rfl, hy, HY⟩ := hrel
    clear n1
    by_cases hlt : k < n
    · obtain ⟨ad, b, rfl, Hb, hc⟩ := HX.out.at_ hlt
      have hb := u8_lt b
      have hbn := b.toNat_lt
      have e1 := crc_xor (a := y) (b := b.toNat) hy (by omega)
      have hyb : y ^^^ b.toNat < 4294967296 := Nat.xor_lt_two_pow (n := 32) hy (by omega)
      have hlt' : (k : Int) < (n : Int) := by omega
      go_wp2_with fail
      go_loop [5, 7] (fun v5 v7 => ∃ j z : Nat, j ≤ 8 ∧ v7 = .int .i64 (j : Int) ∧ v5 = .int .u32 (z : Int) ∧ z < 4294967296 ∧ Hid (z = Crc.down j (y ^^^ b.toNat))) (fun _ v7 => 8 - (intOf v7).toNat)
      case atStart => exact ⟨0, y ^^^ b.toNat, by omega, rfl, rfl, hyb, Lib.hid rfl⟩
      case round =>
        obtain ⟨j, z, hj, rfl, rfl, hz, HZ⟩ := hrel
        clear e1 hyb
        by_cases hl2 : j < 8
        · have hl2' : (j : Int) < 8 := by omega
          have Hd := Lib.hid (Crc.down_half j (y ^^^ b.toNat))
          have e2 := crc_xor (a := z / 2) (b := 2197175160) (by omega) (by omega)
          have e3 : bits .xor .u32 ((z : Int) / 2) 2197175160 = ((z / 2 ^^^ 2197175160 : Nat) : Int) := e2
          clear e2
          have hz' : (z : Int) < 4294967296 := by omega
          by_cases h1 : z % 2 = 1
          · have hh : Crc.half z = z / 2 ^^^ 2197175160 := by unfold Crc.half; rw [if_pos h1]; rfl
            have HH := Lib.hid hh
            have h1' : ((z : Int) % 2 == 1) = true := by rw [beq_iff_eq]; omega
            clear hh h1
            go_wp2_with fail
            go_round
            case rel => exact ⟨j + 1, Crc.half z, by omega, by go_num, by rw [HH.out], Crc.half_lt (k := 32) (by omega) hz, Lib.hid (by rw [HZ.out, ← Hd.out]; rfl)⟩
            case measure => simp [intOf]; omega
          · have hh : Crc.half z = z / 2 := by unfold Crc.half; rw [if_neg h1]
            have HH := Lib.hid hh
            have h1' : ((z : Int) % 2 == 1) = false := by rw [beq_eq_false_iff_ne]; omega
            clear hh h1
            go_wp2_with fail
            go_round
            case rel => exact ⟨j + 1, Crc.half z, by omega, by go_num, by rw [HH.out]; rfl, Crc.half_lt (k := 32) (by omega) hz, Lib.hid (by rw [HZ.out, ← Hd.out]; rfl)⟩
            case measure => simp [intOf]; omega
        · obtain rfl : j = 8 := by omega
          go_wp2_with fail
          go_round
          case rel => exact ⟨k + 1, z, by omega, by go_num, rfl, hz, Lib.hid (by rw [HZ.out, HY.out, take_snoc Hb.out, Crc.run_snoc])⟩
          case measure => simp [intOf]; omega
    · obtain rfl : k = n := by omega
      have hY := HY.out
      rw [List.take_of_length_le (by rw [HX.out.len]; omega)] at hY
      have e4 : Crc.neg y = Crc.more r bs := by rw [hY]; rfl
      have HY2 := Lib.hid e4
      have n2 := neg_u32 y hy
      clear hY e4
      go_wp2_with fail
      go_ret
      exact ⟨by rw [← HY2.out]; rfl, rfl⟩
theorem rsum_any (w : World) (S : Nat → Prop) (A : Option Addr) (n c : Nat) (bs : List UInt8) (hx : Bs w S A n c bs) (hn : n ≤ 1000000000) :
    Calls Try.prog 35 #[.slice A n c] w fun e w' => e = .returned (.int .u32 ((Crc.sum bs : Nat) : Int)) ∧ w = w' := by
  have HC := Lib.hid (rmore_any w 0 (by omega) S A n c bs hx hn)
  clear hx
  go_enter Try.func35, Try.ntmps35
  go_wp2_with fail
  refine (HC.out).mono ?_
  rintro e w' ⟨rfl, rfl⟩
  go_wp2_with fail
  go_ret
  exact ⟨rfl, rfl⟩
end Go.Proofs.Ytaebmhbggbpnoaa
namespace Go.Proofs.Ytaebmhbggbpnoaa
open Go.RowKit
set_option maxRecDepth 10000 in
set_option maxHeartbeats 1000000 in
theorem rseal_any (w : World) (S : Nat → Prop) (A : Option Addr) (n c : Nat) (bs : List UInt8) (hx : Bs w S A n c bs) (hn : n ≤ 100000000) :
    Calls Try.prog 42 #[.slice A n c] w fun e w' => ∃ A' c', e = .returned (.slice A' (n + 4) c') ∧ w'.ownsRow w.heap.size 5 1 (.slice A' (n + 4) c') (n + 4) (u8s (Crc.seal_ bs)) ∧ Below w.heap.size w w' := by
  have HC := Lib.hid (rsum_any w S A n c bs hx (by omega))
  have HX := Lib.hid hx
  obtain ⟨s, hs⟩ : ∃ s, s = Crc.sum bs := ⟨_, rfl⟩
  have hsl : s < 4294967296 := by rw [hs]; exact Crc.sum_lt bs
  have hsl' : (s : Int) < 4294967296 := by omega
  rw [← hs] at HC
  have HSum := Lib.hid hs
  clear hx hs
  go_enter Try.func42, Try.ntmps42
  go_wp2_with fail
  refine (HC.out).mono ?_
  rintro e w' ⟨rfl, rfl⟩
  clear HC
  have tok1 : True := trivial
  go_wp2_with (at_builtin; (first | (have _t := tok1; refine wpList_append_u8 rfl (.tmp 6) (.tmp 7) rfl (base := w.heap.size) (v := .slice (some ⟨w.heap.size, 0, none⟩) 0 0) (n := 0) (xs := []) rfl (World.ownsRow_made w #[] 0 (Nat.le_refl _) (by simp [maxLen]) rfl : World.ownsRow _ _ _ _ _ _ (u8s [])) (m := n) (c := c) (ys := bs) rfl (HX.out.after ((Below.refl _ _).alloc (Nat.le_refl _) _)) (by omega) (by simp) ?_; intro v1 w1 hown1 hg1 hat1; clear tok1; simp only [Nat.zero_add, List.nil_append] at hown1; obtain ⟨A1, c1, rfl, _⟩ := own_shape hown1; have HO := Lib.hid (And.intro hown1 (((Below.refl w.heap.size w).alloc (Nat.le_refl _) _).grown hg1 (by simp) (by simp [Value.ownBlock]))); clear hown1 hg1 hat1; have HB4 := Lib.hid (bs_four w1 5 s hsl)) | go_loud (refine wpList_append_u8 rfl (.tmp 8) (.tmp 20) rfl (base := w.heap.size) (v := .slice A1 n c1) (n := n) (xs := bs) rfl (own_below HO.out.1 ((Below.refl _ _).alloc (Nat.le_refl _) _) (Nat.le_refl _)) (m := 4) (c := 4) (ys := Crc.le32 s) rfl HB4.out (by omega) (by have := HO.out.2.size; simp; omega) ?_; intro v3 w3 hown3 hg3 hat3; have HQ := Lib.hid (And.intro hown3 (Below.grown (HO.out.2.alloc HO.out.2.size _) hg3 (by have := HO.out.2.size; simp; omega) (own_base HO.out.1))); clear hown3 hg3 hat3)))
  obtain ⟨A3, c3, rfl, -⟩ := own_shape HQ.out.1
  have hfin : Crc.seal_ bs = bs ++ Crc.le32 s := by rw [HSum.out]; rfl
  have HF := Lib.hid hfin
  clear hfin
  go_ret
  exact ⟨A3, c3, rfl, by rw [HF.out]; exact HQ.out.1, HQ.out.2⟩
set_option maxRecDepth 10000 in
set_option maxHeartbeats 1000000 in
theorem ropen_any (w : World) (S : Nat → Prop) (A : Option Addr) (n c : Nat) (bs : List UInt8) (hx : Bs w S A n c bs) (hn : n ≤ 100000000) :
    Calls Try.prog 40 #[.slice A n c] w fun e w' => ∃ A' n' c', e = .returned (.tuple #[.slice A' n' c', .int .i64 (openF bs)]) ∧ Bs w' (fun k => w.heap.size ≤ k) A' n' c' (openB bs) ∧ Below w.heap.size w w' := by
  by_cases h4 : n < 4
  · have e1 : openF bs = 3 := by unfold openF; rw [if_pos (by rw [hx.len]; exact h4)]
    have e2 : openB bs = [] := by unfold openB; rw [if_pos (by rw [hx.len]; exact h4)]
    have HE := Lib.hid (And.intro e1 e2)
    have hlt : (n : Int) < 4 := by omega
    clear e1 e2 hx
    go_enter Try.func40, Try.ntmps40
    go_wp2_with fail
    go_ret2
    rw [HE.out.1, HE.out.2]
    exact ⟨none, 0, 0, rfl, Bs.nil _ _ _, Below.refl _ _⟩
  · obtain ⟨k, hk⟩ : ∃ k, n = k + 4 := ⟨n - 4, by omega⟩
    obtain ⟨A1, c1, hsl, hx1⟩ := hx.upto ((n : Int) - 4) k (by omega) (by omega)
    have HC := Lib.hid (rseal_any w S A1 k c1 _ hx1 (by omega))
    have HX := Lib.hid hx
    have hge : (4 : Int) ≤ (n : Int) := by omega
    have HK := Lib.hid hk
    have hkn : k + 4 ≤ n := by omega
    have hkn' : n ≤ k + 4 := by omega
    have ek : (n : Int) - 4 = (k : Int) := by omega
    have hlk : bs.length - 4 = k := by rw [hx.len]; omega
    have hF : openF bs = if Crc.seal_ (bs.take k) = bs then 0 else 4 := by unfold openF; rw [if_neg (by rw [hx.len]; exact h4), hlk]
    have hB : openB bs = if Crc.seal_ (bs.take k) = bs then bs.take k else [] := by unfold openB; rw [if_neg (by rw [hx.len]; exact h4), hlk]
    have HFF := Lib.hid (And.intro hF hB)
    have hst : (Crc.seal_ (bs.take k)).take k = bs.take k := by
      unfold Crc.seal_
      rw [List.take_append_of_le_length (by rw [List.length_take, hx.len]; omega), List.take_take, Nat.min_self]
    have HST := Lib.hid hst
    have hlen : (Crc.seal_ (bs.take k)).length = k + 4 := by unfold Crc.seal_; rw [List.length_append, List.length_take, hx.len]; simp [Crc.le32]; omega
    have HL := Lib.hid hlen
    rw [ek] at hsl
    clear hx h4 hx1 hk hF hB hlk hst hlen
    go_enter Try.func40, Try.ntmps40
    have ek2 := ek
    clear ek
    go_wp2_with fail
    refine (HC.out).mono ?_
    rintro e w1 ⟨A2, c2, rfl, hown, hb⟩
    have HO := Lib.hid (And.intro hown hb)
    obtain ⟨A3, c3, e3, hbs⟩ := own_bs hown
    cases e3
    have HX2 := Lib.hid (HX.out.after hb)
    have HB := Lib.hid hbs
    clear hown hb hbs HC
    have H2 := Lib.hid ek2
    go_wp2_with fail
    clear ek2
    go_loopw [6] (fun v6 wr => ∃ i m : Nat, k ≤ i ∧ i ≤ n ∧ v6 = .int .i64 (i : Int) ∧ Hid ((Crc.seal_ (bs.take k)).take i = bs.take i) ∧ wr = w1.drewN m) (fun v6 _ => n - (intOf v6).toNat)
    case atStart => exact ⟨k, 0, Nat.le_refl _, by omega, rfl, Lib.hid (by rw [HST.out]), rfl⟩
    case round =>
      obtain ⟨i, m, hki, hin, rfl, HE, rfl⟩ := hrel
      by_cases hlt : i < n
      · obtain ⟨ad, b, rfl, Hb, h1⟩ := HX2.out.at_ hlt
        obtain ⟨ad', b', rfl, Hb', h2⟩ := HB.out.at_ (k := i) (by omega)
        have hlt' : (i : Int) < (n : Int) := by omega
        have hlt2 : (i : Int) < (k : Int) + 4 := by omega
        by_cases hd : b' = b
        · subst hd
          have HE' : Hid ((Crc.seal_ (bs.take k)).take (i + 1) = bs.take (i + 1)) := Lib.hid (by rw [take_snoc Hb.out, take_snoc Hb'.out, HE.out])
          go_wp2_with fail
          go_quiet (fail)
          go_wp2_with fail
          go_roundw
          case rel => exact ⟨i + 1, _, by omega, by omega, by go_num, HE', rfl⟩
          case measure => simp [intOf]; omega
        · have hbb := u8_ne hd
          have hne : ¬ Crc.seal_ (bs.take k) = bs := fun e => by
            have h3 := Hb'.out
            rw [e, Hb.out] at h3
            injection h3 with h3
            exact hd h3.symm
          have HQ : Hid (openF bs = 4 ∧ openB bs = []) := Lib.hid ⟨by rw [HFF.out.1, if_neg hne], by rw [HFF.out.2, if_neg hne]⟩
          clear hd hne
          go_wp2_with fail
          go_quiet (fail)
          go_wp2_with fail
          go_ret2
          rw [HQ.out.1, HQ.out.2]
          exact ⟨none, 0, 0, rfl, Bs.nil _ _ _, by simpa using below_drewN HO.out.2 _⟩
      · obtain rfl : i = n := by omega
        have heq : Crc.seal_ (bs.take k) = bs := by
          have h3 := HE.out
          have g1 : (Crc.seal_ (bs.take k)).take i = Crc.seal_ (bs.take k) := List.take_of_length_le (by rw [HL.out]; omega)
          have g2 : bs.take i = bs := List.take_of_length_le (by rw [HX.out.len]; omega)
          exact g1.symm.trans (h3.trans g2)
        have HQ : Hid (openF bs = 0 ∧ openB bs = bs.take k) := Lib.hid ⟨by rw [HFF.out.1, if_pos heq], by rw [HFF.out.2, if_pos heq]⟩
        obtain ⟨A4, c4, hsl2, hx4⟩ := HB.out.upto (k : Int) k rfl (by omega)
        have HX4 := Lib.hid hx4
        clear heq hx4
        go_wp2_with fail
        go_ret2
        rw [HQ.out.1, HQ.out.2]
        refine ⟨A4, k, c4, rfl, ?_, below_drewN HO.out.2 _⟩
        have h5 := HX4.out
        rw [HST.out] at h5
        exact ⟨h5.len, h5.cap, h5.rd⟩
end Go.Proofs.Ytaebmhbggbpnoaa
