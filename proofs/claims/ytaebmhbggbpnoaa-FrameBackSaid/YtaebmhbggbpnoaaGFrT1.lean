/- A frame of which bits are turned, as plain data; lists of one and two records laid by a law. Conditions: each theorem's premises. -/
import Derived.Test.YtaebmhbggbpnoaaGFrA1
import Derived.Test.YtaebmhbggbpnoaaGFr11
namespace Go.Proofs.Ytaebmhbggbpnoaa
open Go.RowKit
theorem bodyT_le {d : Nat} {v : TV} {x : List UInt8} (h : bodyT d v = some x) : x.length ≤ 65535 := by
  cases v with
  | mk t n b l =>
    cases d with
    | zero =>
      unfold bodyT at h
      split at h
      · obtain ⟨rfl, h2⟩ := fitT_some h
        exact h2
      · cases h
    | succ d =>
      unfold bodyT at h
      split at h
      · rw [Option.bind_eq_some_iff] at h
        obtain ⟨y, -, h⟩ := h
        obtain ⟨rfl, h2⟩ := fitT_some h
        exact h2
      · cases h
theorem frT_turned {k : Nat} {nm bs ys : List UInt8} (hk : k ≤ 9) (hn : nm.length = 32) (hb : bs.length ≤ 5000) (hl : ys.length = (frE k nm bs).length) (h3 : ys.take 3 = (frE k nm bs).take 3) (ho : openF ys = 4) : frT ys = .bad 4 ∨ frT ys = .bad 16 := by
  unfold frT
  cases hr : readT 8 ys with
  | none => exact .inr rfl
  | some p =>
    obtain ⟨v, rest⟩ := p
    left
    obtain ⟨-, x, hx, e⟩ := put_read 8 ys rest v hr
    have hxl := bodyT_le hx
    have h8 := numE_small hk
    have hrl := recX_len (k := k) (nm := nm) (bs := bs) hn
    have hE : (frE k nm bs).take 3 = headT 3 (recX k nm bs) := by
      unfold frE Crc.seal_ recE
      rw [List.append_assoc, List.take_append_of_le_length (by simp [headT]), List.take_of_length_le (by simp [headT])]
    have hy3 : ys.take 3 = headT v.tag x := by
      rw [e, List.append_assoc, List.take_append_of_le_length (by simp [headT]), List.take_of_length_le (by simp [headT])]
    have hh : headT v.tag x = headT 3 (recX k nm bs) := by rw [← hy3, h3, hE]
    have hxx : x.length = (recX k nm bs).length := by
      unfold headT at hh
      simp only [List.cons.injEq, and_true] at hh
      have h1 := congrArg UInt8.toNat hh.2.1
      have h2 := congrArg UInt8.toNat hh.2.2
      simp only [UInt8.toNat_ofNat'] at h1 h2
      omega
    have hfl : (frE k nm bs).length = (recX k nm bs).length + 7 := by rw [frE_len]; simp only [recE, List.length_append, headT_len]; omega
    have hrest : rest.length = 4 := by
      have h := congrArg List.length e
      simp only [List.length_append, headT_len] at h
      omega
    simp only
    rw [if_neg (by omega), hrest, Nat.sub_add_cancel (by omega), List.take_length, ho, if_pos (by decide)]
/-! ### Lists of one and of two records that a law lays -/
set_option maxRecDepth 100000 in
theorem fill112 (k k' : Int) (nm nm' : List UInt8) (A A' : Option Addr) (n c n' c' : Nat) (hn : nm.length = 32) (hn' : nm'.length = 32) : ∃ (ie : TypeInfo) (zz : Value), Try.prog.info? 112 = some ie ∧ ie.zero = some zz ∧ ie.size = 34 ∧
    Instr.fill (fun i => some (i * ie.size, ie.size)) ((Array.range (1 * ie.size)).map (zz.cells[· % zz.cells.size]!)) [(0, .agg (RC k nm (.slice A n c)))] = some (RC k nm (.slice A n c)) ∧
    Instr.fill (fun i => some (i * ie.size, ie.size)) ((Array.range (2 * ie.size)).map (zz.cells[· % zz.cells.size]!)) [(0, .agg (RC k nm (.slice A n c))), (1, .agg (RC k' nm' (.slice A' n' c')))] = some (RC k nm (.slice A n c) ++ RC k' nm' (.slice A' n' c')) := by
  obtain ⟨a0, a1, a2, a3, a4, a5, a6, a7, a8, a9, a10, a11, a12, a13, a14, a15, a16, a17, a18, a19, a20, a21, a22, a23, a24, a25, a26, a27, a28, a29, a30, a31, rfl⟩ := list32 nm hn
  obtain ⟨b0, b1, b2, b3, b4, b5, b6, b7, b8, b9, b10, b11, b12, b13, b14, b15, b16, b17, b18, b19, b20, b21, b22, b23, b24, b25, b26, b27, b28, b29, b30, b31, rfl⟩ := list32 nm' hn'
  obtain ⟨i0, hi0, hz0, hz1, hz2⟩ := info_parts (P := Try.prog) (e := 112) (z := .agg #[.int .i64 0, .int .u8 0, .int .u8 0, .int .u8 0, .int .u8 0, .int .u8 0, .int .u8 0, .int .u8 0, .int .u8 0, .int .u8 0, .int .u8 0, .int .u8 0, .int .u8 0, .int .u8 0, .int .u8 0, .int .u8 0, .int .u8 0, .int .u8 0, .int .u8 0, .int .u8 0, .int .u8 0, .int .u8 0, .int .u8 0, .int .u8 0, .int .u8 0, .int .u8 0, .int .u8 0, .int .u8 0, .int .u8 0, .int .u8 0, .int .u8 0, .int .u8 0, .int .u8 0, .slice none 0 0]) (size := 34) (bytes := 64) (by kernel_rfl)
  refine ⟨i0, _, hi0, hz0, hz1, ?_, ?_⟩
  · rw [hz1]; kernel_rfl
  · rw [hz1]; kernel_rfl
theorem rq_one {w : World} {S : Nat → Prop} {k : Int} {nm bs : List UInt8} {A : Option Addr} {n c : Nat} (hn : nm.length = 32) (hx : Bs w S A n c bs) (t : TypeId) : RQ (w.alloc (.cells (RC k nm (.slice A n c)) t)) AnyB (some ⟨w.heap.size, 0, none⟩) 1 1 [⟨k, nm, bs, hn⟩] :=
  ⟨rfl, Nat.le_refl _, fun i hi => by
    obtain rfl : i = 0 := by omega
    exact ⟨_, _, A, n, c, _, rfl, trivial, Lib.hid rfl, rfl, Lib.hid fun j v hv => by rw [add_of_add, add_plain, World.cell?_alloc_new]; simpa using hv, (hx.after ((Below.refl _ _).alloc (Nat.le_refl _) _)).any⟩⟩
theorem rq_two {w : World} {S S' : Nat → Prop} {k k' : Int} {nm bs nm' bs' : List UInt8} {A A' : Option Addr} {n c n' c' : Nat} (hn : nm.length = 32) (hn' : nm'.length = 32) (hx : Bs w S A n c bs) (hx' : Bs w S' A' n' c' bs') (t : TypeId) : RQ (w.alloc (.cells (RC k nm (.slice A n c) ++ RC k' nm' (.slice A' n' c')) t)) AnyB (some ⟨w.heap.size, 0, none⟩) 2 2 [⟨k, nm, bs, hn⟩, ⟨k', nm', bs', hn'⟩] :=
  ⟨rfl, Nat.le_refl _, fun i hi => by
    have hb : Below w.heap.size w (w.alloc (.cells (RC k nm (.slice A n c) ++ RC k' nm' (.slice A' n' c')) t)) := (Below.refl _ _).alloc (Nat.le_refl _) _
    rcases (show i = 0 ∨ i = 1 by omega) with rfl | rfl
    · refine ⟨_, _, A, n, c, _, rfl, trivial, Lib.hid rfl, rfl, Lib.hid fun j v hv => ?_, (hx.after hb).any⟩
      rw [add_of_add, add_plain, World.cell?_alloc_new, Nat.zero_mul, Nat.zero_add, Array.getElem?_append_left (Array.getElem?_eq_some_iff.1 hv).1]
      exact hv
    · refine ⟨_, _, A', n', c', _, rfl, trivial, Lib.hid rfl, rfl, Lib.hid fun j v hv => ?_, (hx'.after hb).any⟩
      rw [add_of_add, add_plain, World.cell?_alloc_new, Array.getElem?_append_right (by rw [RC.size hn]; omega), RC.size hn, show 1 * 34 + j - 34 = j by omega]
      exact hv⟩
end Go.Proofs.Ytaebmhbggbpnoaa
namespace Go.Proofs.Ytaebmhbggbpnoaa
open Go.RowKit
theorem light_one {k : Int} {nm bs : List UInt8} (hn : nm.length = 32) : light [⟨k, nm, bs, hn⟩] = decide (bs.length ≤ 5100) := by simp [light]
set_option maxRecDepth 100000 in
set_option maxHeartbeats 4000000 in
theorem frameTurned_any (w : World) (S : Nat → Prop) (k : Int) (nm : List UInt8) (A : Option Addr) (n c : Nat) (bs : List UInt8) (hn : nm.length = 32) (hx : Bs w S A n c bs) (a : Int) (ha : -9223372036854775808 ≤ a ∧ a ≤ 9223372036854775807) (r : Nat) (hr : r < 4294967296) :
    Calls Try.prog 15 #[.agg (RC k nm (.slice A n c)), .int .i64 a, .int .u32 (r : Int)] w fun e w' => e = .returned (.bool true) ∧ Below w.heap.size w w' := by
  obtain ⟨RV, hRV, HB⟩ := rc_box w 112 k nm (.slice A n c)
  have HRV := Lib.hid hRV
  have HX := Lib.hid hx.old
  have HLEN := Lib.hid hx.len
  have HA := Lib.hid ha
  obtain ⟨ie, zz, hie, hzz, hsz1, hf1, -⟩ := fill112 k k nm nm A A n c n c hn hn
  have HFI := Lib.hid (And.intro hie (And.intro hzz (And.intro hsz1 hf1)))
  have HL := Lib.hid (fun (W : World) (N : Nat) (hN : N = W.heap.size) (hw : Below w.heap.size w W) => hN ▸ flight_any (W.alloc (.cells (RC k nm (.slice A n c)) 112)) AnyB (some ⟨W.heap.size, 0, none⟩) 1 1 [⟨k, nm, bs, hn⟩] (rq_one hn (hx.old.below hw) 112))
  obtain ⟨lg, hlg⟩ : ∃ lg, lg = decide (bs.length ≤ 5100) := ⟨_, rfl⟩
  have HLG := Lib.hid hlg
  rw [light_one, ← hlg] at HL
  rw [← hRV]
  clear hRV hx ha hie hzz hsz1 hf1 hlg
  obtain ⟨W0, hW0⟩ : ∃ W0, W0 = w.alloc (.cells RV 112) := ⟨_, rfl⟩
  have hsz : W0.heap.size = w.heap.size + 1 := by rw [hW0]; simp
  have HB0 := HB.out
  rw [← hW0] at HB0
  have HB1 := Lib.hid HB0
  clear HB0 HB
  go_enter Try.func15, Try.ntmps15
  go_wp2_with (first | (refine wl_rec rfl (.tmp 3) 112 rfl (.inr rfl) rfl (HB1.out _ (hW0 ▸ Below.refl _ _)).1 hn ?_) | (refine wpList_buildSlice rfl 129 112 1 _ rfl (RC k nm (.slice A n c)) ie zz Try.underlying129 HFI.out.1 HFI.out.2.1 (by rw [HFI.out.2.2.1]; omega) (by rw [HFI.out.2.2.1]; omega) (by simp only [List.map_toArray, List.map_cons, List.map_nil]; exact HFI.out.2.2.2) ?_))
  rw [← hW0]
  clear hW0
  have hbW0 : Below w.heap.size w W0 := (HB1.out _ (by rw [← hsz]; exact Below.refl _ _)).2
  obtain ⟨L0, hL0⟩ : ∃ L0, L0 = W0.alloc (.cells (RC k nm (.slice A n c)) 112) := ⟨_, rfl⟩
  have hbL : Below W0.heap.size W0 L0 := by rw [hL0]; exact (Below.refl _ _).alloc (Nat.le_refl _) _
  refine (HL.out W0 _ hsz.symm hbW0).mono ?_
  rintro e w1 ⟨rfl, rfl⟩
  rw [← hL0]
  rw [hsz] at hbL
  have HBL := Lib.hid hbL
  clear hL0 hbL
  have HAL : Hid (∀ W, Below (w.heap.size + 1) W0 W → Calls Try.prog 65 #[] W fun e w' => e = .returned (.bool true) ∧ Below w.heap.size w w') := Lib.hid fun W hW => (falive_any W).mono fun e w' h => ⟨h.1, hbW0.trans ((hW.mono (Nat.le_succ _)).trans (h.2.mono (Nat.le_trans hbW0.size (Nat.le_trans hW.size (Nat.le_refl _)))))⟩
  cases lg with
  | false =>
    go_wp2_with fail
    refine (HAL.out _ HBL.out).mono ?_
    rintro e w2 ⟨rfl, hb2⟩
    have HF := Lib.hid hb2
    clear hb2
    go_wp2_with fail
    go_ret
    exact ⟨rfl, HF.out⟩
  | true =>
    have hbl : bs.length ≤ 5100 := of_decide_eq_true HLG.out.symm
    rw [HLEN.out] at hbl
    by_cases hr0 : r = 0
    · have s3 : ((r : Int) == 0) = true := by rw [beq_iff_eq]; omega
      go_wp2_with fail
      refine (HAL.out _ HBL.out).mono ?_
      rintro e w2 ⟨rfl, hb2⟩
      have HF := Lib.hid hb2
      clear hb2
      go_wp2_with fail
      go_ret
      exact ⟨rfl, HF.out⟩
    · have s3 : ((r : Int) == 0) = false := by rw [beq_eq_false_iff_ne]; omega
      have hrp : 0 < r := by omega
      clear hr0
      go_wp2_with fail
      refine (new_any _).mono ?_
      rintro e w2 ⟨rfl, hT, hb⟩
      obtain ⟨g, hg⟩ : ∃ g, g = L0.heap.size := ⟨_, rfl⟩
      rw [← hg] at hT
      have hgW : W0.heap.size ≤ g := by rw [hg]; rw [hsz]; have := HBL.out.size; omega
      have HN := Lib.hid (On.mk (w0 := W0) (d := 0) ((hsz.symm ▸ HBL.out : Below W0.heap.size W0 L0).trans (hb.mono (by rw [← hg]; exact hgW))) (.inr ⟨_, hT⟩) hgW)
      rw [← hg]
      clear hT hb hg
      have HNB : ∀ {W d}, On W0 W g d → Below (w.heap.size + 1) W0 W := fun h => hsz ▸ h.bel
      go_wp2_with (first | (refine wl_rec rfl (.tmp 3) 112 rfl (.inr rfl) rfl (HB1.out _ (HNB HN.out)).1 hn ?_))
      refine (fown_any w2 k nm A n c hn).mono ?_
      rintro e w3 ⟨rfl, hb3⟩
      have HN3 := Lib.hid (HN.out.below hb3)
      clear hb3 HN
      go_wp2_with fail
      cases hrr : rcRight k n with
      | false =>
        refine (fput_no w3 ⟨g, 0, none⟩ k nm A n c hn hrr).mono ?_
        rintro e w4 ⟨rfl, hb4⟩
        have HN4 := Lib.hid (HN3.out.below hb4)
        clear hb4
        go_wp2_with fail
        refine (HAL.out _ (HNB (HN4.out))).mono ?_
        rintro e w9 ⟨rfl, hb9⟩
        have HF := Lib.hid hb9
        clear hb9
        go_wp2_with fail
        go_ret
        exact ⟨rfl, HF.out⟩
      | true =>
        obtain ⟨hk0, hk9, hn5⟩ : 0 < k ∧ k ≤ 9 ∧ n ≤ 5000 := of_decide_eq_true hrr
        obtain ⟨k, rfl⟩ := Int.eq_ofNat_of_zero_le (show 0 ≤ k by omega)
        have hk0' : 0 < k := by omega
        have hk9' : k ≤ 9 := by omega
        refine (fput_yes w3 g 0 (Lo w.heap.size) k nm A n c bs HN3.out.tab (by omega) hn hk0' hk9' (HX.out.below (hbW0.trans (HN3.out.bel.mono hbW0.size))) hn5).mono ?_
        rintro e w4 ⟨A4, c4, d4, rfl, hown4, ht4, hd4, hd4', hG4⟩
        have hEl : (frE k nm bs).length = (numE k).length + n + 48 := by rw [frE_len, recE_len hn, HLEN.out]
        have h8 := numE_small hk9'
        obtain ⟨L, hL⟩ : ∃ L, L = (frE k nm bs).length := ⟨_, rfl⟩
        rw [← hL] at hown4 hEl ⊢
        have hEl1 : 48 ≤ L ∧ L ≤ 5056 := by omega
        clear hEl
        obtain ⟨x, rfl, hx1, hx2⟩ := own_some hown4 (by omega)
        have hgb : g < w3.heap.size := HN3.out.lt
        have hgx : g < x := Nat.lt_of_lt_of_le HN3.out.lt hx1
        have HN4 := Lib.hid (HN3.out.step ht4 hG4)
        have HW4 := Lib.hid hown4
        have HLL := Lib.hid hL
        clear ht4 hG4 hown4 hL hrr
        have ha1 := HA.out.1
        have ha2 := HA.out.2
        by_cases q1 : a < 24
        · go_wp2_with fail
          refine (HAL.out _ (HNB (HN4.out))).mono ?_
          rintro e w9 ⟨rfl, hb9⟩
          have HF := Lib.hid hb9
          clear hb9
          go_wp2_with fail
          go_ret
          exact ⟨rfl, HF.out⟩
        · by_cases q2 : 8 * (L : Int) - 32 < a
          · go_wp2_with fail
            refine (HAL.out _ (HNB (HN4.out))).mono ?_
            rintro e w9 ⟨rfl, hb9⟩
            have HF := Lib.hid hb9
            clear hb9
            go_wp2_with fail
            go_ret
            exact ⟨rfl, HF.out⟩
          · obtain ⟨a, rfl⟩ := Int.eq_ofNat_of_zero_le (by omega : 0 ≤ a)
            have s1 : ¬ ((a : Int) < 24) := q1
            clear ha1 ha2 q1
            go_wp2_with fail
            have hbas := HN4.out.new
            go_loopw [10] (fun v10 wr => ∃ (i : Nat) (ys : List UInt8), i ≤ 32 ∧ v10 = .int .i64 (i : Int) ∧ Hid (On W0 wr g d4) ∧ Hid (wr.ownsRow w3.heap.size 5 1 (.slice (some ⟨x, 0, none⟩) L c4) L (u8s ys)) ∧ Hid (Crc.le ys = Crc.le (frE k nm bs) ^^^ 2 ^ a * (r % 2 ^ i) ∧ ys.take 3 = (frE k nm bs).take 3)) (fun v10 _ => 32 - (intOf v10).toNat)
            case atStart => exact ⟨0, frE k nm bs, by omega, rfl, HN4, HW4, Lib.hid ⟨by simp [Nat.mod_one], rfl⟩⟩
            case round =>
              obtain ⟨i, ys, hi, rfl, HNr, HWr, HE⟩ := hrel
              clear HN4 HW4
              by_cases hlt : i < 32
              · have hlt' : (i : Int) < 32 := by omega
                have e1 := bit_and (i := i) hr
                by_cases hbit : r / 2 ^ i % 2 = 1
                · rw [hbit] at e1
                  have hk : (a + i) / 8 < L := by omega
                  have hk3 : 3 ≤ (a + i) / 8 := by omega
                  obtain ⟨v, Hv, hc, hf⟩ := own_byte HWr.out hk
                  have HB := Lib.hid hbit
                  have hv := u8_lt v
                  clear hbit
                  go_wp2_with fail
                  go_roundw
                  case rel =>
                    rw [xor_bit]
                    refine ⟨i + 1, ys.set ((a + i) / 8) (v ^^^ UInt8.ofNat (2 ^ ((a + i) % 8))), by omega, by go_num, Lib.hid (HNr.out.far hgx _), Lib.hid (own_set HWr.out _ _), Lib.hid ⟨Crc.le_turn _ _ _ _ _ _ _ HE.out.1 HB.out Hv.out ?_, by rw [List.take_set_of_le hk3]; exact HE.out.2⟩⟩
                    rw [UInt8.toNat_ofNat']
                    have : 2 ^ ((a + i) % 8) ≤ 2 ^ 7 := Nat.pow_le_pow_right (by omega) (by omega)
                    exact Nat.mod_eq_of_lt (Nat.lt_of_le_of_lt this (by decide))
                  case measure => simp [intOf]; omega
                · rw [show r / 2 ^ i % 2 = 0 from by omega] at e1
                  have HB := Lib.hid hbit
                  clear hbit
                  go_wp2_with fail
                  go_roundw
                  case rel => exact ⟨i + 1, ys, by omega, by go_num, HNr, HWr, Lib.hid ⟨Crc.le_stay _ _ _ _ _ HE.out.1 HB.out, HE.out.2⟩⟩
                  case measure => simp [intOf]; omega
              · obtain rfl : i = 32 := by omega
                have hyl : ys.length = L := by have := HWr.out.1; simpa [u8s] using this
                have hLE : L = (recE k nm bs).length + 4 := by rw [HLL.out, frE_len]
                have hQ := openF_turned (recE k nm bs) ys a r (by rw [hyl, hLE]) (by rw [← hLE]; omega) hr (by omega) HE.out.1
                have HT := Lib.hid (frT_turned hk9' hn (by rw [HLEN.out]; exact hn5) (by rw [hyl, HLL.out]) HE.out.2 hQ.1)
                obtain ⟨_, _, e5, hP5⟩ := own_bs HWr.out
                cases e5
                have HP5 := Lib.hid hP5
                clear hP5 hyl hLE hQ
                go_wp2_with fail
                refine (ftake_any wr g d4 _ _ L c4 ys HNr.out.tab (by omega) HP5.out (fun j hj _ => by omega) (by omega)).mono ?_
                intro e w5 he
                obtain ⟨F, hF, hF4⟩ : ∃ F, frT ys = .bad F ∧ (F = 4 ∨ F = 16) := by
                  rcases HT.out with h | h
                  · exact ⟨4, h, .inl rfl⟩
                  · exact ⟨16, h, .inr rfl⟩
                obtain ⟨k9, nm9, b9, m9, f9, rfl, hn9, ho9, hres, d5, ht5, hd5, hd5', hG5⟩ := he.one
                rw [hF] at hres
                obtain ⟨rfl, rfl, rfl, rfl, rfl⟩ := hres
                have HN5 := Lib.hid (HNr.out.step ht5 hG5)
                clear ht5 hG5 he ho9 hn9 hF hd5'
                go_wp2_with (first | (refine wl_storeK rfl (.tmp 11) (.tmp 90) 109 rfl (.inl rfl) rfl rfl (Blk.new _ _ _) rfl noName_len rfl ?_; intro w6 hb6 hf6 hk6; go_must ((have HN6 := Lib.hid (HN5.out.below (((Below.refl _ w5).alloc (Nat.le_refl _) _).trans (hf6 _ (Nat.le_refl _)))))); clear hb6 hf6 hk6) | (refine wl_rec rfl (.tmp 3) 112 rfl (.inr rfl) rfl (HB1.out _ (HNB HN6.out)).1 hn ?_))
                refine (fown_any w6 (k : Int) nm A n c hn).mono ?_
                rintro e w7 ⟨rfl, hb7⟩
                have HN7 := Lib.hid (HN6.out.below hb7)
                clear hb7
                go_wp2_with fail
                refine (fput_nil w7 (k : Int) nm A n c).mono ?_
                rintro e w8 ⟨rfl, hb8⟩
                have HN8 := Lib.hid (HN7.out.below hb8)
                clear hb8
                go_wp2_with fail
                refine (ftake_nil w8 _ L c4).mono ?_
                rintro e w9 ⟨rfl, hb9⟩
                have HN9 := Lib.hid (HN8.out.below hb9)
                clear hb9
                go_wp2_with (first | (refine wl_storeK rfl (.tmp 16) (.tmp 104) 109 rfl (.inl rfl) rfl rfl (Blk.new _ _ _) rfl noName_len rfl ?_; intro w10 hb10 hf10 hk10; go_must ((have HN10 := Lib.hid (HN9.out.below (((Below.refl _ w9).alloc (Nat.le_refl _) _).trans (hf10 _ (Nat.le_refl _)))))); clear hb10 hf10 hk10))
                refine (fscan_nil w10 _ L c4).mono ?_
                rintro e w11 ⟨rfl, hb11⟩
                have HN11 := Lib.hid (HN10.out.below hb11)
                clear hb11
                go_wp2_with fail
                refine (fat_nil w11 _ L c4 0).mono ?_
                rintro e w12 ⟨rfl, hb12⟩
                have HN12 := Lib.hid (HN11.out.below hb12)
                clear hb12
                rcases hF4 with rfl | rfl
                · go_wp2_with (first | (refine wl_storeK rfl (.tmp 22) (.tmp 118) 109 rfl (.inl rfl) rfl rfl (Blk.new _ _ _) rfl noName_len rfl ?_; intro w13 hb13 hf13 hk13; go_must ((have HN13 := Lib.hid (HN12.out.below (((Below.refl _ w12).alloc (Nat.le_refl _) _).trans (hf13 _ (Nat.le_refl _)))))); clear hb13 hf13 hk13))
                  refine (HAL.out _ (HNB HN13.out)).mono ?_
                  rintro e w14 ⟨rfl, hb14⟩
                  have HF := Lib.hid hb14
                  clear hb14
                  go_wp2_with fail
                  go_ret
                  exact ⟨rfl, HF.out⟩
                · go_wp2_with (first | (refine wl_storeK rfl (.tmp 22) (.tmp 118) 109 rfl (.inl rfl) rfl rfl (Blk.new _ _ _) rfl noName_len rfl ?_; intro w13 hb13 hf13 hk13; go_must ((have HN13 := Lib.hid (HN12.out.below (((Below.refl _ w12).alloc (Nat.le_refl _) _).trans (hf13 _ (Nat.le_refl _)))))); clear hb13 hf13 hk13))
                  refine (HAL.out _ (HNB HN13.out)).mono ?_
                  rintro e w14 ⟨rfl, hb14⟩
                  have HF := Lib.hid hb14
                  clear hb14
                  go_wp2_with fail
                  go_ret
                  exact ⟨rfl, HF.out⟩
end Go.Proofs.Ytaebmhbggbpnoaa
