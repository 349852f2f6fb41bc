/- The walk of CrcBursts. Conditions: each theorem's premises. -/
import Derived.Test.YtaebmhbggbpnoaaGCrc8
import Derived.Laws.ShiftsVarLaws
import Derived.Laws.OwnMore
namespace Go.Proofs.Ytaebmhbggbpnoaa
open Go.RowKit
theorem seal_len (us : List UInt8) : (Crc.seal_ us).length = us.length + 4 := by simp [Crc.seal_, Crc.le32]
theorem seal_take (us : List UInt8) : (Crc.seal_ us).take us.length = us := by unfold Crc.seal_; rw [List.take_append_of_le_length (Nat.le_refl _), List.take_length]
theorem openF_seal (us : List UInt8) : openF (Crc.seal_ us) = 0 ∧ openB (Crc.seal_ us) = us := by
  have h4 : ¬ (Crc.seal_ us).length < 4 := by rw [seal_len]; omega
  have ht : (Crc.seal_ us).take ((Crc.seal_ us).length - 4) = us := by rw [seal_len, Nat.add_sub_cancel, seal_take]
  refine ⟨?_, ?_⟩
  · unfold openF; rw [if_neg h4, ht, if_pos rfl]
  · unfold openB; rw [if_neg h4, ht, if_pos rfl]
theorem openF_turned (us ys : List UInt8) (a bits : Nat) (hl : ys.length = us.length + 4) (ha : a + 32 ≤ 8 * (us.length + 4)) (hb : bits < 4294967296) (h0 : bits ≠ 0) (hy : Crc.le ys = Crc.le (Crc.seal_ us) ^^^ 2 ^ a * (bits % 2 ^ 32)) : openF ys = 4 ∧ openB ys = [] := by
  have hne : ¬ Crc.seal_ (ys.take (ys.length - 4)) = ys := fun e => by
    rw [Crc.sealed_run ys (by omega)] at e
    rw [Nat.mod_eq_of_lt hb] at hy
    exact Crc.burst (Crc.seal_ us) ys a bits (by rw [seal_len, hl]) (by rw [seal_len]; exact ha) hb h0 hy (Crc.run_seal us) e
  have h4 : ¬ ys.length < 4 := by omega
  refine ⟨?_, ?_⟩
  · unfold openF; rw [if_neg h4, if_neg hne]
  · unfold openB; rw [if_neg h4, if_neg hne]
theorem bit_and {r i : Nat} (hr : r < 4294967296) : bits .and .u32 ((r : Int) / 2 ^ i) 1 = ((r / 2 ^ i % 2 : Nat) : Int) := by
  have h : r / 2 ^ i < 4294967296 := Nat.lt_of_le_of_lt (Nat.div_le_self _ _) hr
  have := crc_and1 h
  rwa [show ((r / 2 ^ i : Nat) : Int) = (r : Int) / 2 ^ i from by simp] at this
theorem own_byte {w : World} {base n b c : Nat} {xs : List UInt8} (h : w.ownsRow base 5 1 (.slice (some ⟨b, 0, none⟩) n c) n (u8s xs)) {k : Nat} (hk : k < n) : ∃ v : UInt8, Hid (xs[k]? = some v) ∧ w.cell? ⟨b, k, none⟩ = some (.int .u8 (v.toNat : Int)) ∧ w.frozen? ⟨b, k, none⟩ = false := by
  have hl : xs.length = n := by have := h.1; simpa [u8s] using this
  have hc := h.cellAt k (by omega)
  refine ⟨xs[k]'(by omega), Lib.hid (List.getElem?_eq_getElem (by omega)), ?_, h.frozenAt k⟩
  rw [hc]
  simp [u8s, u8v, List.getElem?_eq_getElem (by omega : k < xs.length)]
theorem xor_bit (v : UInt8) (j : Nat) : bits .xor .u8 (v.toNat : Int) (2 ^ j % 256) = (((v ^^^ UInt8.ofNat (2 ^ j)).toNat : Nat) : Int) := by
  have h := u8_xor_nat v.toNat (2 ^ j % 256) v.toNat_lt (by omega)
  have e : ((2 ^ j % 256 : Nat) : Int) = 2 ^ j % 256 := by simp
  rw [← e, h, UInt8.toNat_xor, UInt8.toNat_ofNat']
theorem u8s_set (ys : List UInt8) (k : Nat) (v : UInt8) : u8s (ys.set k v) = (u8s ys).set k (.int .u8 (v.toNat : Int)) := by
  unfold u8s
  rw [List.map_set]
  rfl
theorem own_set {w : World} {base n b c : Nat} {xs : List UInt8} (h : w.ownsRow base 5 1 (.slice (some ⟨b, 0, none⟩) n c) n (u8s xs)) (k : Nat) (v : UInt8) : (w.setCell ⟨b, k, none⟩ (.int .u8 (v.toNat : Int))).ownsRow base 5 1 (.slice (some ⟨b, 0, none⟩) n c) n (u8s (xs.set k v)) := by
  rw [u8s_set]
  exact (h.stored k _).1
theorem Tbl.far {w : World} {g : Nat} {d : Int} (h : Tbl w g d) {p : Addr} (hp : p.block ≠ g) (u : Value) : Tbl (w.setCell p u) g d := by
  rcases h with h | ⟨f, h⟩
  · exact .inl (h.far hp u)
  · exact .inr ⟨f, h.far hp u⟩
theorem On.far {w0 wi : World} {g : Nat} {d : Int} (h : On w0 wi g d) {p : Addr} (hp : g < p.block) (u : Value) : On w0 (wi.setCell p u) g d := ⟨h.bel.setCell (by have := h.new; omega) u, h.tab.far (by omega) u, h.new⟩
theorem own_some {w : World} {base n : Nat} {A : Option Addr} {c : Nat} {xs : List UInt8} (h : w.ownsRow base 5 1 (.slice A n c) n (u8s xs)) (hn : 0 < n) : ∃ b, A = some ⟨b, 0, none⟩ ∧ base ≤ b ∧ b < w.heap.size := by
  obtain ⟨b, cap, hv, hb, hlt⟩ := h.form hn
  injection hv with hA
  exact ⟨b, hA, hb, hlt⟩
set_option maxRecDepth 10000 in
set_option maxHeartbeats 4000000 in
theorem crcBursts_in (w : World) (r : Nat) (hr : r < 4294967296) (S : Nat → Prop) (A : Option Addr) (n c : Nat) (us : List UInt8) (hx : Bs w S A n c us) (hn : n ≤ 3000) (a : Int) (ha : -9223372036854775808 ≤ a ∧ a ≤ 9223372036854775807) :
    Calls Try.prog 8 #[.slice A n c, .int .i64 a, .int .u32 (r : Int)] w fun e w' => e = .returned (.bool true) ∧ Below w.heap.size w w' := by
  have HX := Lib.hid hx.old
  have HA := Lib.hid ha
  have hlen := hx.len
  have HO := Lib.hid (openF_seal us)
  clear hx ha
  have HLEN := Lib.hid hlen
  clear hlen
  have t1 : ¬ (3000 : Int) < (n : Int) := by omega
  have hnot : ∀ (x : Bool) (w : World), (Op.unary .not (.bool x)).run Try.prog w = .ok (.bool (!x)) w := fun _ _ => rfl
  go_enter Try.func8, Try.ntmps8
  go_wp2_with fail
  refine (new_any _).mono ?_
  rintro e w1 ⟨rfl, hT, hb⟩
  obtain ⟨g, hg⟩ : ∃ g, g = w.heap.size := ⟨_, rfl⟩
  rw [← hg] at hT
  have HN := Lib.hid (On.mk (d := 0) hb (.inr ⟨_, hT⟩) (Nat.le_of_eq hg.symm))
  rw [← hg]
  clear hT hb hg
  go_wp2_with fail
  refine (seal_any w1 g _ HN.out.tab _ A n c us (HN.out.rd HX.out) HN.out.apart (by omega) (by omega)).mono ?_
  rintro e w2 ⟨P, p, rfl, hown2, hT2, hg2⟩
  obtain ⟨x, rfl, hx1, hx2⟩ := own_some hown2 (by omega)
  have hgb : g < w1.heap.size := HN.out.lt
  have hxg : g < x := Nat.lt_of_lt_of_le hgb hx1
  have HN2 := Lib.hid (HN.out.step (.inl hT2) hg2)
  have HW2 := Lib.hid hown2
  clear hT2 hg2 HN hown2
  obtain ⟨_, _, e2, hP⟩ := own_bs HW2.out
  cases e2
  have HP := Lib.hid hP
  clear hP
  go_wp2_with fail
  refine (open_any w2 g _ HN2.out.tab _ _ (n + 4) p (Crc.seal_ us) HP.out (fun k hk _ => by omega) (by omega) (by omega)).mono ?_
  rintro e w3 ⟨Y, i1, j1, rfl, hY, hT3, hg3⟩
  rw [HO.out.2] at hY
  rw [HO.out.1]
  have hl1 : i1 ≤ 3000 := by rw [← hY.len, HLEN.out]; exact hn
  have HY := Lib.hid hY
  have HN3 := Lib.hid (HN2.out.step hT3 hg3)
  have HW3 := Lib.hid (HW2.out.kept hg3 (.inr (by intro e; simp [Value.ownBlock] at e; omega)))
  clear hY hT3 hg3 HN2 HW2 HP
  go_wp2_with fail
  refine (bytes_any w3 _ _ Y A i1 n j1 c us us HY.out (HN3.out.rd HX.out) (by omega) (by omega)).mono ?_
  rintro e w' ⟨rfl, m4, rfl⟩
  rw [decide_eq_true (rfl : us = us)]
  obtain ⟨w4, hw4⟩ : ∃ w4, w4 = w3.drewN m4 := ⟨_, rfl⟩
  rw [← hw4]
  have HN4 : Hid (On w w4 g _) := Lib.hid (by rw [hw4]; exact HN3.out.drewN m4)
  have HW4 : Hid (w4.ownsRow w1.heap.size 5 1 (.slice (some ⟨x, 0, none⟩) (n + 4) p) (n + 4) (u8s (Crc.seal_ us))) := Lib.hid (by rw [hw4]; exact HW3.out)
  clear hw4 HN3 HW3 HY
  have ha1 := HA.out.1
  have ha2 := HA.out.2
  by_cases hout : a < 0 ∨ 8 * ((n : Int) + 4) - 32 < a ∨ r = 0
  · by_cases q1 : a < 0
    · clear hout
      go_wp2_with fail
      refine (crcAlive_any _).mono ?_
      rintro e w6 ⟨rfl, hb6⟩
      have HF := Lib.hid (HN4.out.below hb6).bel
      clear hb6
      go_wp2_with fail
      go_ret
      exact ⟨rfl, HF.out⟩
    · by_cases q2 : 8 * ((n : Int) + 4) - 32 < a
      · clear hout
        go_wp2_with fail
        refine (crcAlive_any _).mono ?_
        rintro e w6 ⟨rfl, hb6⟩
        have HF := Lib.hid (HN4.out.below hb6).bel
        clear hb6
        go_wp2_with fail
        go_ret
        exact ⟨rfl, HF.out⟩
      · have s3 : ((r : Int) == 0) = true := by rw [beq_iff_eq]; omega
        clear hout
        go_wp2_with fail
        refine (crcAlive_any _).mono ?_
        rintro e w6 ⟨rfl, hb6⟩
        have HF := Lib.hid (HN4.out.below hb6).bel
        clear hb6
        go_wp2_with fail
        go_ret
        exact ⟨rfl, HF.out⟩
  · obtain ⟨a, rfl⟩ := Int.eq_ofNat_of_zero_le (by omega : 0 ≤ a)
    have s1 : ¬ ((a : Int) < 0) := by omega
    have s2 : ¬ (8 * ((n : Int) + 4) - 32 < (a : Int)) := by omega
    have s3 : ((r : Int) == 0) = false := by rw [beq_eq_false_iff_ne]; omega
    have hrp : 0 < r := by omega
    clear hout ha1 ha2
    go_wp2_with fail
    have hbas := HN4.out.new
    go_loopw [11] (fun v11 wr => ∃ (i : Nat) (ys : List UInt8), i ≤ 32 ∧ v11 = .int .i64 (i : Int) ∧ Hid (On w wr g (0 + (n : Int) + ((n + 4 - 4 : Nat) : Int))) ∧ Hid (wr.ownsRow w1.heap.size 5 1 (.slice (some ⟨x, 0, none⟩) (n + 4) p) (n + 4) (u8s ys)) ∧ Hid (Crc.le ys = Crc.le (Crc.seal_ us) ^^^ 2 ^ a * (r % 2 ^ i))) (fun v11 _ => 32 - (intOf v11).toNat)
    case atStart => exact ⟨0, Crc.seal_ us, by omega, rfl, HN4, HW4, Lib.hid (by simp [Nat.mod_one])⟩
    case round =>
      obtain ⟨i, ys, hi, rfl, HNr, HWr, HE⟩ := hrel
      clear HN4 HW4
      by_cases hlt : i < 32
      · have hlt' : (i : Int) < 32 := by omega
        have e1 := bit_and (i := i) hr
        by_cases hbit : r / 2 ^ i % 2 = 1
        · rw [hbit] at e1
          have hk : (a + i) / 8 < n + 4 := by omega
          obtain ⟨v, Hv, hc, hf⟩ := own_byte HWr.out hk
          have HB := Lib.hid hbit
          have hv := u8_lt v
          clear hbit
          go_wp2_with fail
          go_roundw
          case rel =>
            rw [xor_bit]
            refine ⟨i + 1, ys.set ((a + i) / 8) (v ^^^ UInt8.ofNat (2 ^ ((a + i) % 8))), by omega, by go_num, Lib.hid (HNr.out.far hxg _), Lib.hid (own_set HWr.out _ _), Lib.hid (Crc.le_turn _ _ _ _ _ _ _ HE.out HB.out Hv.out ?_)⟩
            rw [UInt8.toNat_ofNat']
            have : 2 ^ ((a + i) % 8) ≤ 2 ^ 7 := Nat.pow_le_pow_right (by omega) (by omega)
            exact Nat.mod_eq_of_lt (Nat.lt_of_le_of_lt this (by decide))
          case measure => simp [intOf]; omega
        · rw [show r / 2 ^ i % 2 = 0 from by omega] at e1
          have HB := Lib.hid hbit
          clear hbit
          go_wp2_with fail
          go_roundw
          case rel => exact ⟨i + 1, ys, by omega, by go_num, HNr, HWr, Lib.hid (Crc.le_stay _ _ _ _ _ HE.out HB.out)⟩
          case measure => simp [intOf]; omega
      · obtain rfl : i = 32 := by omega
        have hyl : ys.length = n + 4 := by have := HWr.out.1; simpa [u8s] using this
        have HQ := Lib.hid (openF_turned us ys a r (by rw [hyl, HLEN.out]) (by rw [HLEN.out]; omega) hr (by omega) HE.out)
        obtain ⟨_, _, e5, hP5⟩ := own_bs HWr.out
        cases e5
        have HP5 := Lib.hid hP5
        clear hP5 hyl
        go_wp2_with fail
        refine (open_any wr g _ HNr.out.tab _ _ (n + 4) p ys HP5.out (fun k hk _ => by omega) (by omega) (by omega)).mono ?_
        rintro e w5 ⟨Z, i2, j2, rfl, hZ, hT5, hg5⟩
        rw [HQ.out.2] at hZ
        rw [HQ.out.1]
        obtain rfl : i2 = 0 := hZ.len.symm
        have HN5 := Lib.hid (HNr.out.step hT5 hg5)
        clear hZ hT5 hg5
        go_wp2_with fail
        refine (crcAlive_any _).mono ?_
        rintro e w6 ⟨rfl, hb6⟩
        have HF := Lib.hid (HN5.out.below hb6).bel
        clear hb6
        go_wp2_with fail
        go_ret
        exact ⟨rfl, HF.out⟩
theorem crcBursts_any (w : World) (r : Nat) (hr : r < 4294967296) (S : Nat → Prop) (A : Option Addr) (n c : Nat) (us : List UInt8) (hx : Bs w S A n c us) (a : Int) (ha : -9223372036854775808 ≤ a ∧ a ≤ 9223372036854775807) :
    Calls Try.prog 8 #[.slice A n c, .int .i64 a, .int .u32 (r : Int)] w fun e w' => e = .returned (.bool true) ∧ Below w.heap.size w w' := by
  by_cases h : 3000 < n
  · have t1 : (3000 : Int) < (n : Int) := by omega
    clear h
    go_enter Try.func8, Try.ntmps8
    go_wp2_with fail
    refine (crcAlive_any _).mono ?_
    rintro e w1 ⟨rfl, hb⟩
    have HB := Lib.hid hb
    clear hb
    go_wp2_with fail
    go_ret
    exact ⟨rfl, HB.out⟩
  · exact crcBursts_in w r hr S A n c us hx (by omega) a ha
end Go.Proofs.Ytaebmhbggbpnoaa
