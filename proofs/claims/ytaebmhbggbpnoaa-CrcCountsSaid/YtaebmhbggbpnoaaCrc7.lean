/- The walks of the reference's Seal, Open (crc). Conditions: each theorem's premises. -/
import Derived.Test.YtaebmhbggbpnoaaCrc6
namespace Go.Proofs.Ytaebmhbggbpnoaa
open Go.RowKit
set_option maxRecDepth 10000 in
set_option maxHeartbeats 1000000 in
theorem rseal_any (w : World) (S : Nat → Prop) (A : Option Addr) (n c : Nat) (bs : List UInt8) (hx : Bs w S A n c bs) (hn : n ≤ 100000000) :
    Calls Try.prog 42 #[.slice A n c] w fun e w' => ∃ A' c', e = .returned (.slice A' (n + 4) c') ∧ w'.ownsRow w.heap.size 5 1 (.slice A' (n + 4) c') (n + 4) (u8s (Crc.seal_ bs)) ∧ Below w.heap.size w w' := by
  have HC := Lib.hid (rsum_any w S A n c bs hx (by omega))
  have HX := Lib.hid hx
  obtain ⟨s, hs⟩ : ∃ s, s = Crc.sum bs := ⟨_, rfl⟩
  have hsl : s < 4294967296 := by rw [hs]; exact Crc.sum_lt bs
  have hsl' : (s : Int) < 4294967296 := by omega
  rw [← hs] at HC
  have HSum := Lib.hid hs
  clear hx hs
  go_enter Try.func42, Try.ntmps42
  go_wp2_with fail
  refine (HC.out).mono ?_
  rintro e w' ⟨rfl, rfl⟩
  clear HC
  have tok1 : True := trivial
  go_wp2_with (at_builtin; (first | (have _t := tok1; refine wpList_append_u8 rfl (.tmp 6) (.tmp 7) rfl (base := w.heap.size) (v := .slice (some ⟨w.heap.size, 0, none⟩) 0 0) (n := 0) (xs := []) rfl (World.ownsRow_made w #[] 0 (Nat.le_refl _) (by simp [maxLen]) rfl : World.ownsRow _ _ _ _ _ _ (u8s [])) (m := n) (c := c) (ys := bs) rfl (HX.out.after ((Below.refl _ _).alloc (Nat.le_refl _) _)) (by omega) (by simp) ?_; intro v1 w1 hown1 hg1 hat1; clear tok1; simp only [Nat.zero_add, List.nil_append] at hown1; obtain ⟨A1, c1, rfl, _⟩ := own_shape hown1; have HO := Lib.hid (And.intro hown1 (((Below.refl w.heap.size w).alloc (Nat.le_refl _) _).grown hg1 (by simp) (by simp [Value.ownBlock]))); clear hown1 hg1 hat1; have HB4 := Lib.hid (bs_four w1 5 s hsl)) | go_loud (refine wpList_append_u8 rfl (.tmp 8) (.tmp 20) rfl (base := w.heap.size) (v := .slice A1 n c1) (n := n) (xs := bs) rfl (own_below HO.out.1 ((Below.refl _ _).alloc (Nat.le_refl _) _) (Nat.le_refl _)) (m := 4) (c := 4) (ys := Crc.le32 s) rfl HB4.out (by omega) (by have := HO.out.2.size; simp; omega) ?_; intro v3 w3 hown3 hg3 hat3; have HQ := Lib.hid (And.intro hown3 (Below.grown (HO.out.2.alloc HO.out.2.size _) hg3 (by have := HO.out.2.size; simp; omega) (own_base HO.out.1))); clear hown3 hg3 hat3)))
  obtain ⟨A3, c3, rfl, -⟩ := own_shape HQ.out.1
  have hfin : Crc.seal_ bs = bs ++ Crc.le32 s := by rw [HSum.out]; rfl
  have HF := Lib.hid hfin
  clear hfin
  go_ret
  exact ⟨A3, c3, rfl, by rw [HF.out]; exact HQ.out.1, HQ.out.2⟩
set_option maxRecDepth 10000 in
set_option maxHeartbeats 1000000 in
theorem ropen_any (w : World) (S : Nat → Prop) (A : Option Addr) (n c : Nat) (bs : List UInt8) (hx : Bs w S A n c bs) (hn : n ≤ 100000000) :
    Calls Try.prog 40 #[.slice A n c] w fun e w' => ∃ A' n' c', e = .returned (.tuple #[.slice A' n' c', .int .i64 (openF bs)]) ∧ Bs w' (fun k => w.heap.size ≤ k) A' n' c' (openB bs) ∧ Below w.heap.size w w' := by
  by_cases h4 : n < 4
  · have e1 : openF bs = 3 := by unfold openF; rw [if_pos (by rw [hx.len]; exact h4)]
    have e2 : openB bs = [] := by unfold openB; rw [if_pos (by rw [hx.len]; exact h4)]
    have HE := Lib.hid (And.intro e1 e2)
    have hlt : (n : Int) < 4 := by omega
    clear e1 e2 hx
    go_enter Try.func40, Try.ntmps40
    go_wp2_with fail
    go_ret2
    rw [HE.out.1, HE.out.2]
    exact ⟨none, 0, 0, rfl, Bs.nil _ _ _, Below.refl _ _⟩
  · obtain ⟨k, hk⟩ : ∃ k, n = k + 4 := ⟨n - 4, by omega⟩
    obtain ⟨A1, c1, hsl, hx1⟩ := hx.upto ((n : Int) - 4) k (by omega) (by omega)
    have HC := Lib.hid (rseal_any w S A1 k c1 _ hx1 (by omega))
    have HX := Lib.hid hx
    have hge : (4 : Int) ≤ (n : Int) := by omega
    have HK := Lib.hid hk
    have hkn : k + 4 ≤ n := by omega
    have hkn' : n ≤ k + 4 := by omega
    have ek : (n : Int) - 4 = (k : Int) := by omega
    have hlk : bs.length - 4 = k := by rw [hx.len]; omega
    have hF : openF bs = if Crc.seal_ (bs.take k) = bs then 0 else 4 := by unfold openF; rw [if_neg (by rw [hx.len]; exact h4), hlk]
    have hB : openB bs = if Crc.seal_ (bs.take k) = bs then bs.take k else [] := by unfold openB; rw [if_neg (by rw [hx.len]; exact h4), hlk]
    have HFF := Lib.hid (And.intro hF hB)
    have hst : (Crc.seal_ (bs.take k)).take k = bs.take k := by
      unfold Crc.seal_
      rw [List.take_append_of_le_length (by rw [List.length_take, hx.len]; omega), List.take_take, Nat.min_self]
    have HST := Lib.hid hst
    have hlen : (Crc.seal_ (bs.take k)).length = k + 4 := by unfold Crc.seal_; rw [List.length_append, List.length_take, hx.len]; simp [Crc.le32]; omega
    have HL := Lib.hid hlen
    rw [ek] at hsl
    clear hx h4 hx1 hk hF hB hlk hst hlen
    go_enter Try.func40, Try.ntmps40
    have ek2 := ek
    clear ek
    go_wp2_with fail
    refine (HC.out).mono ?_
    rintro e w1 ⟨A2, c2, rfl, hown, hb⟩
    have HO := Lib.hid (And.intro hown hb)
    obtain ⟨A3, c3, e3, hbs⟩ := own_bs hown
    cases e3
    have HX2 := Lib.hid (HX.out.after hb)
    have HB := Lib.hid hbs
    clear hown hb hbs HC
    have H2 := Lib.hid ek2
    go_wp2_with fail
    clear ek2
    go_loopw [6] (fun v6 wr => ∃ i m : Nat, k ≤ i ∧ i ≤ n ∧ v6 = .int .i64 (i : Int) ∧ Hid ((Crc.seal_ (bs.take k)).take i = bs.take i) ∧ wr = w1.drewN m) (fun v6 _ => n - (intOf v6).toNat)
    case atStart => exact ⟨k, 0, Nat.le_refl _, by omega, rfl, Lib.hid (by rw [HST.out]), rfl⟩
    case round =>
      obtain ⟨i, m, hki, hin, rfl, HE, rfl⟩ := hrel
      by_cases hlt : i < n
      · obtain ⟨ad, b, rfl, Hb, h1⟩ := HX2.out.at_ hlt
        obtain ⟨ad', b', rfl, Hb', h2⟩ := HB.out.at_ (k := i) (by omega)
        have hlt' : (i : Int) < (n : Int) := by omega
        have hlt2 : (i : Int) < (k : Int) + 4 := by omega
        by_cases hd : b' = b
        · subst hd
          have HE' : Hid ((Crc.seal_ (bs.take k)).take (i + 1) = bs.take (i + 1)) := Lib.hid (by rw [take_snoc Hb.out, take_snoc Hb'.out, HE.out])
          go_wp2_with fail
          go_quiet (fail)
          go_wp2_with fail
          go_roundw
          case rel => exact ⟨i + 1, _, by omega, by omega, by go_num, HE', rfl⟩
          case measure => simp [intOf]; omega
        · have hbb := u8_ne hd
          have hne : ¬ Crc.seal_ (bs.take k) = bs := fun e => by
            have h3 := Hb'.out
            rw [e, Hb.out] at h3
            injection h3 with h3
            exact hd h3.symm
          have HQ : Hid (openF bs = 4 ∧ openB bs = []) := Lib.hid ⟨by rw [HFF.out.1, if_neg hne], by rw [HFF.out.2, if_neg hne]⟩
          clear hd hne
          go_wp2_with fail
          go_quiet (fail)
          go_wp2_with fail
          go_ret2
          rw [HQ.out.1, HQ.out.2]
          exact ⟨none, 0, 0, rfl, Bs.nil _ _ _, by simpa using below_drewN HO.out.2 _⟩
      · obtain rfl : i = n := by omega
        have heq : Crc.seal_ (bs.take k) = bs := by
          have h3 := HE.out
          have g1 : (Crc.seal_ (bs.take k)).take i = Crc.seal_ (bs.take k) := List.take_of_length_le (by rw [HL.out]; omega)
          have g2 : bs.take i = bs := List.take_of_length_le (by rw [HX.out.len]; omega)
          exact g1.symm.trans (h3.trans g2)
        have HQ : Hid (openF bs = 0 ∧ openB bs = bs.take k) := Lib.hid ⟨by rw [HFF.out.1, if_pos heq], by rw [HFF.out.2, if_pos heq]⟩
        obtain ⟨A4, c4, hsl2, hx4⟩ := HB.out.upto (k : Int) k rfl (by omega)
        have HX4 := Lib.hid hx4
        clear heq hx4
        go_wp2_with fail
        go_ret2
        rw [HQ.out.1, HQ.out.2]
        refine ⟨A4, k, c4, rfl, ?_, below_drewN HO.out.2 _⟩
        have h5 := HX4.out
        rw [HST.out] at h5
        exact ⟨h5.len, h5.cap, h5.rd⟩
end Go.Proofs.Ytaebmhbggbpnoaa
