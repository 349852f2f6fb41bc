/- The walk of stableCmpFunc and SortStableFunc (slices). Conditions: each theorem's premises. -/
import Derived.Test.YtaebmhbggbpnoaaGNs10
namespace Go.Proofs.Ytaebmhbggbpnoaa
open Go.RowKit
/-- Blocks of a length are sorted, up to a place. -/
def Blks (s t : Nat) (L : List EV) : Prop := ∀ i, i < t → i % s = 0 → Srt i (min (i + s) t) L
theorem Blks.zero (s : Nat) (L : List EV) : Blks s 0 L := fun i h => by omega
theorem Blks.next {s t t' : Nat} {L L' : List EV} (h : Blks s t L) (hs : Sb t t' L L') (ht : Srt t t' L') (h1 : t % s = 0) (h2 : t' ≤ t + s) (h0 : 0 < s) : Blks s t' L' := fun i hi hm => by
  rcases Nat.lt_or_ge i t with hlt | hge
  · have hle : i + s ≤ t := by
      obtain ⟨u, hu⟩ := Nat.dvd_of_mod_eq_zero hm
      obtain ⟨v, hv⟩ := Nat.dvd_of_mod_eq_zero h1
      subst hu
      subst hv
      have : u < v := Nat.lt_of_mul_lt_mul_left hlt
      calc s * u + s = s * (u + 1) := by rw [Nat.mul_add, Nat.mul_one]
        _ ≤ s * v := Nat.mul_le_mul_left _ this
    have h3 := h i hlt hm
    rw [Nat.min_eq_left hle] at h3
    exact (h3.mono (Nat.le_refl _) (Nat.min_le_left _ _)).same (fun j j1 j2 => hs.out j (.inl (by have := Nat.min_le_left (i + s) t'; omega)))
  · have hit : i = t := by
      obtain ⟨u, hu⟩ := Nat.dvd_of_mod_eq_zero hm
      obtain ⟨v, hv⟩ := Nat.dvd_of_mod_eq_zero h1
      subst hu
      subst hv
      have h4 : s * u < s * (v + 1) := by rw [Nat.mul_add, Nat.mul_one]; omega
      have h5 : u < v + 1 := Nat.lt_of_mul_lt_mul_left h4
      have h6 : v ≤ u := Nat.le_of_mul_le_mul_left hge h0
      have : u = v := by omega
      rw [this]
    subst hit
    exact ht.mono (Nat.le_refl _) (Nat.min_le_right _ _)
/-- The same from a place on. -/
def BlksFrom (s i n : Nat) (L : List EV) : Prop := ∀ k, i ≤ k → k < n → k % s = 0 → Srt k (min (k + s) n) L
theorem Blks.from_ {s n : Nat} {L : List EV} (h : Blks s n L) : BlksFrom s 0 n L := fun k _ h2 h3 => h k h2 h3
theorem BlksFrom.next {s i i' n : Nat} {L L' : List EV} (h : BlksFrom s i n L) (hs : Sb i i' L L') (hi : i ≤ i') : BlksFrom s i' n L' := fun k h1 h2 h3 => (h k (by omega) h2 h3).same fun j j1 j2 => hs.out j (.inr (by omega))
theorem mod_two {s i : Nat} (h : i % (2 * s) = 0) : i % s = 0 ∧ (i + s) % s = 0 := by
  obtain ⟨u, hu⟩ := Nat.dvd_of_mod_eq_zero h
  subst hu
  rw [Nat.add_mod_right]
  have : 2 * s * u % s = 0 := by rw [Nat.mul_comm 2 s, Nat.mul_assoc]; exact Nat.mul_mod_right _ _
  exact ⟨this, this⟩
theorem BlksFrom.two {s i n : Nat} {L : List EV} (h : BlksFrom s i n L) (hm : i % (2 * s) = 0) (h0 : 0 < s) (h2 : i + 2 * s ≤ n) : Srt i (i + s) L ∧ Srt (i + s) (i + 2 * s) L := by
  obtain ⟨m1, m2⟩ := mod_two hm
  have a1 := h i (Nat.le_refl _) (by omega) m1
  have a2 := h (i + s) (by omega) (by omega) m2
  rw [Nat.min_eq_left (by omega)] at a1 a2
  exact ⟨a1, by rw [show i + 2 * s = i + s + s by omega]; exact a2⟩
theorem BlksFrom.last {s i n : Nat} {L : List EV} (h : BlksFrom s i n L) (hm : i % (2 * s) = 0) (h0 : 0 < s) (h2 : n < i + 2 * s) (h3 : i + s < n) : Srt i (i + s) L ∧ Srt (i + s) n L := by
  obtain ⟨m1, m2⟩ := mod_two hm
  have a1 := h i (Nat.le_refl _) (by omega) m1
  have a2 := h (i + s) (by omega) (by omega) m2
  rw [Nat.min_eq_left (by omega)] at a1
  rw [Nat.min_eq_right (by omega)] at a2
  exact ⟨a1, a2⟩
theorem BlksFrom.one {s i n : Nat} {L : List EV} (h : BlksFrom s i n L) (hm : i % (2 * s) = 0) (hi : i ≤ n) (h3 : n ≤ i + s) : Srt i n L := by
  rcases Nat.lt_or_ge i n with hlt | hge
  · have a1 := h i (Nat.le_refl _) hlt (mod_two hm).1
    rw [Nat.min_eq_right h3] at a1
    exact a1
  · exact fun p q x y h1 h2 h3 => by omega
theorem Blks.all {s n : Nat} {L : List EV} (h : Blks s n L) (hn : n ≤ s) : Srt 0 n L := by
  rcases Nat.eq_zero_or_pos n with h0 | h0
  · exact fun p q x y h1 h2 h3 => by omega
  · have a1 := h 0 h0 (Nat.zero_mod _)
    rw [Nat.min_eq_right (by omega)] at a1
    exact a1
theorem step_mod {s i : Nat} (h : i % s = 0) : (i + s) % s = 0 := by rw [Nat.add_mod_right]; exact h
set_option maxRecDepth 100000 in
set_option maxHeartbeats 4000000 in
theorem nd_stable (w : World) (g : Nat) (A : Option Addr) (n c : Nat) (L : List EV) (h : ML w g A n c L) (hn : n ≤ 1000000) :
    Calls Try.prog 134 #[.slice A n c, .int .i64 (n : Int), cmpV] w fun e w' => e = .returned (.tuple #[]) ∧ ∃ L', ML w' g A n c L' ∧ Sb 0 n L L' ∧ Srt 0 n L' ∧ w.grownBy w' (some g) := by
  have HM := Lib.hid h
  clear h
  go_enter Try.func134, Try.ntmps134
  go_wp2_with fail
  go_loopw [7, 8] (fun v7 v8 wr => ∃ (i j : Nat) (C : List EV), v7 = .int .i64 (i : Int) ∧ v8 = .int .i64 (j : Int) ∧ i ≤ n ∧ Hid (i + 20 = j) ∧ Hid (i % 20 = 0) ∧ Hid (ML wr g A n c C) ∧ Hid (Sb 0 n L C) ∧ Hid (Blks 20 i C) ∧ Hid (w.grownBy wr (some g))) (fun v7 _ _ => n - (intOf v7).toNat)
  case atStart => exact ⟨0, 20, L, by go_num, by go_num, Nat.zero_le _, Lib.hid rfl, Lib.hid rfl, HM, Lib.hid (Sb.refl _ _ _), Lib.hid (Blks.zero _ _), Lib.hid (gb_refl _ _)⟩
  case round =>
    obtain ⟨i, j, C, rfl, rfl, hi, HJ, HI, HMC, HSC, HBC, HGC⟩ := hrel
    by_cases hlt : j ≤ n
    · have hlt' : (j : Int) ≤ (n : Int) := by omega
      obtain ⟨j2, hj2⟩ : ∃ k, j + 20 = k := ⟨_, rfl⟩
      have e1 : (j : Int) + 20 = (j2 : Int) := by omega
      have w1 : IntKind.i64.wrap (j2 : Int) = (j2 : Int) := by unfold IntKind.wrap; simp [IntKind.bits, IntKind.signed]; omega
      have HJ2 := Lib.hid hj2
      clear hj2
      go_wp2_with fail
      refine (nd_insert wr g A n c C i j HMC.out (by have := HJ.out; omega) hlt hn).mono ?_
      rintro e w5 ⟨rfl, C2, hm5, hs5, ht5, hg5⟩
      have H5 := Lib.hid (And.intro hm5 (And.intro hs5 (And.intro ht5 (gb_trans HGC.out hg5))))
      clear hm5 hs5 ht5 hg5
      go_wp2_with fail
      exact ⟨⟨j, j2, C2, rfl, rfl, hlt, HJ2, Lib.hid (by rw [← HJ.out]; exact step_mod HI.out), Lib.hid H5.out.1, Lib.hid (HSC.out.trans (H5.out.2.1.mono (Nat.zero_le _) hlt)), Lib.hid (HBC.out.next H5.out.2.1 H5.out.2.2.1 HI.out (by have := HJ.out; omega) (by decide)), Lib.hid H5.out.2.2.2⟩, by simp [intOf]; have := HJ.out; omega⟩
    · have hlt' : ¬ (j : Int) ≤ (n : Int) := by omega
      go_wp2_with fail
      refine (nd_insert wr g A n c C i n HMC.out hi (Nat.le_refl _) hn).mono ?_
      rintro e w5 ⟨rfl, C2, hm5, hs5, ht5, hg5⟩
      have HM5 := Lib.hid hm5
      have HS5 := Lib.hid (HSC.out.trans (hs5.mono (Nat.zero_le _) (Nat.le_refl _)))
      have HB5 := Lib.hid (HBC.out.next hs5 ht5 HI.out (by have := HJ.out; omega) (by decide))
      have HG5 := Lib.hid (gb_trans HGC.out hg5)
      clear hm5 hs5 ht5 hg5 HMC HSC HBC HGC HJ HI
      go_wp2_with fail
      go_loopw [6, 7, 8, 9] (fun v6 v7 v8 v9 wq => ∃ (s : Nat) (C : List EV), v6 = .int .i64 (s : Int) ∧ 0 < s ∧ (s ≤ 20 ∨ s ≤ 2 * n) ∧ Hid (ML wq g A n c C) ∧ Hid (Sb 0 n L C) ∧ Hid (Blks s n C) ∧ Hid (w.grownBy wq (some g))) (fun v6 _ _ _ _ => n - (intOf v6).toNat)
      case atStart => exact ⟨20, C2, by go_num, by decide, .inl (Nat.le_refl _), HM5, HS5, HB5, HG5⟩
      case round =>
        clear HM5 HS5 HB5 HG5
        obtain ⟨s, C, rfl, h0, hs, HMC, HSC, HBC, HGC⟩ := hrel
        by_cases hls : s < n
        · have hls' : (s : Int) < (n : Int) := by omega
          obtain ⟨s2, hs2⟩ : ∃ k, 2 * s = k := ⟨_, rfl⟩
          have e2 : 2 * (s : Int) = (s2 : Int) := by omega
          have e3 : (s : Int) * 2 = (s2 : Int) := by omega
          have w2 : IntKind.i64.wrap (s2 : Int) = (s2 : Int) := by unfold IntKind.wrap; simp [IntKind.bits, IntKind.signed]; omega
          have HS2 := Lib.hid hs2
          have hs2n : s2 ≤ 2000000 ∧ 0 < s2 := by omega
          have HN2 := Lib.hid hs2n
          clear hs2 hs2n
          go_wp2_with fail
          go_loopw [7, 8] (fun v7 v8 wq => ∃ (i j : Nat) (D : List EV), v7 = .int .i64 (i : Int) ∧ v8 = .int .i64 (j : Int) ∧ i ≤ n ∧ Hid (i + s2 = j) ∧ Hid (i % s2 = 0) ∧ Hid (ML wq g A n c D) ∧ Hid (Sb 0 n L D) ∧ Hid (Blks s2 i D) ∧ Hid (BlksFrom s i n D) ∧ Hid (w.grownBy wq (some g))) (fun v7 _ _ => n - (intOf v7).toNat)
          case atStart => exact ⟨0, s2, C, by go_num, by go_num, Nat.zero_le _, Lib.hid (Nat.zero_add _), Lib.hid (Nat.zero_mod _), HMC, HSC, Lib.hid (Blks.zero _ _), Lib.hid HBC.out.from_, HGC⟩
          case round =>
            clear HMC HSC HBC HGC
            obtain ⟨i, j, D, rfl, rfl, hi, HJ, HI, HMD, HSD, HBD, HFD, HGD⟩ := hrel
            obtain ⟨is, his⟩ : ∃ k, i + s = k := ⟨_, rfl⟩
            have oN := HN2.out
            have oS := HS2.out
            have oJ := HJ.out
            have e4 : (i : Int) + (s : Int) = (is : Int) := by omega
            have w4 : IntKind.i64.wrap (is : Int) = (is : Int) := by unfold IntKind.wrap; simp [IntKind.bits, IntKind.signed]; omega
            have HIS := Lib.hid his
            by_cases hlt : j ≤ n
            · have hlt' : (j : Int) ≤ (n : Int) := by omega
              obtain ⟨j2, hj2⟩ : ∃ k, j + s2 = k := ⟨_, rfl⟩
              have e1 : (j : Int) + (s2 : Int) = (j2 : Int) := by omega
              have w1 : IntKind.i64.wrap (j2 : Int) = (j2 : Int) := by unfold IntKind.wrap; simp [IntKind.bits, IntKind.signed]; omega
              have HJ2 := Lib.hid hj2
              have HT := Lib.hid (HFD.out.two (by rw [HS2.out]; exact HI.out) h0 (by rw [HS2.out, HJ.out]; exact hlt))
              rw [HS2.out, HJ.out, HIS.out] at HT
              have HB1 : Hid (i < is ∧ is < j) := Lib.hid (by omega)
              clear hj2 his oN oS oJ
              go_wp2_with fail
              refine (nd_merge g n c A hn (j - i) wr D i is j (Nat.le_refl _) HMD.out HB1.out.1 HB1.out.2 hlt HT.out.1 HT.out.2).mono ?_
              rintro e w5 ⟨rfl, C2, hm5, hs5, ht5, hg5⟩
              have H5 := Lib.hid (And.intro hm5 (And.intro hs5 (And.intro ht5 (gb_trans HGD.out hg5))))
              clear hm5 hs5 ht5 hg5
              go_wp2_with fail
              exact ⟨⟨j, j2, C2, rfl, rfl, hlt, HJ2, Lib.hid (by rw [← HJ.out]; exact step_mod HI.out), Lib.hid H5.out.1, Lib.hid (HSD.out.trans (H5.out.2.1.mono (Nat.zero_le _) hlt)), Lib.hid (HBD.out.next H5.out.2.1 H5.out.2.2.1 HI.out (by have := HJ.out; omega) HN2.out.2), Lib.hid (HFD.out.next H5.out.2.1 (by have := HJ.out; omega)), Lib.hid H5.out.2.2.2⟩, by simp [intOf]; have := HJ.out; have := HN2.out; omega⟩
            · have hlt' : ¬ (j : Int) ≤ (n : Int) := by omega
              by_cases hl2 : is < n
              · have hl2' : (is : Int) < (n : Int) := by omega
                have HT := Lib.hid (HFD.out.last (by rw [HS2.out]; exact HI.out) h0 (by rw [HS2.out, HJ.out]; omega) (by omega))
                rw [HIS.out] at HT
                have HB1 : Hid (i < is) := Lib.hid (by omega)
                clear his oN oS oJ
                go_wp2_with fail
                refine (nd_merge g n c A hn (n - i) wr D i is n (Nat.le_refl _) HMD.out HB1.out hl2 (Nat.le_refl _) HT.out.1 HT.out.2).mono ?_
                rintro e w5 ⟨rfl, C2, hm5, hs5, ht5, hg5⟩
                have H5 := Lib.hid (And.intro hm5 (And.intro hs5 (And.intro ht5 (gb_trans HGD.out hg5))))
                clear hm5 hs5 ht5 hg5
                go_wp2_with fail
                exact ⟨⟨s2, C2, by go_num, HN2.out.2, by have := HS2.out; omega, Lib.hid H5.out.1, Lib.hid (HSD.out.trans (H5.out.2.1.mono (Nat.zero_le _) (Nat.le_refl _))), Lib.hid (HBD.out.next H5.out.2.1 H5.out.2.2.1 HI.out (by have := HJ.out; omega) HN2.out.2), Lib.hid H5.out.2.2.2⟩, by simp [intOf]; have := HS2.out; omega⟩
              · have hl2' : ¬ (is : Int) < (n : Int) := by omega
                have HT := Lib.hid (HFD.out.one (by rw [HS2.out]; exact HI.out) hi (by omega))
                clear his oN oS oJ
                go_wp2_with fail
                exact ⟨⟨s2, D, by go_num, HN2.out.2, by have := HS2.out; omega, HMD, HSD, Lib.hid (HBD.out.next (Sb.refl _ _ _) HT.out HI.out (by have := HJ.out; omega) HN2.out.2), HGD⟩, by simp [intOf]; have := HS2.out; omega⟩
        · have hls' : ¬ (s : Int) < (n : Int) := by omega
          go_wp2_with fail
          go_end0
          exact ⟨rfl, C, HMC.out, HSC.out, HBC.out.all (by omega), HGC.out⟩
set_option maxRecDepth 100000 in
theorem nd_sortstable (w : World) (g : Nat) (A : Option Addr) (n c : Nat) (L : List EV) (h : ML w g A n c L) (hn : n ≤ 1000000) :
    Calls Try.prog 115 #[.slice A n c, cmpV] w fun e w' => e = .returned (.tuple #[]) ∧ ∃ L', ML w' g A n c L' ∧ Sb 0 n L L' ∧ Srt 0 n L' ∧ w.grownBy w' (some g) := by
  have HM := Lib.hid h
  clear h
  go_enter Try.func115, Try.ntmps115
  go_wp2_with fail
  refine (nd_stable w g A n c L HM.out hn).mono ?_
  rintro e w5 ⟨rfl, h5⟩
  have H5 := Lib.hid h5
  clear h5
  go_wp2_with fail
  go_end0
  exact ⟨rfl, H5.out⟩
end Go.Proofs.Ytaebmhbggbpnoaa
