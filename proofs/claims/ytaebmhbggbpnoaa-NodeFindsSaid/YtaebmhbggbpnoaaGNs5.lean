/- The walk of rotateCmpFunc (slices), and what it comes to. Conditions: each theorem's premises. -/
import Derived.Test.YtaebmhbggbpnoaaGNs4
namespace Go.Proofs.Ytaebmhbggbpnoaa
open Go.RowKit
theorem swapN_get (L : List EV) (a b : Nat) (k : Nat) (h : a + k ≤ b) (hb : b + k ≤ L.length) (i : Nat) : (swapN L a b k)[i]? = if a ≤ i ∧ i < a + k then L[i + (b - a)]? else if b ≤ i ∧ i < b + k then L[i - (b - a)]? else L[i]? := by
  induction k generalizing i with
  | zero => rw [if_neg (by omega), if_neg (by omega)]; rfl
  | succ k ih =>
    have ihh := ih (by omega) (by omega)
    have hy : (swapN L a b k)[b + k]? = some (L[b + k]'(by omega)) := by
      rw [ihh, if_neg (by omega), if_neg (by omega)]
      exact List.getElem?_eq_getElem _
    have hx : (swapN L a b k)[a + k]? = some (L[a + k]'(by omega)) := by
      rw [ihh, if_neg (by omega), if_neg (by omega)]
      exact List.getElem?_eq_getElem _
    rw [swapN_next hy hx]
    by_cases e1 : i = b + k
    · subst e1
      rw [List.getElem?_set_self (by simp [swapN_len]; omega), if_neg (by omega), if_pos (by omega), show b + k - (b - a) = a + k by omega]
      exact (List.getElem?_eq_getElem _).symm
    · rw [List.getElem?_set_ne (by omega)]
      by_cases e2 : i = a + k
      · subst e2
        rw [List.getElem?_set_self (by rw [swapN_len]; omega), if_pos (by omega), show a + k + (b - a) = b + k by omega]
        exact (List.getElem?_eq_getElem _).symm
      · rw [List.getElem?_set_ne (by omega), ihh]
        by_cases c1 : a ≤ i ∧ i < a + k
        · rw [if_pos c1, if_pos (by omega)]
        · by_cases c2 : b ≤ i ∧ i < b + k
          · rw [if_neg c1, if_pos c2, if_neg (by omega), if_pos (by omega)]
          · rw [if_neg c1, if_neg c2, if_neg (by omega), if_neg (by omega)]
/-- T is C, but the parts of i ahead of m and of j from m on change places. -/
structure Rt (m i j : Nat) (C T : List EV) : Prop where
  len : T.length = C.length
  out : ∀ p, p < m - i ∨ m + j ≤ p → T[p]? = C[p]?
  one : ∀ p, m - i ≤ p → p < m - i + j → T[p]? = C[p + i]?
  two : ∀ p, m - i + j ≤ p → p < m + j → T[p]? = C[p - j]?
theorem Rt.left {m i j : Nat} {C T : List EV} (h : Rt m i j C T) (hi : i ≤ m) (hj : j < i) (hl : m + j ≤ C.length) : Rt m (i - j) j (swapN C (m - i) m j) T := by
  have g := swapN_get C (m - i) m j (by omega) hl
  have e : m - (m - i) = i := by omega
  rw [e] at g
  refine ⟨by rw [swapN_len]; exact h.len, fun p hp => ?_, fun p h1 h2 => ?_, fun p h1 h2 => ?_⟩
  · rw [g]
    by_cases c : m - i ≤ p ∧ p < m - i + j
    · rw [if_pos c, h.one p c.1 c.2]
    · rw [if_neg c, if_neg (by omega), h.out p (by omega)]
  · rw [g, if_neg (by omega), if_pos (by omega), h.two p (by omega) (by omega)]
    congr 1
    omega
  · rw [g, if_neg (by omega), if_neg (by omega), h.two p (by omega) h2]
theorem Rt.right {m i j : Nat} {C T : List EV} (h : Rt m i j C T) (hi : i ≤ m) (hj : i < j) (hl : m + j ≤ C.length) : Rt m i (j - i) (swapN C (m - i) (m + j - i) i) T := by
  have g := swapN_get C (m - i) (m + j - i) i (by omega) (by omega)
  have e : m + j - i - (m - i) = j := by omega
  rw [e] at g
  refine ⟨by rw [swapN_len]; exact h.len, fun p hp => ?_, fun p h1 h2 => ?_, fun p h1 h2 => ?_⟩
  · rw [g]
    by_cases c : m + j - i ≤ p ∧ p < m + j - i + i
    · rw [if_neg (by omega), if_pos c, h.two p (by omega) (by omega)]
    · rw [if_neg (by omega), if_neg c, h.out p (by omega)]
  · rw [g, if_neg (by omega), if_neg (by omega), h.one p h1 (by omega)]
  · rw [g, if_pos (by omega), h.one p (by omega) (by omega)]
    congr 1
    omega
theorem Rt.done {m i : Nat} {C T : List EV} (h : Rt m i i C T) (hi : i ≤ m) (hl : m + i ≤ C.length) : swapN C (m - i) m i = T := by
  have g := swapN_get C (m - i) m i (by omega) hl
  have e : m - (m - i) = i := by omega
  rw [e] at g
  refine List.ext_getElem? fun p => ?_
  rw [g]
  by_cases c : m - i ≤ p ∧ p < m - i + i
  · rw [if_pos c, h.one p c.1 c.2]
  · rw [if_neg c]
    by_cases c2 : m ≤ p ∧ p < m + i
    · rw [if_pos c2, h.two p (by omega) (by omega)]
    · rw [if_neg c2, h.out p (by omega)]
/-- The parts from a and from m on, up to b, change places. -/
def rotL (L : List EV) (a m b : Nat) : List EV := L.take a ++ (L.take b).drop m ++ (L.take m).drop a ++ L.drop b
theorem cut_three (L : List EV) {a m b : Nat} (h1 : a ≤ m) (h2 : m ≤ b) : L = L.take a ++ (L.take m).drop a ++ (L.take b).drop m ++ L.drop b := by
  have e1 : L.take m = L.take a ++ (L.take m).drop a := by
    conv => lhs; rw [← List.take_append_drop a (L.take m)]
    rw [List.take_take, Nat.min_eq_left h1]
  have e2 : L.take b = L.take m ++ (L.take b).drop m := by
    conv => lhs; rw [← List.take_append_drop m (L.take b)]
    rw [List.take_take, Nat.min_eq_left h2]
  conv => lhs; rw [← List.take_append_drop b L, e2, e1]
theorem rotL_rt (L : List EV) {a m b : Nat} (h1 : a ≤ m) (h2 : m ≤ b) (h3 : b ≤ L.length) : Rt m (m - a) (b - m) L (rotL L a m b) := by
  have l1 : (L.take a).length = a := by simp; omega
  have l2 : ((L.take m).drop a).length = m - a := by simp; omega
  have l3 : ((L.take b).drop m).length = b - m := by simp; omega
  have g := rot_get (L.take a) ((L.take m).drop a) ((L.take b).drop m) (L.drop b)
  rw [← cut_three L h1 h2, l1, l2, l3] at g
  refine ⟨by simp [rotL]; omega, fun p hp => ?_, fun p p1 p2 => ?_, fun p p1 p2 => ?_⟩
  · unfold rotL; rw [g, if_pos (by omega)]
  · unfold rotL; rw [g, if_neg (by omega), if_pos (by omega)]
  · unfold rotL; rw [g, if_neg (by omega), if_neg (by omega)]
theorem rotL_mid (L : List EV) {a s m mid e b : Nat} (h1 : s ≤ m) (h2 : m ≤ e) (h3 : e ≤ L.length) (hm : e + s = mid + m) (ha : a ≤ s) (hb : e ≤ b) : Mid a s m mid e b L (rotL L s m e) := by
  have r := rotL_rt L h1 h2 h3
  refine ⟨hm, by omega, fun p hp => r.out p (by omega), fun p p1 p2 => ?_, fun p p1 p2 => ?_⟩
  · rw [r.one p (by omega) (by omega)]
    congr 1
    omega
  · rw [r.two p (by omega) (by omega)]
    congr 1
    omega
theorem rotL_sb (L : List EV) {s m e a b : Nat} (h1 : s ≤ m) (h2 : m ≤ e) (h3 : e ≤ L.length) (ha : a ≤ s) (hb : e ≤ b) (hn : ∀ p q x y, s ≤ p → p < m → m ≤ q → q < e → L[p]? = some x → L[q]? = some y → x.name ≠ y.name) : Sb a b L (rotL L s m e) := by
  have l1 : (L.take s).length = s := by simp; omega
  have l2 : ((L.take m).drop s).length = m - s := by simp; omega
  have l3 : ((L.take e).drop m).length = e - m := by simp; omega
  have h := Sb.rot (a := a) (b := b) (L.take s) ((L.take m).drop s) ((L.take e).drop m) (L.drop e) (fun x hx y hy => by
    obtain ⟨i, hi, hxi⟩ := List.getElem_of_mem hx
    obtain ⟨j, hj, hyj⟩ := List.getElem_of_mem hy
    have gx : L[s + i]? = some x := by
      have := List.getElem?_eq_getElem hi
      rw [hxi] at this
      rw [List.getElem?_drop, List.getElem?_take] at this
      split at this
      · exact this
      · cases this
    have gy : L[m + j]? = some y := by
      have := List.getElem?_eq_getElem hj
      rw [hyj] at this
      rw [List.getElem?_drop, List.getElem?_take] at this
      split at this
      · exact this
      · cases this
    exact hn _ _ x y (by omega) (by omega) (by omega) (by omega) gx gy) (by omega) (by omega)
  rw [← cut_three L h1 h2] at h
  exact h
set_option maxRecDepth 100000 in
theorem nd_rotate (w : World) (g : Nat) (A : Option Addr) (n c : Nat) (L : List EV) (a m b : Nat) (h : ML w g A n c L) (h1 : a < m) (h2 : m < b) (h3 : b ≤ n) (hn : n ≤ 1000000) :
    Calls Try.prog 149 #[.slice A n c, .int .i64 (a : Int), .int .i64 (m : Int), .int .i64 (b : Int), cmpV] w fun e w' => e = .returned (.tuple #[]) ∧ ML w' g A n c (rotL L a m b) ∧ w.grownBy w' (some g) := by
  have HM := Lib.hid h
  have HL := Lib.hid h.len
  have HRT := Lib.hid (rotL_rt L (Nat.le_of_lt h1) (Nat.le_of_lt h2) (by rw [h.len]; exact h3))
  clear h
  obtain ⟨T, hT⟩ : ∃ T, T = rotL L a m b := ⟨_, rfl⟩
  rw [← hT] at HRT
  rw [← hT]
  clear hT
  obtain ⟨i0, hi0⟩ : ∃ i, m - a = i := ⟨_, rfl⟩
  obtain ⟨j0, hj0⟩ : ∃ i, b - m = i := ⟨_, rfl⟩
  rw [hi0, hj0] at HRT
  have e1 : (m : Int) - (a : Int) = (i0 : Int) := by omega
  have e2 : (b : Int) - (m : Int) = (j0 : Int) := by omega
  have w1 : IntKind.i64.wrap (i0 : Int) = (i0 : Int) := by unfold IntKind.wrap; simp [IntKind.bits, IntKind.signed]; omega
  have w2 : IntKind.i64.wrap (j0 : Int) = (j0 : Int) := by unfold IntKind.wrap; simp [IntKind.bits, IntKind.signed]; omega
  go_enter Try.func149, Try.ntmps149
  go_wp2_with fail
  go_loopw [10, 11] (fun v10 v11 wr => ∃ (i j : Nat) (C : List EV), v10 = .int .i64 (i : Int) ∧ v11 = .int .i64 (j : Int) ∧ 0 < i ∧ 0 < j ∧ i ≤ i0 ∧ j ≤ j0 ∧ Hid (Rt m i j C T) ∧ Hid (ML wr g A n c C) ∧ Hid (w.grownBy wr (some g))) (fun v10 v11 _ => (intOf v10).toNat + (intOf v11).toNat)
  case atStart => exact ⟨i0, j0, L, rfl, rfl, by omega, by omega, Nat.le_refl _, Nat.le_refl _, HRT, HM, Lib.hid (gb_refl _ _)⟩
  case round =>
    obtain ⟨i, j, C, rfl, rfl, hi, hj, hi2, hj2, HR, HMC, HG⟩ := hrel
    have HLC := Lib.hid HMC.out.len
    obtain ⟨mi, hmi⟩ : ∃ k, m - i = k := ⟨_, rfl⟩
    have e3 : (m : Int) - (i : Int) = (mi : Int) := by omega
    have w3 : IntKind.i64.wrap (mi : Int) = (mi : Int) := by unfold IntKind.wrap; simp [IntKind.bits, IntKind.signed]; omega
    have HMI := Lib.hid hmi
    clear hmi
    rcases Nat.lt_trichotomy i j with hlt | heq | hgt
    · have d1 : ((i : Int) != (j : Int)) = true := by simp; omega
      have d2 : decide ((j : Int) < (i : Int)) = false := by simp; omega
      obtain ⟨ji, hji⟩ : ∃ k, j - i = k := ⟨_, rfl⟩
      obtain ⟨mj, hmj⟩ : ∃ k, m + j = k := ⟨_, rfl⟩
      obtain ⟨mji, hmji⟩ : ∃ k, m + j - i = k := ⟨_, rfl⟩
      have e4 : (j : Int) - (i : Int) = (ji : Int) := by omega
      have e5 : (m : Int) + (j : Int) = (mj : Int) := by omega
      have e6 : (mj : Int) - (i : Int) = (mji : Int) := by omega
      have w4 : IntKind.i64.wrap (ji : Int) = (ji : Int) := by unfold IntKind.wrap; simp [IntKind.bits, IntKind.signed]; omega
      have w5 : IntKind.i64.wrap (mj : Int) = (mj : Int) := by unfold IntKind.wrap; simp [IntKind.bits, IntKind.signed]; omega
      have w6 : IntKind.i64.wrap (mji : Int) = (mji : Int) := by unfold IntKind.wrap; simp [IntKind.bits, IntKind.signed]; omega
      have HJ := Lib.hid (And.intro hji (And.intro hmj hmji))
      have hm1 := HMI.out
      have hb1 : mi + i ≤ n ∧ mji + i ≤ n := by omega
      have HB1 := Lib.hid hb1
      clear hji hmj hmji hm1 hb1
      go_wp2_with fail
      refine (nd_swap wr g A n c C mi mji i HMC.out HB1.out.1 HB1.out.2 hn).mono ?_
      rintro e w5 ⟨rfl, hm5, hg5⟩
      have HM5 := Lib.hid hm5
      have HG5 := Lib.hid (gb_trans HG.out hg5)
      clear hm5 hg5
      go_wp2_with fail
      refine ⟨⟨i, ji, _, rfl, rfl, hi, by have := HJ.out; omega, hi2, by have := HJ.out; omega, Lib.hid ?_, HM5, HG5⟩, by have := HJ.out; simp [intOf]; omega⟩
      have r := HR.out.right (by omega) hlt (by rw [HLC.out]; omega)
      rw [HMI.out, HJ.out.1, HJ.out.2.2] at r
      exact r
    · subst heq
      have hm1 := HMI.out
      have hb1 : mi + i ≤ n ∧ m + i ≤ n := by omega
      have HB1 := Lib.hid hb1
      clear hm1 hb1
      go_wp2_with fail
      refine (nd_swap wr g A n c C mi m i HMC.out HB1.out.1 HB1.out.2 hn).mono ?_
      rintro e w5 ⟨rfl, hm5, hg5⟩
      have HM5 := Lib.hid hm5
      have HG5 := Lib.hid (gb_trans HG.out hg5)
      clear hm5 hg5
      go_wp2_with fail
      go_end0
      have r := HR.out.done (by omega) (by rw [HLC.out]; omega)
      rw [HMI.out] at r
      exact ⟨rfl, r ▸ HM5.out, HG5.out⟩
    · have d1 : ((i : Int) != (j : Int)) = true := by simp; omega
      have d2 : decide ((j : Int) < (i : Int)) = true := by simp; omega
      obtain ⟨ij, hij⟩ : ∃ k, i - j = k := ⟨_, rfl⟩
      have e4 : (i : Int) - (j : Int) = (ij : Int) := by omega
      have w4 : IntKind.i64.wrap (ij : Int) = (ij : Int) := by unfold IntKind.wrap; simp [IntKind.bits, IntKind.signed]; omega
      have HJ := Lib.hid hij
      have hm1 := HMI.out
      have hb1 : mi + j ≤ n ∧ m + j ≤ n := by omega
      have HB1 := Lib.hid hb1
      clear hij hm1 hb1
      go_wp2_with fail
      refine (nd_swap wr g A n c C mi m j HMC.out HB1.out.1 HB1.out.2 hn).mono ?_
      rintro e w5 ⟨rfl, hm5, hg5⟩
      have HM5 := Lib.hid hm5
      have HG5 := Lib.hid (gb_trans HG.out hg5)
      clear hm5 hg5
      go_wp2_with fail
      refine ⟨⟨ij, j, _, rfl, rfl, by have := HJ.out; omega, hj, by have := HJ.out; omega, hj2, Lib.hid ?_, HM5, HG5⟩, by have := HJ.out; simp [intOf]; omega⟩
      have r := HR.out.left (by omega) hgt (by rw [HLC.out]; omega)
      rw [HMI.out, HJ.out] at r
      exact r
end Go.Proofs.Ytaebmhbggbpnoaa
