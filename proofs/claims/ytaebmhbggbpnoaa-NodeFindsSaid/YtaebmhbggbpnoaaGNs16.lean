/- The walks of the reference's Less and Part. Conditions: each theorem's premises. -/
import Derived.Test.YtaebmhbggbpnoaaGNs1
import Derived.Test.YtaebmhbggbpnoaaGNd4
import Derived.Lib.IndexBytes
import Derived.Laws.RangeAny
import Derived.BigQuiet
namespace Go.Proofs.Ytaebmhbggbpnoaa
open Go.RowKit
theorem lt_at : ∀ {i : Nat} {x y : List UInt8} {a b : UInt8}, x.take i = y.take i → x[i]? = some a → y[i]? = some b → a ≠ b → (x < y ↔ a < b)
  | _, [], _, _, _, _, hx, _, _ => by simp at hx
  | _, _ :: _, [], _, _, _, _, hy, _ => by simp at hy
  | 0, _ :: _, _ :: _, _, _, _, hx, hy, hn => by
    simp only [List.getElem?_cons_zero, Option.some.injEq] at hx hy
    subst hx
    subst hy
    rw [List.cons_lt_cons_iff]
    exact ⟨fun h => h.elim id (fun h => absurd h.1 hn), .inl⟩
  | i + 1, c :: x, d :: y, a, b, ht, hx, hy, hn => by
    simp only [List.take_succ_cons, List.cons.injEq] at ht
    obtain ⟨rfl, ht⟩ := ht
    rw [List.cons_lt_cons_iff, ← lt_at ht (by simpa using hx) (by simpa using hy) hn]
    exact ⟨fun h => h.elim (fun h => absurd h (UInt8.lt_irrefl _)) (fun h => h.2), fun h => .inr ⟨rfl, h⟩⟩
theorem lt_end : ∀ {i : Nat} {x y : List UInt8}, x.take i = y.take i → i ≤ x.length → i ≤ y.length → (x.length ≤ i ∨ y.length ≤ i) → (x < y ↔ x.length < y.length)
  | _, [], [], _, _, _, _ => by simp
  | _, [], _ :: _, _, _, _, _ => by simp
  | _, _ :: _, [], _, _, _, _ => by simp
  | 0, _ :: _, _ :: _, _, _, _, h => by simp at h
  | i + 1, c :: x, d :: y, ht, hx, hy, h => by
    simp only [List.take_succ_cons, List.cons.injEq, List.length_cons] at ht hx hy h
    obtain ⟨rfl, ht⟩ := ht
    rw [List.cons_lt_cons_iff, List.length_cons, List.length_cons, lt_end ht (by omega) (by omega) (by omega)]
    constructor
    · rintro (h1 | ⟨-, h1⟩)
      · exact absurd h1 (UInt8.lt_irrefl _)
      · omega
    · intro h1
      exact .inr ⟨rfl, by omega⟩
theorem at_byte (s : ByteArray) {i : Nat} (h : i < s.size) : s.toList[i]? = some s[i] := by
  rw [ByteArray.toList_eq]
  exact Lib.data_getElem? s i h
theorem toList_size (s : ByteArray) : s.toList.length = s.size := by
  rw [ByteArray.toList_eq]
  simp
theorem less_at {s t : ByteArray} {i a b : Nat} (hs : i < s.size) (ht : i < t.size) (h : s.toList.take i = t.toList.take i) (ha : (s[i]).toNat = a) (hb : (t[i]).toNat = b) (hn : a ≠ b) : decide (s.toList < t.toList) = decide (a < b) := by
  have h1 : s[i] ≠ t[i] := fun e => hn (by rw [← ha, ← hb, e])
  rw [decide_eq_decide, lt_at h (at_byte s hs) (at_byte t ht) h1, UInt8.lt_iff_toNat_lt, ha, hb]
set_option maxRecDepth 100000 in
theorem nd_less (w : World) (s t : ByteArray) (hsz : s.size ≤ 1000000) :
    Calls Try.prog 119 #[.string s, .string t] w fun e w' => e = .returned (.bool (decide (s.toList < t.toList))) ∧ Below w.heap.size w w' := by
  go_enter Try.func119, Try.ntmps119
  go_wp2_with fail
  go_loopw [5] (fun v5 wr => Hid (Below w.heap.size w wr) ∧ ∃ i : Nat, i ≤ s.size ∧ i ≤ t.size ∧ v5 = .int .i64 (i : Int) ∧ Hid (s.toList.take i = t.toList.take i)) (fun v5 _ => s.size - (intOf v5).toNat)
  case atStart => exact ⟨Lib.hid (Below.refl _ _), 0, Nat.zero_le _, Nat.zero_le _, rfl, Lib.hid (by simp)⟩
  case round =>
    obtain ⟨HB, i, hi1, hi2, rfl, HT⟩ := hrel
    by_cases hs : i < s.size
    · have hs' : (i : Int) < (s.size : Int) := by omega
      by_cases ht : i < t.size
      · have ht' : (i : Int) < (t.size : Int) := by omega
        obtain ⟨a, ha⟩ : ∃ a, (s[i]).toNat = a := ⟨_, rfl⟩
        obtain ⟨b, hb⟩ : ∃ b, (t[i]).toNat = b := ⟨_, rfl⟩
        by_cases hd : a = b
        · have HN : Hid (s.toList.take (i + 1) = t.toList.take (i + 1)) := Lib.hid (by
            rw [take_snoc (at_byte s hs), take_snoc (at_byte t ht), HT.out, UInt8.toNat_inj.1 (ha.trans (hd.trans hb.symm))])
          have hd1 : ((a : Int) == (b : Int)) = true := by simp [hd]
          clear hd
          go_wp2_with fail
          go_quiet (fail)
          go_wp2_with fail
          exact ⟨⟨Lib.hid (by first | exact below_drewN HB.out _ | simpa using below_drewN HB.out _), i + 1, by omega, by omega, by go_num, HN⟩, by simp [intOf]; omega⟩
        · have HN := Lib.hid (less_at hs ht HT.out ha hb hd)
          have hd1 : ((a : Int) == (b : Int)) = false := by simp; omega
          clear hd
          go_wp2_with fail
          go_quiet (fail)
          go_wp2_with fail
          go_quiet (fail)
          go_wp2_with fail
          go_ret
          exact ⟨ret_bool HN.out.symm, by first | exact below_drewN HB.out _ | simpa using below_drewN HB.out _⟩
      · have ht' : ¬ (i : Int) < (t.size : Int) := by omega
        have HN : Hid (decide (s.toList < t.toList) = decide (s.size < t.size)) := Lib.hid (by
          rw [decide_eq_decide, lt_end HT.out (by rw [toList_size]; omega) (by rw [toList_size]; omega) (.inr (by rw [toList_size]; omega)), toList_size, toList_size])
        go_wp2_with fail
        go_ret
        exact ⟨ret_bool HN.out.symm, HB.out⟩
    · have hs' : ¬ (i : Int) < (s.size : Int) := by omega
      have HN : Hid (decide (s.toList < t.toList) = decide (s.size < t.size)) := Lib.hid (by
        rw [decide_eq_decide, lt_end HT.out (by rw [toList_size]; omega) (by rw [toList_size]; omega) (.inl (by rw [toList_size]; omega)), toList_size, toList_size])
      go_wp2_with fail
      go_ret
      exact ⟨ret_bool HN.out.symm, HB.out⟩
/-! ### Part -/
theorem idx_from (s : ByteArray) : ∀ (f pos : Nat), s.size ≤ pos + f → (0 ≤ Lib.idxFuncFrom oddR true s f pos ↔ ∃ (i : Nat) (h : i < s.size), pos ≤ i ∧ oddR (s[i]).toNat = true)
  | 0, pos, hf => by
    simp only [Lib.idxFuncFrom]
    constructor
    · intro h; omega
    · rintro ⟨i, h, h1, -⟩; omega
  | f + 1, pos, hf => by
    rw [Lib.idxFuncFrom]
    by_cases hp : pos < s.size
    · rw [if_pos hp]
      by_cases ha : (s[pos]).toNat < 128
      · rw [Go.decode_ascii s pos hp ha]
        simp only
        by_cases ho : oddR (s[pos]).toNat = true
        · rw [if_pos ho]
          exact ⟨fun _ => ⟨pos, hp, Nat.le_refl _, ho⟩, fun _ => by omega⟩
        · rw [if_neg ho, idx_from s f (pos + 1) (by omega)]
          constructor
          · rintro ⟨i, h, h1, h2⟩; exact ⟨i, h, by omega, h2⟩
          · rintro ⟨i, h, h1, h2⟩
            rcases Nat.lt_or_ge pos i with h3 | h3
            · exact ⟨i, h, h3, h2⟩
            · obtain rfl : i = pos := by omega
              exact absurd h2 ho
      · have h1 := (Go.decode_high s pos hp (by omega)).1
        have ho : oddR (Utf8.decode s pos).1 = true := by unfold oddR; simp; omega
        rw [if_pos ho]
        refine ⟨fun _ => ⟨pos, hp, Nat.le_refl _, ?_⟩, fun _ => by omega⟩
        unfold oddR
        simp
        omega
    · rw [if_neg hp]
      constructor
      · intro h; omega
      · rintro ⟨i, h, h1, -⟩; omega
theorem idx_any (s : ByteArray) : 0 ≤ Lib.idxFunc oddR true s ↔ ∃ (i : Nat) (h : i < s.size), oddR (s[i]).toNat = true := by
  unfold Lib.idxFunc
  rw [idx_from s s.size 0 (by omega)]
  simp
theorem toList_nil {s : ByteArray} : s.toList = [] ↔ s.size < 1 := by
  rw [← List.length_eq_zero_iff, toList_size]
  omega
set_option maxRecDepth 100000 in
theorem nd_rpart (w : World) (s : ByteArray) : Calls Try.prog 122 #[.string s] w fun e w' => e = .returned (.bool (partB s)) ∧ Below w.heap.size w w' := by
  by_cases h0 : s.size < 1
  · have HE : Hid (partB s = false) := Lib.hid (if_pos (.inl (toList_nil.2 h0)))
    have h0' : (s.size : Int) < 1 := by omega
    go_enter Try.func122, Try.ntmps122
    go_wp2_with fail
    go_ret
    exact ⟨ret_bool HE.out.symm, Below.refl _ _⟩
  · have h0' : ¬ (s.size : Int) < 1 := by omega
    by_cases h1 : 20 < s.size
    · have HE : Hid (partB s = false) := Lib.hid (if_pos (.inr (.inl h1)))
      have h1' : (20 : Int) < (s.size : Int) := by omega
      go_enter Try.func122, Try.ntmps122
      go_wp2_with fail
      go_ret
      exact ⟨ret_bool HE.out.symm, Below.refl _ _⟩
    · have h1' : ¬ (20 : Int) < (s.size : Int) := by omega
      by_cases h2 : s.toList = [46]
      · have HE : Hid (partB s = false) := Lib.hid (if_pos (.inr (.inr (.inl h2))))
        go_enter Try.func122, Try.ntmps122
        go_wp2_with fail
        go_ret
        exact ⟨ret_bool HE.out.symm, Below.refl _ _⟩
      · by_cases h3 : s.toList = [46, 46]
        · have HE : Hid (partB s = false) := Lib.hid (if_pos (.inr (.inr (.inr h3))))
          go_enter Try.func122, Try.ntmps122
          go_wp2_with fail
          go_ret
          exact ⟨ret_bool HE.out.symm, Below.refl _ _⟩
        · have HE : Hid (partB s = !decide (0 ≤ Lib.idxFunc oddR true s)) := Lib.hid (if_neg (by
            rintro (e | e | e | e)
            · exact h0 (toList_nil.1 e)
            · omega
            · exact h2 e
            · exact h3 e))
          have d2 : (s.toList == [46]) = false := by simpa using h2
          have d3 : (s.toList == [46, 46]) = false := by simpa using h3
          clear h2 h3
          go_enter Try.func122, Try.ntmps122
          go_wp2_with fail
          go_loopw [3] (fun v3 wr => Hid (Below w.heap.size w wr) ∧ ∃ i : Nat, i ≤ s.size ∧ v3 = .int .i64 (i : Int) ∧ Hid (∀ (j : Nat) (h : j < s.size), j < i → oddR (s[j]).toNat = false)) (fun v3 _ => s.size - (intOf v3).toNat)
          case atStart => exact ⟨Lib.hid (Below.refl _ _), 0, Nat.zero_le _, rfl, Lib.hid (by omega)⟩
          case round =>
            obtain ⟨HB, i, hi, rfl, HI⟩ := hrel
            by_cases hlt : i < s.size
            · have hlt' : (i : Int) < (s.size : Int) := by omega
              obtain ⟨a, ha⟩ : ∃ a, (s[i]).toNat = a := ⟨_, rfl⟩
              by_cases c1 : (a : Int) < 33
              · have HN : Hid (partB s = false) := Lib.hid (by rw [HE.out, decide_eq_true ((idx_any s).2 ⟨i, hlt, by rw [ha]; unfold oddR; simp; omega⟩)]; rfl)
                go_wp2_with fail
                go_ret
                exact ⟨ret_bool HN.out.symm, HB.out⟩
              · by_cases c2 : (126 : Int) < (a : Int)
                · have HN : Hid (partB s = false) := Lib.hid (by rw [HE.out, decide_eq_true ((idx_any s).2 ⟨i, hlt, by rw [ha]; unfold oddR; simp; omega⟩)]; rfl)
                  go_wp2_with fail
                  go_ret
                  exact ⟨ret_bool HN.out.symm, HB.out⟩
                · by_cases c3 : ((a : Int) == 47) = true
                  · have HN : Hid (partB s = false) := Lib.hid (by rw [HE.out, decide_eq_true ((idx_any s).2 ⟨i, hlt, by rw [ha]; unfold oddR; simp [c3]⟩)]; rfl)
                    go_wp2_with fail
                    go_ret
                    exact ⟨ret_bool HN.out.symm, HB.out⟩
                  · have c3' : ((a : Int) == 47) = false := by simpa using c3
                    have HN : Hid (oddR (s[i]).toNat = false) := Lib.hid (by rw [ha]; unfold oddR; rw [decide_eq_false c1, decide_eq_false c2, c3']; rfl)
                    clear c3
                    go_wp2_with fail
                    exact ⟨⟨HB, i + 1, by omega, by go_num, Lib.hid fun j h hj => by
                      rcases Nat.lt_or_ge j i with h1 | h1
                      · exact HI.out j h h1
                      · obtain rfl : j = i := by omega
                        exact HN.out⟩, by simp [intOf]; omega⟩
            · obtain rfl : i = s.size := by omega
              have HN : Hid (partB s = true) := Lib.hid (by
                rw [HE.out, decide_eq_false (fun h => by
                  obtain ⟨j, hj, ho⟩ := (idx_any s).1 h
                  rw [HI.out j hj hj] at ho
                  cases ho)]
                rfl)
              go_wp2_with fail
              go_ret
              exact ⟨ret_bool HN.out.symm, HB.out⟩
end Go.Proofs.Ytaebmhbggbpnoaa
