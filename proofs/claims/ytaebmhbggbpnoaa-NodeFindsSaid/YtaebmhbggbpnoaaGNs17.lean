/- The walks of against, BinarySearchFunc over entries, Find (node). Conditions: each theorem's premises. -/
import Derived.Test.YtaebmhbggbpnoaaGNs14
import Derived.Deep.DeepCutAuto
namespace Go.Proofs.Ytaebmhbggbpnoaa
open Go.RowKit
set_option maxRecDepth 100000 in
theorem nd_against (w : World) (a : EV) (name : ByteArray) :
    Calls Try.prog 121 #[.agg (EC a), .string name] w fun e w' => e = .returned (.int .i64 (cmpS a.name name)) ∧ Below w.heap.size w w' := by
  obtain ⟨RA, hRA⟩ : ∃ R, R = EC a := ⟨_, rfl⟩
  have e0 : RA[0]? = some (.string a.name) := by rw [hRA]; exact EC_0 a
  have HB := Lib.hid ((Below.refl w.heap.size w).alloc (Nat.le_refl _) (.cells RA 144))
  rw [← hRA]
  clear hRA
  go_enter Try.func121, Try.ntmps121
  go_wp2_with fail
  refine (nd_cmp _ a.name name).mono ?_
  rintro e w1 ⟨rfl, rfl⟩
  go_wp2_with fail
  go_ret
  exact ⟨rfl, HB.out⟩
/-- A name as an entry of its own. -/
def ofName (name : ByteArray) : EV := ⟨name, false, noName⟩
theorem cmp_lt (x : EV) (name : ByteArray) : cmpS x.name name < 0 ↔ kl x (ofName name) := kl_cmp x (ofName name)
theorem cmp_eq0 (a b : ByteArray) : cmpS a b = 0 ↔ a = b := by
  unfold cmpS
  constructor
  · intro h
    split at h
    · cases h
    · split at h
      · cases h
      · rename_i h2
        exact name_ext (by simpa using h2)
  · rintro rfl
    rw [if_neg, if_neg]
    · simp
    · rw [bytesLess_eq]
      simp
theorem Ls.twoE {w : World} {S : Nat → Prop} {A : Option Addr} {n c : Nat} {l : List EV} (h : Es w S A n c l) {i : Nat} (hi : i < n) (name : ByteArray) :
    ∃ ad p x R z, A = some ad ∧ ad.add (i * 34) = p ∧ Hid (l[i]? = some x) ∧ Hid (At w p R) ∧ Hid (R.size = 34) ∧ Hid (R = EC x) ∧ Hid (z = cmpS x.name name) ∧
      Hid (∀ W, Calls Try.prog 121 #[.agg R, .string name] W fun e w' => e = .returned (.int .i64 z) ∧ Below W.heap.size W w') := by
  obtain ⟨ad, p, x, h1, h2, h3, h4, h5, -⟩ := h.at_ hi
  exact ⟨ad, p, x, _, _, h1, h2, h3, h4, Lib.hid h5, Lib.hid rfl, Lib.hid rfl, Lib.hid fun W => nd_against W x name⟩
/-- Does an entry bear a name? -/
def hasN (l : List EV) (name : ByteArray) : Bool := l.any fun x => decide (x.name = name)
theorem hasN_yes {l : List EV} {name : ByteArray} {i : Nat} {x : EV} (h : l[i]? = some x) (hn : x.name = name) : hasN l name = true :=
  List.any_eq_true.2 ⟨x, List.mem_of_getElem? h, by simp [hn]⟩
theorem hasN_no {l : List EV} {name : ByteArray} (h : ∀ (j : Nat) (x : EV), l[j]? = some x → x.name ≠ name) : hasN l name = false :=
  List.any_eq_false.2 fun x hx => by
    obtain ⟨j, hj, he⟩ := List.mem_iff_getElem.1 hx
    simp [h j x (by rw [← he]; exact List.getElem?_eq_getElem hj)]
theorem none_found {l : List EV} {name : ByteArray} {i : Nat} (hs : ∀ (i j : Nat) (x y : EV), i < j → l[i]? = some x → l[j]? = some y → kl x y) (hlo : ∀ (p : Nat) (x : EV), p < i → l[p]? = some x → kl x (ofName name)) (hhi : ∀ (p : Nat) (x : EV), i ≤ p → l[p]? = some x → ¬ kl x (ofName name)) (hi : ∀ y, l[i]? = some y → y.name ≠ name) (j : Nat) (x : EV) (hx : l[j]? = some x) : x.name ≠ name := fun hn => by
  rcases Nat.lt_or_ge j i with h1 | h1
  · exact kl_ne (hlo j x h1 hx) hn
  · rcases Nat.lt_or_ge i j with h2 | h2
    · obtain ⟨y, hy⟩ : ∃ y, l[i]? = some y := ⟨_, List.getElem?_eq_getElem (by have := (List.getElem?_eq_some_iff.1 hx).1; omega)⟩
      have h3 := hs i j y x h2 hy hx
      refine hhi i y (Nat.le_refl _) hy ?_
      unfold kl at h3 ⊢
      rw [hn] at h3
      exact h3
    · obtain rfl : j = i := by omega
      exact hi x hx hn
set_option maxRecDepth 100000 in
set_option maxHeartbeats 4000000 in
theorem nd_bsearch (w : World) (S : Nat → Prop) (A : Option Addr) (n c : Nat) (l : List EV) (name : ByteArray) (hx : Es w S A n c l) (hn : n ≤ 100000) (hs : ∀ (i j : Nat) (x y : EV), i < j → l[i]? = some x → l[j]? = some y → kl x y) :
    Calls Try.prog 120 #[.slice A n c, .string name, .func (.func 121) #[] #[]] w fun e w' => ∃ i : Nat, e = .returned (.tuple #[.int .i64 (i : Int), .bool (hasN l name)]) ∧ (hasN l name = true → ∃ x, l[i]? = some x ∧ x.name = name) ∧ Below w.heap.size w w' := by
  have HX := Lib.hid hx
  have HL := Lib.hid hx.len
  have HS := Lib.hid hs
  clear hx hs
  go_enter Try.func120, Try.ntmps120
  go_wp2_with fail
  go_loopw [9, 10] (fun v9 v10 wr => ∃ i j : Nat, v9 = .int .i64 (i : Int) ∧ v10 = .int .i64 (j : Int) ∧ i ≤ j ∧ j ≤ n ∧ Hid (Below w.heap.size w wr) ∧ Hid (∀ (p : Nat) (x : EV), p < i → l[p]? = some x → kl x (ofName name)) ∧ Hid (∀ (p : Nat) (x : EV), j ≤ p → l[p]? = some x → ¬ kl x (ofName name))) (fun v9 v10 _ => (intOf v10).toNat - (intOf v9).toNat)
  case atStart => exact ⟨0, n, by go_num, by go_num, Nat.zero_le _, Nat.le_refl _, Lib.hid (Below.refl _ _), Lib.hid (fun p x h => absurd h (Nat.not_lt_zero _)), Lib.hid (fun p x h1 h2 => by
    have h3 := HL.out
    rw [List.getElem?_eq_none (by omega)] at h2
    cases h2)⟩
  case round =>
    obtain ⟨i, j, rfl, rfl, hij, hjn, HB, HLO, HHI⟩ := hrel
    by_cases hlt : i < j
    · have hlt' : (i : Int) < (j : Int) := by omega
      obtain ⟨s, hs⟩ : ∃ s, i + j = s := ⟨_, rfl⟩
      obtain ⟨h, hh⟩ : ∃ h, s / 2 = h := ⟨_, rfl⟩
      have e1 : (i : Int) + (j : Int) = (s : Int) := by omega
      have e2 : (s : Int) / 2 = (h : Int) := by omega
      have w1 : IntKind.i64.wrap (s : Int) = (s : Int) := by unfold IntKind.wrap; simp [IntKind.bits, IntKind.signed]; omega
      have w2 : IntKind.u64.wrap (s : Int) = (s : Int) := by unfold IntKind.wrap; simp [IntKind.bits, IntKind.signed]; omega
      have w3 : IntKind.u64.wrap (h : Int) = (h : Int) := by unfold IntKind.wrap; simp [IntKind.bits, IntKind.signed]; omega
      have w4 : IntKind.i64.wrap (h : Int) = (h : Int) := by unfold IntKind.wrap; simp [IntKind.bits, IntKind.signed]; omega
      have HH : Hid (i ≤ h ∧ h < j ∧ h < n) := Lib.hid (by omega)
      have l1 : (h : Int) < (n : Int) := by omega
      have l2 : h + 1 ≤ n := by omega
      obtain ⟨ad, p, x, R, z, rfl, hp, hl, HAT, HSZ, HR, HZ, HC⟩ := (HX.out.after (by omega) HB.out).twoE (i := h) (by omega) name
      clear hs hh
      by_cases hz0 : z < 0
      · have HK : Hid (kl x (ofName name)) := Lib.hid ((cmp_lt x name).1 (by rw [← HZ.out]; exact hz0))
        go_wp2_with (first | (refine wl_ldA (cs := R) rfl 144 (.tmp 27) rfl (by rw [HSZ.out]; exact wide144) rfl HAT.out ?_) | (go_at_call 121; refine (HC.out _).mono ?_; rintro e wq ⟨rfl, hq⟩; have HQ := Lib.hid hq; clear hq))
        exact ⟨⟨h + 1, j, by go_num, rfl, by have := HH.out; omega, hjn, Lib.hid (HB.out.trans (HQ.out.mono HB.out.size)), Lib.hid (fun p y hp hy => by
          rcases Nat.lt_or_ge p h with h1 | h1
          · exact kl_trans (HS.out p h y x h1 hy hl.out) HK.out
          · obtain rfl : p = h := by omega
            rw [hl.out] at hy
            injection hy with hy
            exact hy ▸ HK.out), HHI⟩, by have := HH.out; simp [intOf]; omega⟩
      · have HK : Hid (¬ kl x (ofName name)) := Lib.hid (fun hk => hz0 (by rw [HZ.out]; exact (cmp_lt x name).2 hk))
        go_wp2_with (first | (refine wl_ldA (cs := R) rfl 144 (.tmp 27) rfl (by rw [HSZ.out]; exact wide144) rfl HAT.out ?_) | (go_at_call 121; refine (HC.out _).mono ?_; rintro e wq ⟨rfl, hq⟩; have HQ := Lib.hid hq; clear hq))
        exact ⟨⟨i, h, rfl, rfl, HH.out.1, by omega, Lib.hid (HB.out.trans (HQ.out.mono HB.out.size)), HLO, Lib.hid (fun p y hp hy hk => by
          rcases Nat.lt_or_ge h p with h1 | h1
          · exact HK.out (kl_trans (HS.out h p x y h1 hl.out hy) hk)
          · obtain rfl : p = h := by omega
            rw [hl.out] at hy
            injection hy with hy
            exact HK.out (hy ▸ hk))⟩, by have := HH.out; simp [intOf]; omega⟩
    · obtain rfl : i = j := by omega
      by_cases hin : i < n
      · have hin' : (i : Int) < (n : Int) := by omega
        obtain ⟨ad, p, x, R, z, rfl, hp, hl, HAT, HSZ, HR, HZ, HC⟩ := (HX.out.after (by omega) HB.out).twoE (i := i) hin name
        by_cases hz0 : z = 0
        · have hz1 : (z == 0) = true := by simp [hz0]
          have HN : Hid (x.name = name) := Lib.hid ((cmp_eq0 _ _).1 (by rw [← HZ.out]; exact hz0))
          have HH := Lib.hid (hasN_yes hl.out HN.out)
          clear hz0
          go_wp2_with (first | (refine wl_ldA (cs := R) rfl 144 (.tmp 43) rfl (by rw [HSZ.out]; exact wide144) rfl HAT.out ?_) | (go_at_call 121; refine (HC.out _).mono ?_; rintro e wq ⟨rfl, hq⟩; have HQ := Lib.hid hq; clear hq))
          go_ret2
          exact ⟨i, by rw [HH.out]; rfl, fun _ => ⟨x, hl.out, HN.out⟩, HB.out.trans (HQ.out.mono HB.out.size)⟩
        · have hz1 : (z == 0) = false := by simp [hz0]
          have HN : Hid (∀ y, l[i]? = some y → y.name ≠ name) := Lib.hid (fun y hy hn => hz0 (by
            rw [hl.out] at hy
            injection hy with hy
            rw [HZ.out, cmp_eq0, hy]
            exact hn))
          have HH := Lib.hid (hasN_no (none_found HS.out HLO.out HHI.out HN.out))
          clear hz0
          go_wp2_with (first | (refine wl_ldA (cs := R) rfl 144 (.tmp 43) rfl (by rw [HSZ.out]; exact wide144) rfl HAT.out ?_) | (go_at_call 121; refine (HC.out _).mono ?_; rintro e wq ⟨rfl, hq⟩; have HQ := Lib.hid hq; clear hq))
          go_ret2
          exact ⟨i, by rw [HH.out]; rfl, fun h => (by rw [HH.out] at h; cases h), HB.out.trans (HQ.out.mono HB.out.size)⟩
      · have hin' : ¬ (i : Int) < (n : Int) := by omega
        have HH := Lib.hid (hasN_no (none_found HS.out HLO.out HHI.out (fun y hy => by
          have := HL.out
          rw [List.getElem?_eq_none (by omega)] at hy
          cases hy)))
        go_wp2_with fail
        go_ret2
        exact ⟨i, by rw [HH.out]; rfl, fun h => (by rw [HH.out] at h; cases h), HB.out⟩
end Go.Proofs.Ytaebmhbggbpnoaa
