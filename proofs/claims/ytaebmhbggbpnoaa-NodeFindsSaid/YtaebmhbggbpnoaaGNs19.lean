/- The walk of Find (node). Conditions: each theorem's premises. -/
import Derived.Test.YtaebmhbggbpnoaaGNs17
import Derived.Test.YtaebmhbggbpnoaaGNd20
namespace Go.Proofs.Ytaebmhbggbpnoaa
open Go.RowKit
theorem rightE_step {l : List EV} (h : rightE l = true) {i : Nat} (hi : i < l.length) : stepD partB cmpS l i = true := by
  unfold rightE rightD at h
  rw [Bool.and_eq_true] at h
  exact List.all_eq_true.1 h.1 i (List.mem_range.2 hi)
theorem rightE_kl {l : List EV} (h : rightE l = true) : ∀ (d i : Nat) (x y : EV), l[i]? = some x → l[i + d + 1]? = some y → kl x y
  | 0, i, x, y, hx, hy => by
    have h1 := rightE_step h (List.getElem?_eq_some_iff.1 hy).1
    rw [stepD_of hx hy, Bool.and_eq_true] at h1
    exact (kl_cmp x y).1 (by simpa using h1.2)
  | d + 1, i, x, y, hx, hy => by
    have h0 := (List.getElem?_eq_some_iff.1 hy).1
    obtain ⟨z, hz⟩ : ∃ z, l[i + d + 1]? = some z := ⟨_, List.getElem?_eq_getElem (by omega)⟩
    exact kl_trans (rightE_kl h d i x z hx hz) (rightE_kl h 0 (i + d + 1) z y hz hy)
theorem rightE_sorted {l : List EV} (h : rightE l = true) (i j : Nat) (x y : EV) (hij : i < j) (hx : l[i]? = some x) (hy : l[j]? = some y) : kl x y := by
  obtain ⟨d, rfl⟩ : ∃ d, j = i + d + 1 := ⟨j - i - 1, by omega⟩
  exact rightE_kl h d i x y hx hy
/-- A name's entry among right entries. -/
def findE (l : List EV) (name : ByteArray) : Option EV := if rightE l = true then l.find? (fun x => decide (x.name = name)) else none
theorem findE_no {l : List EV} {name : ByteArray} (h : rightE l = false) : findE l name = none := by
  unfold findE
  rw [h]
  rfl
theorem findE_none {l : List EV} {name : ByteArray} (h : hasN l name = false) : findE l name = none := by
  unfold findE
  split
  · rw [List.find?_eq_none]
    intro x hx
    have := List.any_eq_false.1 h x hx
    simpa using this
  · rfl
theorem findE_some {l : List EV} {name : ByteArray} (h : rightE l = true) {i : Nat} {x : EV} (hx : l[i]? = some x) (hn : x.name = name) : findE l name = some x := by
  unfold findE
  rw [if_pos h]
  cases hf : l.find? (fun x => decide (x.name = name)) with
  | none =>
    rw [List.find?_eq_none] at hf
    exact absurd (by simp [hn]) (hf x (List.mem_of_getElem? hx))
  | some y =>
    have h1 : y.name = name := by simpa using List.find?_some hf
    obtain ⟨j, hj, he⟩ := List.mem_iff_getElem.1 (List.mem_of_find?_eq_some hf)
    have hy : l[j]? = some y := by rw [← he]; exact List.getElem?_eq_getElem hj
    rcases Nat.lt_trichotomy i j with h2 | h2 | h2
    · exact absurd (hn.trans h1.symm) (kl_ne (rightE_sorted h i j x y h2 hx hy))
    · subst h2
      rw [hx] at hy
      exact hy.symm
    · exact absurd (h1.trans hn.symm) (kl_ne (rightE_sorted h j i y x h2 hy hx))
theorem built144z : Try.prog.built 144 [] = some (EC noEnt) := by kernel_rfl
set_option maxRecDepth 100000 in
set_option maxHeartbeats 4000000 in
theorem nd_find (w : World) (S : Nat → Prop) (A : Option Addr) (n c : Nat) (l : List EV) (name : ByteArray) (hx : Es w S A n c l) (hn : n ≤ 100000) :
    Calls Try.prog 85 #[.slice A n c, .string name] w fun e w' => e = .returned (.tuple #[.agg (EC ((findE l name).getD noEnt)), .bool (findE l name).isSome]) ∧ Below w.heap.size w w' := by
  obtain ⟨W, hW⟩ : ∃ W, W = w.alloc (.cells #[.string ⟨#[]⟩, .bool false, .int .u8 0, .int .u8 0, .int .u8 0, .int .u8 0, .int .u8 0, .int .u8 0, .int .u8 0, .int .u8 0, .int .u8 0, .int .u8 0, .int .u8 0, .int .u8 0, .int .u8 0, .int .u8 0, .int .u8 0, .int .u8 0, .int .u8 0, .int .u8 0, .int .u8 0, .int .u8 0, .int .u8 0, .int .u8 0, .int .u8 0, .int .u8 0, .int .u8 0, .int .u8 0, .int .u8 0, .int .u8 0, .int .u8 0, .int .u8 0, .int .u8 0, .int .u8 0] 144) := ⟨_, rfl⟩
  have HB : Hid (∀ w', Below W.heap.size W w' → Below w.heap.size w w' ∧ Blk w' w.heap.size 144 (EC noEnt)) := Lib.hid fun w' h => by
    have h0 : Below w.heap.size w W := by rw [hW]; exact (Below.refl _ _).alloc (Nat.le_refl _) _
    exact ⟨h0.trans (h.mono h0.size), Blk.below (by rw [hW]; exact box144 w) h (by rw [hW]; simp)⟩
  have HSW : Hid (W.heap.size = w.heap.size + 1) := Lib.hid (by rw [hW]; simp)
  have HXW := Lib.hid (hx.after (by omega) (HB.out W (Below.refl _ _)).1)
  obtain ⟨RZ, hRZ⟩ : ∃ R, R = EC noEnt := ⟨_, rfl⟩
  have HRZ := Lib.hid hRZ
  have HZS : Hid (RZ.size = 34) := Lib.hid (by rw [hRZ]; exact EC_size noEnt_ok)
  have HZ1 : Hid (RZ.all (·.oneCell') = true) := Lib.hid (by rw [hRZ]; exact EC_one noEnt)
  have HBT : Hid (Try.prog.built 144 [] = some RZ) := Lib.hid (by rw [hRZ]; exact built144z)
  have HB' : Hid (∀ w', Below W.heap.size W w' → Blk w' w.heap.size 144 RZ) := Lib.hid (by rw [hRZ]; exact fun w' h => (HB.out w' h).2)
  clear hx hRZ
  cases hR : rightE l with
  | false =>
    have HF := Lib.hid (findE_no (name := name) hR)
    have HRE := Lib.hid hR
    clear hR
    go_enter Try.func85, Try.ntmps85
    go_wp2_with fail
    rw [← hW]
    clear hW
    refine (nd_right W S A n c l HXW.out (by omega)).mono ?_
    rintro e w1 ⟨rfl, hb1⟩
    rw [HRE.out]
    have HB1 := Lib.hid hb1
    clear hb1
    go_wp2_with (first | (refine wl_buildG (cs := RZ) rfl 144 #[] rfl (by simp only [List.map_toArray, List.map_nil]; exact HBT.out) ?_) | (refine wl_stA (cs := RZ) rfl 144 (.tmp 4) (.tmp 11) rfl (by rw [HZS.out]; exact wide144) rfl rfl (HB'.out _ HB1.out) (by rw [HZS.out]) HZ1.out ?_; intro w2 hb2 hg2 hf2; go_must ((have HB2 := Lib.hid hb2; have HF2 := Lib.hid (((HB.out _ HB1.out).1).trans (hf2 _ (Nat.le_refl _))); clear hb2 hg2 hf2))))
    refine bodyPost_ret (results144 rfl _ _ _ _ noEnt noEnt_ok rfl (by rw [← HRZ.out]; exact HB2.out)) rfl ⟨by rw [HF.out]; rfl, HF2.out⟩
  | true =>
    have HRE := Lib.hid hR
    clear hR
    go_enter Try.func85, Try.ntmps85
    go_wp2_with fail
    rw [← hW]
    clear hW
    refine (nd_right W S A n c l HXW.out (by omega)).mono ?_
    rintro e w1 ⟨rfl, hb1⟩
    rw [HRE.out]
    have HB1 := Lib.hid hb1
    have HX1 := Lib.hid (HXW.out.after (by omega) hb1)
    clear hb1
    go_wp2_with fail
    refine (nd_bsearch w1 S A n c l name HX1.out hn (rightE_sorted HRE.out)).mono ?_
    rintro e w2 ⟨i, rfl, hi, hb2⟩
    have HB2 := Lib.hid (HB1.out.trans (hb2.mono HB1.out.size))
    have HX2 := Lib.hid (HX1.out.after (by omega) hb2)
    have HI := Lib.hid hi
    clear hb2 hi
    cases hH : hasN l name with
    | false =>
      have HF := Lib.hid (findE_none hH)
      clear hH
      go_wp2_with (first | (refine wl_buildG (cs := RZ) rfl 144 #[] rfl (by simp only [List.map_toArray, List.map_nil]; exact HBT.out) ?_) | (refine wl_stA (cs := RZ) rfl 144 (.tmp 4) (.tmp 20) rfl (by rw [HZS.out]; exact wide144) rfl rfl (HB'.out _ HB2.out) (by rw [HZS.out]) HZ1.out ?_; intro w3 hb3 hg3 hf3; go_must ((have HB3 := Lib.hid hb3; have HF3 := Lib.hid (((HB.out _ HB2.out).1).trans (hf3 _ (Nat.le_refl _))); clear hb3 hg3 hf3))))
      refine bodyPost_ret (results144 rfl _ _ _ _ noEnt noEnt_ok rfl (by rw [← HRZ.out]; exact HB3.out)) rfl ⟨by rw [HF.out]; rfl, HF3.out⟩
    | true =>
      obtain ⟨x, hxi, hxn⟩ := HI.out hH
      have HF := Lib.hid (findE_some HRE.out hxi hxn)
      have hin : i < n := by
        have h1 := (List.getElem?_eq_some_iff.1 hxi).1
        have h2 := HX2.out.len
        omega
      have hin' : (i : Int) < (n : Int) := by omega
      obtain ⟨ad, p, x', rfl, hp, hl, hat, hsz, -⟩ := HX2.out.at_ hin
      obtain rfl : x' = x := by
        have h1 := hl.out
        rw [hxi] at h1
        injection h1 with h1
        exact h1.symm
      obtain ⟨R, hRX⟩ : ∃ R, R = EC x' := ⟨_, rfl⟩
      have HRX := Lib.hid hRX
      have HOK : Hid x'.ok := Lib.hid (by have := hsz; simp [EC, u8s] at this; exact this)
      rw [← hRX] at hat hsz
      have HS := Lib.hid hsz
      have HO : Hid (R.all (·.oneCell') = true) := Lib.hid (by rw [hRX]; exact EC_one x')
      clear hH hxi hxn hl hsz hRX hin
      go_wp2_with (first | (refine wl_ldA (cs := R) rfl 144 (.tmp 23) rfl (by rw [HS.out]; exact wide144) rfl hat.out ?_) | (refine wl_stA (cs := R) rfl 144 (.tmp 4) (.tmp 24) rfl (by rw [HS.out]; exact wide144) rfl rfl (HB'.out _ HB2.out) (by rw [HS.out, HZS.out]) HO.out ?_; intro w3 hb3 hg3 hf3; go_must ((have HB3 := Lib.hid hb3; have HF3 := Lib.hid (((HB.out _ HB2.out).1).trans (hf3 _ (Nat.le_refl _))); clear hb3 hg3 hf3))))
      refine bodyPost_ret (results144 rfl _ _ _ _ x' HOK.out rfl (by rw [← HRX.out]; exact HB3.out)) rfl ⟨by rw [HF.out]; rfl, HF3.out⟩
end Go.Proofs.Ytaebmhbggbpnoaa
