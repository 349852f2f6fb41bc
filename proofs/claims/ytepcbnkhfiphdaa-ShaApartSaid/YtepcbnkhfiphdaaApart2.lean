/- The walk of ShaApart. Conditions: each theorem's premises. -/
import Derived.Test.YtepcbnkhfiphdaaApart1
namespace Go.Proofs.Ytepcbnkhfiphdaa
open Go.RowKit
theorem u8_inc (x : UInt8) : ((x.toNat : Int) + 1) % 256 = (((x + 1 : UInt8).toNat : Nat) : Int) := by
  have := x.toNat_lt
  rw [UInt8.toNat_add, show (1 : UInt8).toNat = 1 from rfl]
  omega
theorem Ap.new {w w1 w2 w3 w4 : World} {g s t n : Nat} {lvo : Value} {bs : List UInt8} (hb1 : Below w.heap.size w w1) (hg : w.heap.size ≤ g) (hg1 : g < w1.heap.size) (hs0 : w1.heap.size ≤ s) (hS : Sm w2 s g (.slice none 0 0) []) (hg2 : w1.grownBy w2 (some g))
    (ht0 : w2.heap.size ≤ t) (hT : Sm w3 t g (.slice none 0 0) []) (hE : En w3 g 1 0 fillF 0) (hg3 : w2.grownBy w3 (some g)) (hb4 : Below w3.heap.size w3 w4) (hO : w4.ownsRow w3.heap.size 5 1 lvo n (u8s bs)) :
    Ap w w4 g s t w3.heap.size n (.slice none 0 0) (.slice none 0 0) lvo [] [] 0 := by
  have l0 := hS.bk.lt
  have l1 := hT.bk.lt
  have o1 : Only (fun j => j = g) w2 w3 := Only.of_grown hg3 (fun j e => by injection e with e; exact e.symm)
  have z := hb1.size
  exact ⟨⟨0, hE.after hb4, by omega, by omega⟩, (hS.but o1 (by omega) (fun k e => by cases e)).after hb4, hT.after hb4, ⟨bs, hO⟩,
    (hb1.trans ((only_below hg2 hg z).trans ((only_below hg3 hg (Nat.le_trans z hg2.size)).trans (hb4.mono (Nat.le_trans z (Nat.le_trans hg2.size hg3.size)))))), hg, by omega, l1, fun k e => by (cases e), fun k e => by (cases e)⟩
set_option maxRecDepth 100000 in
set_option maxHeartbeats 1000000 in
theorem shaApart_in (w : World) (S S' : Nat → Prop) (A A' : Option Addr) (c c' : Nat) (a b : List UInt8) (hx : Bs w S A a.length c a) (hx' : Bs w S' A' b.length c' b) (ha : a.length ≤ 1000) (hb : b.length ≤ 1000) :
    Calls Try.prog 5 #[.slice A a.length c, .slice A' b.length c'] w fun e w' => e = .returned (.bool true) ∧ Below w.heap.size w w' := by
  have HX := Lib.hid hx.old
  have HY := Lib.hid hx'.old
  clear hx hx'
  obtain ⟨n, hn⟩ : ∃ n, n = a.length := ⟨_, rfl⟩
  obtain ⟨m, hm⟩ : ∃ m, m = b.length := ⟨_, rfl⟩
  rw [← hn] at HX ha
  rw [← hm] at HY hb
  rw [← hn, ← hm]
  have HN := Lib.hid (And.intro hn hm)
  clear hn hm
  have hn' : ¬ (1000 : Int) < (n : Int) := by omega
  have hm' : ¬ (1000 : Int) < (m : Int) := by omega
  go_enter Try.func5, Try.ntmps5
  go_wp2_with fail
  refine (new_any w).mono ?_
  rintro e w1 ⟨rfl, hE, hb1⟩
  have HE := Lib.hid hE
  have HB1 := Lib.hid hb1
  have hgl := hE.lt
  clear hE hb1
  go_wp2_with fail
  refine (stream_any w1 w.heap.size 0 HE.out).mono ?_
  rintro e w2 ⟨s, rfl, hs0, hS, hE2, hg2⟩
  have HS2 := Lib.hid (And.intro hS (And.intro hE2 hg2))
  clear hS hE2 hg2
  go_wp2_with fail
  refine (stream_any w2 w.heap.size 0 (.inl HS2.out.2.1)).mono ?_
  rintro e w3 ⟨t, rfl, ht0, hT, hE3, hg3⟩
  have HS3 := Lib.hid (And.intro hT (And.intro hE3 hg3))
  clear hT hE3 hg3
  have HB3 : Hid (Below w.heap.size w w3) := Lib.hid (HB1.out.trans ((only_below HS2.out.2.2 (Nat.le_refl _) HB1.out.size).trans (only_below HS3.out.2.2 (Nat.le_refl _) (Nat.le_trans HB1.out.size HS2.out.2.2.size))))
  have HXA := Lib.hid ((HX.out.below HB3.out).after ((Below.refl _ _).alloc (Nat.le_refl _) (.cells #[] 5)))
  go_wp2_with (at_builtin; go_must ((refine wpList_append_u8 rfl (.tmp 26) (.tmp 27) rfl (base := w3.heap.size) (v := .slice (some ⟨w3.heap.size, 0, none⟩) 0 0) (n := 0) (xs := []) rfl (World.ownsRow_made w3 #[] 0 (Nat.le_refl _) (by simp [maxLen]) rfl) rfl HXA.out (by omega) (by simp) ?_; intro v1 w4 hown hg hat; obtain ⟨A7, c7, rfl, _⟩ := own_shape hown)))
  simp only [Nat.zero_add, List.nil_append] at hown ⊢
  have hb4 : Below w3.heap.size w3 w4 := ((Below.refl w3.heap.size w3).alloc (Nat.le_refl _) (.cells #[] 5)).trans ((Below.refl w3.heap.size _).grown hg (by simp) (fun k e => by cases e; exact Nat.le_refl _))
  have HAP := Lib.hid (Ap.new HB1.out (Nat.le_refl _) hgl hs0 HS2.out.1 HS2.out.2.2 ht0 HS3.out.1 HS3.out.2.1 HS3.out.2.2 hb4 hown)
  have HBO : Hid (∃ S', Bs w4 S' A7 n c7 a) := Lib.hid (by
    obtain ⟨A', c', hv, hbb⟩ := own_bs' hown
    injection hv with e1 e2 e3
    subst e1
    subst e3
    exact ⟨_, hbb⟩)
  clear hb4 hown hg hat
  obtain ⟨bo, hbo⟩ : ∃ bo, bo = w3.heap.size := ⟨_, rfl⟩
  rw [← hbo] at HAP
  clear HXA HB3 HS3 HS2 hs0 ht0 HB1 HE hgl hbo
  obtain ⟨So, hbo⟩ := HBO.out
  obtain ⟨nb, he, h0, h1⟩ := HAP.out.en
  refine (write_n w4 s w.heap.size nb _ [] HAP.out.ss he ⟨h0, by omega⟩ So A7 n c7 a hbo (by omega) (by simp)).mono ?_
  intro e w5 hwe
  obtain ⟨rfl, lvs1, hap⟩ := HAP.out.writeS (M' := 100) hwe h0 (by simp; have := HN.out.1; omega)
  have HAP5 := Lib.hid hap
  clear hap hwe he h0 h1 nb hbo HBO HAP
  go_wp2_with fail
  obtain ⟨nb, he, h0, h1⟩ := HAP5.out.en
  refine (write_n w5 t w.heap.size nb _ [] HAP5.out.tt he ⟨h0, by omega⟩ _ A' m c' b (HY.out.below HAP5.out.bel) (by omega) (by simp)).mono ?_
  intro e w6 hwe
  obtain ⟨rfl, lvt1, hap⟩ := HAP5.out.writeT (M' := 200) hwe h0 (by simp; have := HN.out.2; omega)
  have HAP6 := Lib.hid hap
  clear hap hwe he h0 h1 nb HAP5
  go_wp2_with fail
  go_loopw [9] (fun v9 wr => ∃ k : Nat, k ≤ n ∧ v9 = .int .i64 (k : Int) ∧ Hid (Ap w wr w.heap.size s t bo n lvs1 lvt1 (.slice A7 n c7) ([] ++ a) ([] ++ b) 200)) (fun v9 _ => n - (intOf v9).toNat)
  case atStart => exact ⟨0, by omega, rfl, HAP6⟩
  case round =>
    clear HAP6
    obtain ⟨k, hk, rfl, HAP6⟩ := hrel
    by_cases hlt : k < n
    · have hlt' : (k : Int) < (n : Int) := by omega
      obtain ⟨o, x, rfl, hc, hf⟩ := HAP6.out.own hlt
      have HST := Lib.hid (HAP6.out.set (j := k) rfl (x + 1))
      go_wp2_with fail
      rw [u8_inc]
      exact ⟨⟨k + 1, by omega, by go_num, HST⟩, by simp [intOf]; omega⟩
    · obtain rfl : k = n := by omega
      go_wp2_with fail
      obtain ⟨nb, he, h0, h1⟩ := HAP6.out.en
      refine (write_n wr s w.heap.size nb _ _ HAP6.out.ss he ⟨h0, by omega⟩ _ A' m c' b (HY.out.below HAP6.out.bel) (by omega) (by simp; have := HN.out.1; omega)).mono ?_
      intro e w7 hwe
      obtain ⟨rfl, lvs2, hap⟩ := HAP6.out.writeS (M' := 300) hwe h0 (by simp; have := HN.out.1; have := HN.out.2; omega)
      have HAP7 := Lib.hid hap
      clear hap hwe he h0 h1 nb HAP6
      go_wp2_with fail
      obtain ⟨nb, he, h0, h1⟩ := HAP7.out.en
      refine (write_n w7 t w.heap.size nb _ _ HAP7.out.tt he ⟨h0, by omega⟩ _ A k c a (HX.out.below HAP7.out.bel) (by omega) (by simp; have := HN.out.2; omega)).mono ?_
      intro e w8 hwe
      obtain ⟨rfl, lvt2, hap⟩ := HAP7.out.writeT (M' := 400) hwe h0 (by simp; have := HN.out.1; have := HN.out.2; omega)
      simp only [List.nil_append] at hap
      have HAP8 := Lib.hid hap
      clear hap hwe he h0 h1 nb HAP7
      go_wp2_with fail
      obtain ⟨nb, he, h0, h1⟩ := HAP8.out.en
      refine (ssum_any w8 s w.heap.size nb _ _ HAP8.out.ss he ⟨h0, by omega⟩ (by simp; have := HN.out.1; have := HN.out.2; omega)).mono ?_
      rintro e w9 ⟨rfl, hen, hgr⟩
      have HAP9 := Lib.hid (HAP8.out.engine (M' := 500) hen ⟨by omega, by simp; have := HN.out.1; have := HN.out.2; omega⟩ hgr)
      have HL1 := Lib.hid (Sha.sum_len (a ++ b))
      have HL2 := Lib.hid (Sha.sum_len (b ++ a))
      clear hen hgr he h0 h1 nb HAP8
      simp only [List.append_eq, List.cons_append, List.nil_append] at *
      have HXA := Lib.hid ((HX.out.below HAP9.out.bel).after ((Below.refl _ _).alloc (Nat.le_refl _) (.cells #[] 5)))
      have HYA := Lib.hid ((HY.out.below HAP9.out.bel).after ((Below.refl _ _).alloc (Nat.le_refl _) (.cells #[] 5)))
      go_wp2_with (first | ((with_reducible show wpList Try.prog _ _ ({ dst := some 60, op := _, type := _, pos := _, after := _, guard := _ } :: _) _ _); go_must ((refine wpList_append_g rfl (.tmp 58) (.tmp 59) rfl (base := w9.heap.size) (v := .slice (some ⟨w9.heap.size, 0, none⟩) 0 0) (n := 0) (xs := []) rfl (World.ownsRow_made w9 #[] 0 (Nat.le_refl _) (by simp [maxLen]) rfl) rfl HXA.out (by omega) (by simp) ?_; intro v1 w10 hown hg hat; obtain ⟨A8, c8, rfl, _⟩ := own_shape hown; simp only [Nat.zero_add, List.nil_append] at hown ⊢; have HO1 := Lib.hid hown; have HG1 := Lib.hid (show Below w9.heap.size w9 w10 from ((Below.refl w9.heap.size w9).alloc (Nat.le_refl _) (.cells #[] 5)).trans ((Below.refl w9.heap.size _).grown hg (by simp) (fun k e => by cases e; exact Nat.le_refl _))); clear hown hg hat))) | ((with_reducible show wpList Try.prog _ _ ({ dst := some 62, op := _, type := _, pos := _, after := _, guard := _ } :: _) _ _); go_must ((refine wpList_append_g rfl (.tmp 60) (.tmp 61) rfl (base := w9.heap.size) (v := .slice A8 k c8) (n := k) (xs := a) rfl HO1.out rfl (HY.out.below (HAP9.out.bel.trans (HG1.out.mono HAP9.out.bel.size))) (by omega) HG1.out.size ?_; intro v2 w11 hown hg hat; obtain ⟨A9, c9, rfl, _⟩ := own_shape hown; have HO2 := Lib.hid hown; have HG2 := Lib.hid (show Below w9.heap.size w9 w11 from HG1.out.trans ((Below.refl w9.heap.size _).grown hg HG1.out.size (fun k e => own_base HO1.out k e))); clear hown hg hat))))
      have HAP11 := Lib.hid (HAP9.out.after HG2.out)
      obtain ⟨nb, he, h0, h1⟩ := HAP11.out.en
      obtain ⟨A', c', hv, hbs⟩ := own_bs' HO2.out
      injection hv with e1 e2 e3
      subst e1
      subst e3
      have HGL := Lib.hid (HAP9.out.ss.lt)
      refine (esum_n w11 w.heap.size nb (.inl he) ⟨h0, by omega⟩ _ A9 (k + m) c9 (a ++ b) hbs (fun j hj _ e => by have := own_base HO2.out j hj; have := HAP9.out.ss.bk.lt; have := HGL.out; omega) (by omega)).mono ?_
      rintro e w12 ⟨rfl, hen, hgr⟩
      have HAP12 := Lib.hid (HAP11.out.engine (M' := 600) hen ⟨by omega, by omega⟩ hgr)
      clear hen hgr he h0 h1 nb HAP11 hbs HO1 HO2 HG1 HG2 HXA HYA HGL
      go_wp2_with (first | ((with_reducible show wpList Try.prog _ _ ({ dst := some 64, op := _, type := _, pos := _, after := _, guard := _ } :: _) _ _); go_must (refine wl_sameN rfl (.tmp 56) (.tmp 63) 30 rfl rfl rfl HL1.out ?_)))
      obtain ⟨nb, he, h0, h1⟩ := HAP12.out.en
      refine (ssum_any w12 t w.heap.size nb _ _ HAP12.out.tt he ⟨h0, by omega⟩ (by simp; have := HN.out.1; have := HN.out.2; omega)).mono ?_
      rintro e w13 ⟨rfl, hen, hgr⟩
      have HAP13 := Lib.hid (HAP12.out.engine (M' := 700) hen ⟨by omega, by simp; have := HN.out.1; have := HN.out.2; omega⟩ hgr)
      clear hen hgr he h0 h1 nb HAP12 HAP9
      have HYA := Lib.hid ((HY.out.below HAP13.out.bel).after ((Below.refl _ _).alloc (Nat.le_refl _) (.cells #[] 5)))
      go_wp2_with (first | ((with_reducible show wpList Try.prog _ _ ({ dst := some 71, op := _, type := _, pos := _, after := _, guard := _ } :: _) _ _); go_must ((refine wpList_append_g rfl (.tmp 69) (.tmp 70) rfl (base := w13.heap.size) (v := .slice (some ⟨w13.heap.size, 0, none⟩) 0 0) (n := 0) (xs := []) rfl (World.ownsRow_made w13 #[] 0 (Nat.le_refl _) (by simp [maxLen]) rfl) rfl HYA.out (by omega) (by simp) ?_; intro v1 w14 hown hg hat; obtain ⟨A10, c10, rfl, _⟩ := own_shape hown; simp only [Nat.zero_add, List.nil_append] at hown ⊢; have HO1 := Lib.hid hown; have HG1 := Lib.hid (show Below w13.heap.size w13 w14 from ((Below.refl w13.heap.size w13).alloc (Nat.le_refl _) (.cells #[] 5)).trans ((Below.refl w13.heap.size _).grown hg (by simp) (fun k e => by cases e; exact Nat.le_refl _))); clear hown hg hat))) | ((with_reducible show wpList Try.prog _ _ ({ dst := some 73, op := _, type := _, pos := _, after := _, guard := _ } :: _) _ _); go_must ((refine wpList_append_g rfl (.tmp 71) (.tmp 72) rfl (base := w13.heap.size) (v := .slice A10 m c10) (n := m) (xs := b) rfl HO1.out rfl (HX.out.below (HAP13.out.bel.trans (HG1.out.mono HAP13.out.bel.size))) (by omega) HG1.out.size ?_; intro v2 w15 hown hg hat; obtain ⟨A11, c11, rfl, _⟩ := own_shape hown; have HO2 := Lib.hid hown; have HG2 := Lib.hid (show Below w13.heap.size w13 w15 from HG1.out.trans ((Below.refl w13.heap.size _).grown hg HG1.out.size (fun k e => own_base HO1.out k e))); clear hown hg hat))))
      have HAP14 := Lib.hid (HAP13.out.after HG2.out)
      obtain ⟨nb, he, h0, h1⟩ := HAP14.out.en
      obtain ⟨A', c', hv, hbs⟩ := own_bs' HO2.out
      injection hv with e1 e2 e3
      subst e1
      subst e3
      have HGL := Lib.hid (HAP13.out.ss.lt)
      refine (esum_n w15 w.heap.size nb (.inl he) ⟨h0, by omega⟩ _ A11 (m + k) c11 (b ++ a) hbs (fun j hj _ e => by have := own_base HO2.out j hj; have := HAP13.out.ss.bk.lt; have := HGL.out; omega) (by omega)).mono ?_
      rintro e w16 ⟨rfl, hen, hgr⟩
      have HAP16 := Lib.hid (HAP14.out.engine (M' := 800) hen ⟨by omega, by omega⟩ hgr).bel
      clear hen hgr he h0 h1 nb HAP14 hbs HO1 HO2 HG1 HG2 HYA HGL HAP13
      go_wp2_with (first | ((with_reducible show wpList Try.prog _ _ ({ dst := some 75, op := _, type := _, pos := _, after := _, guard := _ } :: _) _ _); go_must (refine wl_sameN rfl (.tmp 67) (.tmp 74) 30 rfl rfl rfl HL2.out ?_)))
      refine (esum_nil w16 _ _ _).mono ?_
      rintro e w17 ⟨rfl, hb⟩
      have HB17 := Lib.hid (HAP16.out.trans (hb.mono HAP16.out.size))
      have HZL := Lib.hid (show (List.replicate 32 (0 : UInt8)).length = 32 from List.length_replicate)
      clear hb HAP16
      go_wp2_with (first | ((with_reducible show wpList Try.prog _ _ ({ dst := some 81, op := _, type := _, pos := _, after := _, guard := _ } :: _) _ _); go_must (refine wl_zeroH rfl rfl ?_)) | ((with_reducible show wpList Try.prog _ _ ({ dst := some 82, op := _, type := _, pos := _, after := _, guard := _ } :: _) _ _); go_must (refine wl_sameN rfl (.tmp 80) (.tmp 81) 30 rfl rfl rfl HZL.out ?_)))
      have HRR := Lib.hid (rr_one (w := w17) (t := 28) (HX.out.below HB17.out) (by omega))
      refine (many_nil _ AnyB _ 1 1 [a] HRR.out (by omega)).mono ?_
      rintro e w18 ⟨rfl, rfl⟩
      have HB18 := Lib.hid (HB17.out.trans (((Below.refl w17.heap.size w17).alloc (Nat.le_refl _) (.cells #[.slice A k c] 28)).mono HB17.out.size))
      clear HRR HB17
      go_wp2_with fail
      refine (stream_nil _).mono ?_
      rintro e w19 ⟨rfl, rfl⟩
      go_wp2_with fail
      refine (blocks_nil _).mono ?_
      rintro e w20 ⟨rfl, rfl⟩
      go_wp2_with fail
      refine (write_nil _ _).mono ?_
      rintro e w21 ⟨rfl, rfl⟩
      go_wp2_with fail
      refine (len_nil _).mono ?_
      rintro e w22 ⟨rfl, rfl⟩
      go_wp2_with fail
      refine (ssum_nil _).mono ?_
      rintro e w23 ⟨rfl, hb⟩
      have HB23 := Lib.hid (HB18.out.trans (hb.mono HB18.out.size))
      clear hb HB18
      go_wp2_with (first | ((with_reducible show wpList Try.prog _ _ ({ dst := some 116, op := _, type := _, pos := _, after := _, guard := _ } :: _) _ _); go_must (refine wl_zeroH rfl rfl ?_)) | ((with_reducible show wpList Try.prog _ _ ({ dst := some 117, op := _, type := _, pos := _, after := _, guard := _ } :: _) _ _); go_must (refine wl_sameN rfl (.tmp 115) (.tmp 116) 30 rfl rfl rfl HZL.out ?_)))
      refine (alive_any _).mono ?_
      rintro e w24 ⟨rfl, hb⟩
      have HB24 := Lib.hid (HB23.out.trans (hb.mono HB23.out.size))
      clear hb HB23
      go_wp2_with fail
      go_ret
      exact ⟨rfl, HB24.out⟩
theorem shaApart_any (w : World) (S S' : Nat → Prop) (A A' : Option Addr) (n c n' c' : Nat) (a b : List UInt8) (hx : Bs w S A n c a) (hx' : Bs w S' A' n' c' b) :
    Calls Try.prog 5 #[.slice A n c, .slice A' n' c'] w fun e w' => e = .returned (.bool true) ∧ Below w.heap.size w w' := by
  obtain rfl := hx.len
  obtain rfl := hx'.len
  by_cases h1 : a.length ≤ 1000
  · by_cases h2 : b.length ≤ 1000
    · exact shaApart_in w S S' A A' c c' a b hx hx' h1 h2
    · have h1' : ¬ (1000 : Int) < (a.length : Int) := by omega
      have h2' : (1000 : Int) < (b.length : Int) := by omega
      clear hx hx'
      go_enter Try.func5, Try.ntmps5
      go_wp2_with fail
      refine (alive_any _).mono ?_
      rintro e w1 ⟨rfl, hb⟩
      have HB := Lib.hid hb
      clear hb
      go_wp2_with fail
      go_ret
      exact ⟨rfl, HB.out⟩
  · have h1' : (1000 : Int) < (a.length : Int) := by omega
    clear hx hx'
    go_enter Try.func5, Try.ntmps5
    go_wp2_with fail
    refine (alive_any _).mono ?_
    rintro e w1 ⟨rfl, hb⟩
    have HB := Lib.hid hb
    clear hb
    go_wp2_with fail
    go_ret
    exact ⟨rfl, HB.out⟩
end Go.Proofs.Ytepcbnkhfiphdaa
