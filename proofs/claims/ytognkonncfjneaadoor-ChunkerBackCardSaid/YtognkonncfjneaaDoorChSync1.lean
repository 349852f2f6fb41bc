/- The walk of ChunkerSync. Conditions: each theorem's premises. -/
import Derived.Test.YtognkonncfjneaaDoorChJ1
import Derived.Test.YtognkonncfjneaaDoorChCuts1
namespace Go.Proofs.YtognkonncfjneaaDoor
open Go.RowKit
section
variable {w : World} {S : Nat → Prop} {n c : Nat} {A : Option Addr} {l : List (List UInt8)}
theorem rr_upto (n c : Nat) (A : Option Addr) (k : Nat) (hn : k ≤ n) (hc : n ≤ c) : ∃ A' c', (∀ W, (Instr.sliceAt 42 (.slice A n c) none (some (.int .i64 (k : Int))) none).run Tryd.prog W = .ok (.slice A' k c') W) ∧
    ∀ (W : World) (S : Nat → Prop) (l : List (List UInt8)), RR W S A n c l → RR W S A' k c' (l.take k) := by
  obtain ⟨i0, hi0, _, hz1, _⟩ := info_parts Tryd.info23
  refine ⟨_, _, run_cut_upto Tryd.underlying42 hi0 hz1 A n c (k : Int) k rfl (by omega), fun W S l h => ⟨by rw [List.length_take, h.len]; omega, by omega, fun j hj => ?_⟩⟩
  obtain ⟨ad, A', n', c', x, rfl, hs, hx, hcell, hb⟩ := h.at_ j (by omega)
  have he : (if c = 0 then some ad else Option.map (fun x => x.add (0 * 1)) (some ad)) = some ad := by
    by_cases e : c = 0
    · rw [if_pos e]
    · rw [if_neg e]; simp [Addr.add]
  exact ⟨ad, A', n', c', x, he, hs, Lib.hid (by rw [List.getElem?_take, if_pos hj]; exact hx.out), hcell, hb⟩
theorem rr_from (n c : Nat) (A : Option Addr) (k m : Nat) (hn : k + m = n) (hc : n ≤ c) : ∃ A' c', (∀ W, (Instr.sliceAt 42 (.slice A n c) (some (.int .i64 (k : Int))) none none).run Tryd.prog W = .ok (.slice A' m c') W) ∧
    ∀ (W : World) (S : Nat → Prop) (l : List (List UInt8)), RR W S A n c l → RR W S A' m c' (l.drop k) := by
  obtain ⟨i0, hi0, _, hz1, _⟩ := info_parts Tryd.info23
  refine ⟨_, _, run_cut_from Tryd.underlying42 hi0 hz1 A n c (k : Int) k m rfl hn, fun W S l h => ⟨by rw [List.length_drop, h.len]; omega, by omega, fun j hj => ?_⟩⟩
  obtain ⟨ad, A', n', c', x, rfl, hs, hx, hcell, hb⟩ := h.at_ (k + j) (by omega)
  have he : (if c = k then some ad else Option.map (fun x => x.add (k * 1)) (some ad)) = some (ad.add k) := by
    rw [if_neg (by omega)]; simp
  exact ⟨ad.add k, A', n', c', x, he, by rw [block_of_add]; exact hs, Lib.hid (by rw [List.getElem?_drop]; exact hx.out), by rw [add_of_add]; exact hcell, hb⟩
end
/-- The law: two texts that are alike behind ends of theirs. -/
theorem sync_law {r : Ch.Rule} {a b t : List UInt8} {l m : List (List UInt8)} (hl : Ch.SplitS r (a ++ t) l) (hm : Ch.SplitS r (b ++ t) m) {i k : Nat} (hi : i ≤ l.length) (hk : k ≤ m.length) (hp : a.length ≤ endsF l i) (he : (((a ++ t).length : Nat) : Int) - (endsF l i : Nat) = (((b ++ t).length : Nat) : Int) - (endsF m k : Nat)) : l.drop i = m.drop k := by
  have h1 := hl.tail i hi
  have h2 := hm.tail k hk
  have e1 := endsF_le l i
  have e2 := endsF_le m k
  rw [hl.flat] at e1
  rw [hm.flat] at e2
  rw [List.length_append] at e1 e2 he
  rw [List.length_append] at he
  have d1 : (a ++ t).drop (endsF l i) = t.drop (endsF l i - a.length) := by
    rw [List.drop_append, List.drop_eq_nil_of_le hp, List.nil_append]
  have d2 : (b ++ t).drop (endsF m k) = t.drop (endsF m k - b.length) := by
    rw [List.drop_append, List.drop_eq_nil_of_le (by omega), List.nil_append]
  have e3 : endsF l i - a.length = endsF m k - b.length := by omega
  have h1' : Ch.SplitS r (t.drop (endsF l i - a.length)) (l.drop i) := by rw [← d1]; exact h1
  have h2' : Ch.SplitS r (t.drop (endsF m k - b.length)) (m.drop k) := by rw [← d2]; exact h2
  rw [e3] at h1'
  exact h1'.uniq h2'
set_option maxRecDepth 100000 in
set_option maxHeartbeats 2000000 in
theorem chSync_out (w : World) (seed : Nat) (mn av mx : Int) (A B C : Option Addr) (n1 n2 n3 c1 c2 c3 : Nat) (h : 300 < n1 ∨ 300 < n2 ∨ 300 < n3 ∨ ¬ RRight mn av mx) (hT : Tab64 w) :
    Calls Tryd.prog 8 #[.agg #[.int .u64 (seed : Int), .int .i64 mn, .int .i64 av, .int .i64 mx], .slice A n1 c1, .slice B n2 c2, .slice C n3 c3] w fun e w' => e = .returned (.bool true) ∧ Below w.heap.size w w' := by
  have hW : Hid (∀ o, Below w.heap.size w (w.alloc o)) := Lib.hid fun o => (Below.refl _ w).alloc (Nat.le_refl _) _
  have HA : Hid (∀ w', Below w.heap.size w w' → Calls Tryd.prog 21 #[] w' fun e w'' => e = .returned (.bool true) ∧ Below w'.heap.size w' w'') := Lib.hid fun w' hb => chAlive_any w' (Tab64.below hT hb)
  clear hT
  rcases (show 300 < n1 ∨ (n1 ≤ 300 ∧ 300 < n2) ∨ (n1 ≤ 300 ∧ n2 ≤ 300 ∧ 300 < n3) ∨ (n1 ≤ 300 ∧ n2 ≤ 300 ∧ n3 ≤ 300) by omega) with h1 | ⟨h1, h2⟩ | ⟨h1, h2, h3⟩ | ⟨h1, h2, h3⟩
  iterate 3
    · clear h
      go_enter Tryd.func8, Tryd.ntmps8
      go_wp2_with fail
      refine (HA.out _ (hW.out _)).mono ?_
      rintro e w1 ⟨rfl, hb1⟩
      have HB1 := Lib.hid ((hW.out _).trans (hb1.mono (hW.out _).size))
      clear hb1
      go_wp2_with fail
      go_ret
      exact ⟨rfl, HB1.out⟩
  · have hr : ¬ RRight mn av mx := by
      rcases h with h | h | h | h
      · omega
      · omega
      · omega
      · exact h
    have HS7 := Lib.hid (fun w' => rright_no w' seed mn av mx hr)
    clear h hr
    go_enter Tryd.func8, Tryd.ntmps8
    go_wp2_with fail
    refine (HS7.out _).mono ?_
    rintro e w1 ⟨rfl, hb1⟩
    have HB1 := Lib.hid ((hW.out _).trans (hb1.mono (hW.out _).size))
    clear hb1
    go_wp2_with fail
    refine (HA.out _ HB1.out).mono ?_
    rintro e w2 ⟨rfl, hb2⟩
    have HB2 := Lib.hid (HB1.out.trans (hb2.mono HB1.out.size))
    clear hb2
    go_wp2_with fail
    go_ret
    exact ⟨rfl, HB2.out⟩
theorem own_start (W : World) : (W.alloc (.cells #[] 5)).ownsRow W.heap.size 5 1 (.slice (some ⟨W.heap.size, 0, none⟩) 0 0) 0 (u8s []) := World.ownsRow_made W #[] 0 (Nat.le_refl _) (by simp [maxLen]) rfl
theorem app_one {W Wa : World} (hg : (W.alloc (.cells #[] 5)).grownBy Wa (Value.slice (some ⟨W.heap.size, 0, none⟩) 0 0).ownBlock) : Below W.heap.size W Wa :=
  ((Below.refl W.heap.size W).alloc (Nat.le_refl _) _).trans ((Below.refl W.heap.size _).grown hg (by simp) (fun k e => by cases e; exact Nat.le_refl _))
theorem app_two {W Wa Wb : World} {v : Value} {n : Nat} {xs : List Value} (h1 : Below W.heap.size W Wa) (hown : Wa.ownsRow W.heap.size 5 1 v n xs) (hg : Wa.grownBy Wb v.ownBlock) : Below W.heap.size W Wb :=
  h1.trans ((Below.refl W.heap.size _).grown hg h1.size (fun k e => own_base hown k e))
/-- What lies between two rounds of ChunkerSync's loops. -/
structure Yv (w : World) (A2 A3 : Option Addr) (N2 N3 c2 c3 : Nat) (l m : List (List UInt8)) (W : World) : Prop where
  be : Below w.heap.size w W
  rl : RR W AnyB A2 N2 c2 l
  rm : RR W AnyB A3 N3 c3 m
theorem RR.any {w : World} {S : Nat → Prop} {A : Option Addr} {n c : Nat} {l : List (List UInt8)} (h : RR w S A n c l) : RR w AnyB A n c l := h.keep (fun _ _ _ => rfl) (fun _ _ _ => trivial)
theorem Yv.after {w W W' : World} {A2 A3 : Option Addr} {N2 N3 c2 c3 : Nat} {l m : List (List UInt8)} (h : Yv w A2 A3 N2 N3 c2 c3 l m W) (hb : Below W.heap.size W W') : Yv w A2 A3 N2 N3 c2 c3 l m W' :=
  ⟨h.be.trans (hb.mono h.be.size), h.rl.after hb, h.rm.after hb⟩
set_option maxRecDepth 100000 in
set_option maxHeartbeats 4000000 in
theorem chSync_yes (w : World) (r : Ch.Rule) (S1 S2 S3 : Nat → Prop) (A B C : Option Addr) (n1 n2 n3 c1 c2 c3 : Nat) (a b t : List UInt8) (hx1 : Bs w S1 A n1 c1 a) (hx2 : Bs w S2 B n2 c2 b) (hx3 : Bs w S3 C n3 c3 t) (h1 : n1 ≤ 300) (h2 : n2 ≤ 300) (h3 : n3 ≤ 300) (hT : Tab64 w) :
    Calls Tryd.prog 8 #[.agg r.v, .slice A n1 c1, .slice B n2 c2, .slice C n3 c3] w fun e w' => e = .returned (.bool true) ∧ Below w.heap.size w w' := by
  have HX1 := Lib.hid hx1.old
  have HX2 := Lib.hid hx2.old
  have HX3 := Lib.hid hx3.old
  have HLL := Lib.hid (And.intro hx1.len (And.intro hx2.len hx3.len))
  obtain ⟨av, hav⟩ : ∃ av, av = 2 ^ r.k := ⟨_, rfl⟩
  have HV : Hid (r.v = #[.int .u64 (r.seed : Int), .int .i64 (r.mn : Int), .int .i64 (av : Int), .int .i64 (r.mx : Int)]) := Lib.hid (by rw [hav]; rfl)
  have HT : Hid (∀ w', Below w.heap.size w w' → Tab64 w') := Lib.hid fun w' hb => Tab64.below hT hb
  have HS7 : Hid (∀ w', Calls Tryd.prog 27 #[.agg r.v] w' fun e w'' => e = .returned (.bool true) ∧ Below w'.heap.size w' w'') := Lib.hid fun w' => rright_yes w' r
  have HSP : Hid (∀ w' S A n c x, Bs w' S A n c x → n ≤ 100000000 → Tab64 w' → Calls Tryd.prog 22 #[.agg r.v, .slice A n c] w' (SplitEnd w' r x)) := Lib.hid fun w' S A n c x hb hn hT => split_yes w' r S A n c x hb hn hT
  have h0 : Hid (Blk (w.alloc (.cells r.v 41)) w.heap.size 41 r.v ∧ Below w.heap.size w (w.alloc (.cells r.v 41))) := Lib.hid ⟨Blk.new w _ _, (Below.refl _ w).alloc (Nat.le_refl _) _⟩
  rw [HV.out] at HS7 HSP h0 ⊢
  clear hx1 hx2 hx3 hT hav HV
  go_enter Tryd.func8, Tryd.ntmps8
  go_wp2_with fail
  refine (HS7.out _).mono ?_
  rintro e w1 ⟨rfl, hb1⟩
  have H1 := Lib.hid (And.intro (h0.out.1.after hb1) (h0.out.2.trans (hb1.mono h0.out.2.size)))
  obtain ⟨k0, k1, k2, k3, -⟩ := H1.out.1.four
  have HP1 : Hid (Bs (w1.alloc (.cells #[] 5)) (Lo w.heap.size) A n1 c1 a) := Lib.hid (HX1.out.below (H1.out.2.alloc H1.out.2.size _))
  have HP2 : Hid (∀ W, Below w1.heap.size w1 W → Bs W (Lo w.heap.size) C n3 c3 t ∧ Bs W (Lo w.heap.size) B n2 c2 b) := Lib.hid fun W hb => ⟨HX3.out.below (H1.out.2.trans (hb.mono H1.out.2.size)), HX2.out.below (H1.out.2.trans (hb.mono H1.out.2.size))⟩
  clear hb1 h0
  go_wp2_with (at_builtin; first | (refine wpList_append_u8 rfl (.tmp 38) (.tmp 39) rfl rfl (own_start w1) rfl HP1.out (by omega) (by simp) ?_; intro v3 w3 hown3 hg3 hat3; have hb3 := app_one hg3) | (refine wpList_append_u8 rfl (.tmp 40) (.tmp 41) rfl rfl hown3 rfl (HP2.out w3 hb3).1 (by omega) hb3.size ?_; intro v4 w4 hown4 hg4 hat4; go_must ((have hb4 := app_two hb3 hown3 hg4; obtain ⟨A4, c4, rfl, hal4⟩ := own_bs hown4))) | (refine wpList_append_u8 rfl (.tmp 43) (.tmp 44) rfl rfl (own_start w4) rfl (HP2.out _ (hb4.alloc hb4.size _)).2 (by omega) (by simp) ?_; intro v5 w5 hown5 hg5 hat5; go_must ((have hb5 := app_one hg5; have hb5' := hb4.trans (hb5.mono hb4.size)))) | (refine wpList_append_u8 rfl (.tmp 45) (.tmp 46) rfl rfl hown5 rfl (HP2.out w5 hb5').1 (by omega) hb5.size ?_; intro v6 w6 hown6 hg6 hat6; go_must ((have hb6 := app_two hb5 hown5 hg6; obtain ⟨A6, c6, rfl, hal6⟩ := own_bs hown6; have hb6' := hb4.trans (hb6.mono hb4.size); obtain ⟨z0, z1, z2, z3, hz⟩ := (H1.out.1.after hb6').four))))
  have HXX : Hid (Bs w6 _ A4 (n1 + n3) c4 (a ++ t)) := Lib.hid (by have h := hal4.after (hb6.mono (Nat.le_refl _)); simp only [Nat.zero_add, List.nil_append] at h; exact h)
  have HYY : Hid (Bs w6 _ A6 (n2 + n3) c6 (b ++ t)) := Lib.hid (by have h := hal6; simp only [Nat.zero_add, List.nil_append] at h; exact h)
  have H6 : Hid (Blk w6 w.heap.size 41 #[.int .u64 (r.seed : Int), .int .i64 (r.mn : Int), .int .i64 (av : Int), .int .i64 (r.mx : Int)] ∧ Below w.heap.size w w6) := Lib.hid ⟨H1.out.1.after hb6', H1.out.2.trans (hb6'.mono H1.out.2.size)⟩
  obtain ⟨M1, hM1⟩ : ∃ M, M = n1 + n3 := ⟨_, rfl⟩
  obtain ⟨M2, hM2⟩ : ∃ M, M = n2 + n3 := ⟨_, rfl⟩
  have hM1' : M1 ≤ 600 := by omega
  have hM2' : M2 ≤ 600 := by omega
  rw [← hM1] at HXX ⊢
  rw [← hM2] at HYY ⊢
  have HMM := Lib.hid (And.intro hM1 hM2)
  clear hown3 hg3 hat3 hb3 hown4 hg4 hat4 hb4 hal4 hown5 hg5 hat5 hb5 hb5' hown6 hg6 hat6 hb6 hb6' hal6 H1 HP1 HP2 z0 z1 z2 z3 hz hM1 hM2 k0 k1 k2 k3
  refine (own_any _ _ _ _ _).mono ?_
  rintro e w7 ⟨rfl, hb7⟩
  have H7 : Hid (Blk w7 w.heap.size 41 #[.int .u64 (r.seed : Int), .int .i64 (r.mn : Int), .int .i64 (av : Int), .int .i64 (r.mx : Int)] ∧ Below w.heap.size w w7 ∧ Bs w7 _ A4 M1 c4 (a ++ t) ∧ Bs w7 _ A6 M2 c6 (b ++ t)) := Lib.hid ⟨H6.out.1.after hb7, H6.out.2.trans (hb7.mono H6.out.2.size), HXX.out.after hb7, HYY.out.after hb7⟩
  clear hb7 H6 HXX HYY
  go_wp2_with fail
  refine (HSP.out w7 _ A4 M1 c4 (a ++ t) H7.out.2.2.1 (by omega) (HT.out w7 H7.out.2.1)).mono ?_
  rintro e w8 ⟨v8, l, rfl, hs8, hl8, hb8⟩
  obtain ⟨A8, c8, rfl, -⟩ := hl8.shape
  have H8 : Hid (Blk w8 w.heap.size 41 #[.int .u64 (r.seed : Int), .int .i64 (r.mn : Int), .int .i64 (av : Int), .int .i64 (r.mx : Int)] ∧ Below w.heap.size w w8 ∧ RR w8 AnyB A8 l.length c8 l ∧ Bs w8 _ A6 M2 c6 (b ++ t)) := Lib.hid ⟨H7.out.1.after hb8, H7.out.2.1.trans (hb8.mono H7.out.2.1.size), hl8.reads.any, H7.out.2.2.2.after hb8⟩
  obtain ⟨k0, k1, k2, k3, -⟩ := H8.out.1.four
  have HSL := Lib.hid hs8
  obtain ⟨Nl, hNl⟩ : ∃ N, N = l.length := ⟨_, rfl⟩
  rw [← hNl] at H8 ⊢
  have HNL := Lib.hid hNl
  clear hb8 H7 hs8 hl8 hNl
  go_wp2_with fail
  refine (own_any _ _ _ _ _).mono ?_
  rintro e w9 ⟨rfl, hb9⟩
  have H9 : Hid (Below w.heap.size w w9 ∧ RR w9 AnyB A8 Nl c8 l ∧ Bs w9 _ A6 M2 c6 (b ++ t)) := Lib.hid ⟨H8.out.2.1.trans (hb9.mono H8.out.2.1.size), H8.out.2.2.1.after hb9, H8.out.2.2.2.after hb9⟩
  clear hb9 H8 k0 k1 k2 k3
  go_wp2_with fail
  refine (HSP.out w9 _ A6 M2 c6 (b ++ t) H9.out.2.2 (by omega) (HT.out w9 H9.out.1)).mono ?_
  rintro e w10 ⟨v10, m, rfl, hs10, hl10, hb10⟩
  obtain ⟨A10, c10, rfl, -⟩ := hl10.shape
  obtain ⟨Nm, hNm⟩ : ∃ N, N = m.length := ⟨_, rfl⟩
  have H10 : Hid (Yv w A8 A10 Nl Nm c8 c10 l m w10) := Lib.hid ⟨H9.out.1.trans (hb10.mono H9.out.1.size), H9.out.2.1.after hb10, by rw [hNm]; exact hl10.reads.any⟩
  rw [← hNm]
  have HSM := Lib.hid hs10
  have hNl6 : Nl ≤ 600 := by rw [HNL.out]; exact split_len HSL.out (by have := HLL.out; have := HMM.out; rw [List.length_append]; omega)
  have hNm6 : Nm ≤ 600 := by rw [hNm]; exact split_len hs10 (by have := HLL.out; have := HMM.out; rw [List.length_append]; omega)
  have HNM := Lib.hid hNm
  have HFL : Hid (l.flatten.length = M1 ∧ m.flatten.length = M2) := Lib.hid (by have := HLL.out; have := HMM.out; rw [HSL.out.flat, hs10.flat, List.length_append, List.length_append]; omega)
  clear hb10 H9 hs10 hl10 hNm HSP HS7
  go_wp2_with fail
  go_loopw [15] (fun v15 wr => ∃ z : Int, -1 ≤ z ∧ z ≤ (Nl : Int) ∧ v15 = .int .i64 z ∧ Hid (Yv w A8 A10 Nl Nm c8 c10 l m wr)) (fun v15 _ => (intOf v15 + 1).toNat)
  case atStart => exact ⟨(Nl : Int), by omega, by omega, rfl, H10⟩
  case round =>
    obtain ⟨z, hz1, hz2, rfl, HY⟩ := hrel
    clear H10
    by_cases hz : 0 ≤ z
    · obtain ⟨i, rfl⟩ : ∃ i : Nat, z = (i : Int) := ⟨z.toNat, by omega⟩
      have hi : i ≤ Nl := by omega
      go_wp2_with fail
      obtain ⟨wo, hwo⟩ : ∃ wo : World, wo = wr := ⟨_, rfl⟩
      rw [← hwo] at HY ⊢
      clear hwo
      go_loopw [16] (fun v16 wr => ∃ z : Int, -1 ≤ z ∧ z ≤ (Nm : Int) ∧ v16 = .int .i64 z ∧ Hid (Yv w A8 A10 Nl Nm c8 c10 l m wr)) (fun v16 _ => (intOf v16 + 1).toNat)
      case atStart => exact ⟨(Nm : Int), by omega, by omega, rfl, HY⟩
      case round =>
        obtain ⟨y, hy1, hy2, rfl, HZ⟩ := hrel
        clear HY
        by_cases hy : 0 ≤ y
        · obtain ⟨k, rfl⟩ : ∃ k : Nat, y = (k : Int) := ⟨y.toNat, by omega⟩
          have hk : k ≤ Nm := by omega
          obtain ⟨B1, d1, hcut1, hR1⟩ := rr_upto Nl c8 A8 i hi HZ.out.rl.cap
          obtain ⟨B2, d2, hcut2, hR2⟩ := rr_upto Nm c10 A10 k hk HZ.out.rm.cap
          have hf1 : (l.take i).flatten.length ≤ 600 := by have := endsF_le l i; unfold endsF at this; have := HFL.out; omega
          have hf2 : (m.take k).flatten.length ≤ 600 := by have := endsF_le m k; unfold endsF at this; have := HFL.out; omega
          obtain ⟨p, hp⟩ : ∃ p, p = endsF l i := ⟨_, rfl⟩
          obtain ⟨q, hq⟩ : ∃ q, q = endsF m k := ⟨_, rfl⟩
          have HJ1 : Hid (∀ w', Hid (Below wr.heap.size wr w') → Calls Tryd.prog 33 #[.slice B1 i d1] w' fun e w'' => ∃ A' c', e = .returned (.slice A' p c') ∧ Below w'.heap.size w' w'') := Lib.hid fun w' hb => (join_any w' _ B1 i d1 _ (hR1 w' _ l (HZ.out.rl.after hb.out)) (by omega) (by omega)).mono fun e w'' ⟨A', c', h1, _, h3⟩ => ⟨A', c', by rw [h1, hp]; rfl, h3⟩
          have HJ2 : Hid (∀ w', Hid (Below wr.heap.size wr w') → Calls Tryd.prog 33 #[.slice B2 k d2] w' fun e w'' => ∃ A' c', e = .returned (.slice A' q c') ∧ Below w'.heap.size w' w'') := Lib.hid fun w' hb => (join_any w' _ B2 k d2 _ (hR2 w' _ m (HZ.out.rm.after hb.out)) (by omega) (by omega)).mono fun e w'' ⟨A', c', h1, _, h3⟩ => ⟨A', c', by rw [h1, hq]; rfl, h3⟩
          have hp6 : p ≤ 600 := by rw [hp]; exact hf1
          have hq6 : q ≤ 600 := by rw [hq]; exact hf2
          have HPQ := Lib.hid (And.intro hp hq)
          have hB0 : Hid (Below wr.heap.size wr wr.drew) := Lib.hid (Below.refl _ _).drew
          clear hR1 hR2 hf1 hf2 hp hq
          go_wp2_with fail
          go_region_held3 (fun w' => Hid (Below wr.heap.size wr w')) (assumption) (first | (go_at_call 33; with_reducible refine (HJ1.out _ (by assumption)).mono ?_; rintro e w11 ⟨E1, e1, rfl, hb11⟩; have hB11 := next_below (by assumption) hb11) | (go_at_call 33; with_reducible refine (HJ2.out _ (by assumption)).mono ?_; rintro e w12 ⟨E2, e2, rfl, hb12⟩; have hB12 := next_below (by assumption) hb12))
          have HY12 := Lib.hid (HZ.out.after hB12.out)
          rename_i hHeld
          clear hHeld hB12 hb12 hB11 hb11 hB0 HJ1 HJ2 hcut1 hcut2
          rcases (show p < n1 ∨ (n1 ≤ p ∧ (M1 : Int) - (p : Int) ≠ (M2 : Int) - (q : Int)) ∨ (n1 ≤ p ∧ (M1 : Int) - (p : Int) = (M2 : Int) - (q : Int)) by omega) with hc | ⟨hc, hc2⟩ | ⟨hc, hc2⟩
          · have hc' : (p : Int) < (n1 : Int) := by omega
            go_wp2_with fail
            go_roundw
            case rel => exact ⟨(k : Int) - 1, by omega, by omega, rfl, HY12⟩
            case measure => simp [intOf]
          · have hc' : (n1 : Int) ≤ (p : Int) := by omega
            have hb : ((M1 : Int) - (p : Int) != (M2 : Int) - (q : Int)) = true := by simpa using hc2
            clear hc2
            go_wp2_with fail
            go_roundw
            case rel => exact ⟨(k : Int) - 1, by omega, by omega, rfl, HY12⟩
            case measure => simp [intOf]
          · have hc' : (n1 : Int) ≤ (p : Int) := by omega
            have hb : ((M1 : Int) - (p : Int) != (M2 : Int) - (q : Int)) = false := by simpa using hc2
            have HLM : Hid (l.drop i = m.drop k) := Lib.hid (sync_law HSL.out HSM.out (by rw [← HNL.out]; exact hi) (by rw [← HNM.out]; exact hk) (by rw [HLL.out.1, ← HPQ.out.1]; exact hc) (by rw [List.length_append, List.length_append, HLL.out.1, HLL.out.2.1, HLL.out.2.2, ← HMM.out.1, ← HMM.out.2, ← HPQ.out.1, ← HPQ.out.2]; exact hc2))
            clear hc2
            obtain ⟨B3, d3, hcut3, hR3⟩ := rr_from Nl c8 A8 i (Nl - i) (by omega) HZ.out.rl.cap
            obtain ⟨B4, d4, hcut4, hR4⟩ := rr_from Nm c10 A10 k (Nm - k) (by omega) HZ.out.rm.cap
            have HLI : Hid (∀ j, Calls Tryd.prog 30 #[.slice B3 (Nl - i) d3, .slice B4 (Nm - k) d4] (w12.drewN j) fun e w'' => e = .returned (.bool true) ∧ ∃ m', w'' = w12.drewN m') := Lib.hid fun j => (lists_any (w12.drewN j) AnyB AnyB B3 B4 _ _ d3 d4 _ _ ((hR3 w12 _ l HY12.out.rl).drews j) ((hR4 w12 _ m HY12.out.rm).drews j) (by omega) (fun x hx => by have := mem_flat (List.mem_of_mem_drop hx); have := HFL.out.1; omega) (fun x hx => by have := mem_flat (List.mem_of_mem_drop hx); have := HFL.out.2; omega)).mono fun e w'' ⟨h1, k', h2⟩ => ⟨by rw [h1, decide_eq_true HLM.out], j + k', by rw [h2, World.drewN_drewN]⟩
            clear hR3 hR4
            go_wp2_with fail
            go_quiet ((go_at_call 30; exact HLI.out _))
            go_wp2_with fail
            go_roundw
            case rel => exact ⟨(k : Int) - 1, by omega, by omega, rfl, Lib.hid ⟨below_drewN HY12.out.be _, HY12.out.rl.drews _, HY12.out.rm.drews _⟩⟩
            case measure => simp [intOf]
        · obtain rfl : y = -1 := by omega
          go_wp2_with fail
          go_roundw
          case rel => exact ⟨(i : Int) - 1, by omega, by omega, rfl, HZ⟩
          case measure => simp [intOf]
    · obtain rfl : z = -1 := by omega
      go_wp2_with fail
      refine (chAlive_any _ (HT.out _ HY.out.be)).mono ?_
      rintro e w11 ⟨rfl, hb11⟩
      have HB11 := Lib.hid (HY.out.be.trans (hb11.mono HY.out.be.size))
      clear hb11
      go_wp2_with fail
      go_ret
      exact ⟨rfl, HB11.out⟩
theorem chSync_any (w : World) (seed : Nat) (hs : seed < Gear.M) (mn av mx : Int) (S1 S2 S3 : Nat → Prop) (A B C : Option Addr) (n1 n2 n3 c1 c2 c3 : Nat) (a b t : List UInt8) (hx1 : Bs w S1 A n1 c1 a) (hx2 : Bs w S2 B n2 c2 b) (hx3 : Bs w S3 C n3 c3 t) (hT : Tab64 w) :
    Calls Tryd.prog 8 #[.agg #[.int .u64 (seed : Int), .int .i64 mn, .int .i64 av, .int .i64 mx], .slice A n1 c1, .slice B n2 c2, .slice C n3 c3] w fun e w' => e = .returned (.bool true) ∧ Below w.heap.size w w' := by
  by_cases h : 300 < n1 ∨ 300 < n2 ∨ 300 < n3 ∨ ¬ RRight mn av mx
  · exact chSync_out w seed mn av mx A B C n1 n2 n3 c1 c2 c3 h hT
  · have hr : RRight mn av mx := Classical.byContradiction fun hn => h (.inr (.inr (.inr hn)))
    obtain ⟨r, rfl, rfl, rfl, rfl⟩ := right_rule hs hr
    exact chSync_yes w r S1 S2 S3 A B C n1 n2 n3 c1 c2 c3 a b t hx1 hx2 hx3 (by omega) (by omega) (by omega) hT
end Go.Proofs.YtognkonncfjneaaDoor
