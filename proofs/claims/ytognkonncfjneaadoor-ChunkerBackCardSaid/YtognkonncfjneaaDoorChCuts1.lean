/- The walk of ChunkerCuts. Conditions: each theorem's premises. -/
import Derived.Test.YtognkonncfjneaaDoorCh10
namespace Go.Proofs.YtognkonncfjneaaDoor
open Go.RowKit
set_option maxRecDepth 100000 in
set_option maxHeartbeats 2000000 in
theorem chCuts_long (w : World) (seed : Nat) (mn av mx : Int) (A : Option Addr) (n c : Nat) (hn : 300 < n) (hT : Tab64 w) :
    Calls Tryd.prog 7 #[.agg #[.int .u64 (seed : Int), .int .i64 mn, .int .i64 av, .int .i64 mx], .slice A n c] w fun e w' => e = .returned (.bool true) ∧ Below w.heap.size w w' := by
  have hW : Hid (∀ o, Below w.heap.size w (w.alloc o)) := Lib.hid fun o => (Below.refl _ w).alloc (Nat.le_refl _) _
  have HA : Hid (∀ w', Below w.heap.size w w' → Calls Tryd.prog 21 #[] w' fun e w'' => e = .returned (.bool true) ∧ Below w'.heap.size w' w'') := Lib.hid fun w' hb => chAlive_any w' (Tab64.below hT hb)
  have hn' : 300 < (n : Int) := by omega
  clear hT
  go_enter Tryd.func7, Tryd.ntmps7
  go_wp2_with fail
  refine (HA.out _ (hW.out _)).mono ?_
  rintro e w1 ⟨rfl, hb1⟩
  have HB1 := Lib.hid ((hW.out _).trans (hb1.mono (hW.out _).size))
  clear hb1
  go_wp2_with fail
  go_ret
  exact ⟨rfl, HB1.out⟩
theorem split_len {r : Ch.Rule} {bs : List UInt8} {l : List (List UInt8)} {n : Nat} (h : Ch.SplitS r bs l) (hn : bs.length ≤ n) : l.length ≤ n := by
  have h1 := h.sizes
  have h2 : l.length ≤ l.flatten.length := by
    have : ∀ m : List (List UInt8), (∀ c ∈ m, 1 ≤ c.length) → m.length ≤ m.flatten.length := by
      intro m
      induction m with
      | nil => intro _; simp
      | cons a m ih =>
        intro hm
        have := hm a (by simp)
        have := ih (fun c hc => hm c (by simp [hc]))
        rw [List.flatten_cons, List.length_append, List.length_cons]
        omega
    refine this l fun c hc => ?_
    obtain ⟨i, hi⟩ := List.getElem?_of_mem hc
    exact (h1 i c hi).1
  rw [h.flat] at h2
  omega
theorem mem_flat {x : List UInt8} : ∀ {l : List (List UInt8)}, x ∈ l → x.length ≤ l.flatten.length
  | a :: l, h => by
    rw [List.flatten_cons, List.length_append]
    rcases List.mem_cons.1 h with e | e
    · subst e; omega
    · have := mem_flat e; omega
theorem endsV_at {l : List (List UInt8)} {N k : Nat} (h : k < N) : (endsV l N)[k]? = some (.int .i64 ((endsF l (k + 1) : Nat) : Int)) := by
  unfold endsV
  rw [List.getElem?_map, List.getElem?_range h]
  rfl
theorem hold_four' {W w' : World} {g1 t1 : Nat} {a b c d : Value} (h1 : Blk W g1 t1 #[a, b, c, d]) (hB : Hid (Below W.heap.size W w')) :
    w'.cell? ⟨g1, 0, none⟩ = some a ∧ w'.cell? ⟨g1, 1, none⟩ = some b ∧ w'.cell? ⟨g1, 2, none⟩ = some c ∧ w'.cell? ⟨g1, 3, none⟩ = some d ∧ Hid (Below W.heap.size W w') := by
  obtain ⟨y0, y1, y2, y3, -⟩ := (h1.after hB.out).four
  exact ⟨y0, y1, y2, y3, hB⟩
set_option maxRecDepth 100000 in
set_option maxHeartbeats 2000000 in
theorem chCuts_yes (w : World) (r : Ch.Rule) (S : Nat → Prop) (A : Option Addr) (n c : Nat) (bs : List UInt8) (hx : Bs w S A n c bs) (hn : n ≤ 300) (hT : Tab64 w) :
    Calls Tryd.prog 7 #[.agg r.v, .slice A n c] w fun e w' => e = .returned (.bool true) ∧ Below w.heap.size w w' := by
  have HX := Lib.hid hx.old
  have hlen := hx.len
  have hn' : (n : Int) ≤ 300 := by omega
  obtain ⟨av, hav⟩ : ∃ av, av = 2 ^ r.k := ⟨_, rfl⟩
  have HV : Hid (r.v = #[.int .u64 (r.seed : Int), .int .i64 (r.mn : Int), .int .i64 (av : Int), .int .i64 (r.mx : Int)]) := Lib.hid (by rw [hav]; rfl)
  have HT : Hid (∀ w', Below w.heap.size w w' → Tab64 w') := Lib.hid fun w' hb => Tab64.below hT hb
  have HS1 : Hid (∀ w', Below w.heap.size w w' → Calls Tryd.prog 22 #[.agg r.v, .slice A n c] w' (SplitEnd w' r bs)) := Lib.hid fun w' hb => split_yes w' r _ A n c bs (HX.out.below hb) (by omega) (HT.out w' hb)
  have HS2 : Hid (∀ w', Below w.heap.size w w' → Calls Tryd.prog 24 #[.agg r.v, .slice A n c] w' (RSplitEnd w' r bs)) := Lib.hid fun w' hb => rsplit_yes w' r _ A n c bs (HX.out.below hb) (by omega)
  have HS3 : Hid (∀ w', Below w.heap.size w w' → Calls Tryd.prog 25 #[.agg r.v, .slice A n c] w' (EndsEnd w' r bs)) := Lib.hid fun w' hb => ends_yes w' r _ A n c bs (HX.out.below hb) (by omega) (HT.out w' hb)
  have HS4 : Hid (∀ w', Below w.heap.size w w' → Calls Tryd.prog 28 #[.agg r.v, .slice A n c] w' fun e w'' => e = .returned (.int .i64 ((cutN r bs : Nat) : Int)) ∧ Below w'.heap.size w' w'') := Lib.hid fun w' hb => ccut_yes w' r _ A n c bs (HX.out.below hb) (by omega) (HT.out w' hb)
  have HS5 : Hid (∀ w', Below w.heap.size w w' → Calls Tryd.prog 29 #[.agg r.v, .slice A n c] w' fun e w'' => e = .returned (.int .i64 ((cutN r bs : Nat) : Int)) ∧ Below w'.heap.size w' w'') := Lib.hid fun w' hb => rCut_yes w' r _ A n c bs (HX.out.below hb) (by omega)
  have HS6 : Hid (∀ w', Calls Tryd.prog 26 #[.agg r.v] w' fun e w'' => e = .returned (.bool true) ∧ Below w'.heap.size w' w'') := Lib.hid fun w' => cright_yes w' r
  have HS7 : Hid (∀ w', Calls Tryd.prog 27 #[.agg r.v] w' fun e w'' => e = .returned (.bool true) ∧ Below w'.heap.size w' w'') := Lib.hid fun w' => rright_yes w' r
  have h0 : Hid (Blk (w.alloc (.cells r.v 41)) w.heap.size 41 r.v ∧ Below w.heap.size w (w.alloc (.cells r.v 41))) := Lib.hid ⟨Blk.new w _ _, (Below.refl _ w).alloc (Nat.le_refl _) _⟩
  rw [HV.out] at HS1 HS2 HS3 HS4 HS5 HS6 HS7 h0 ⊢
  clear hx hT hav HV
  go_enter Tryd.func7, Tryd.ntmps7
  go_wp2_with fail
  refine (own_any _ _ _ _ _).mono ?_
  rintro e w1 ⟨rfl, hb1⟩
  have h1 := And.intro (h0.out.1.after hb1) (h0.out.2.trans (hb1.mono h0.out.2.size))
  have H1 := Lib.hid h1
  clear hb1 h0 h1
  go_wp2_with fail
  refine (HS1.out w1 H1.out.2).mono ?_
  rintro e w2 ⟨v2, l, rfl, hs2, hl2, hb2⟩
  obtain ⟨A2, c2, rfl, -⟩ := hl2.shape
  have h2 := And.intro (H1.out.1.after hb2) (H1.out.2.trans (hb2.mono H1.out.2.size))
  have H2 := Lib.hid h2
  obtain ⟨k0, k1, k2, k3, -⟩ := h2.1.four
  have HSP := Lib.hid hs2
  have HL2 := Lib.hid hl2.reads
  clear hb2 h2 H1 hs2 hl2
  go_wp2_with fail
  refine (HS2.out w2 H2.out.2).mono ?_
  rintro e w3 ⟨v3, l3, rfl, hs3, hl3, hb3⟩
  have e3 := hs3.uniq HSP.out
  subst e3
  obtain ⟨A3, c3, rfl, -⟩ := hl3.shape
  have h3 := And.intro (H2.out.1.after hb3) (H2.out.2.trans (hb3.mono H2.out.2.size))
  have H3 := Lib.hid h3
  obtain ⟨k0, k1, k2, k3, -⟩ := h3.1.four
  have HL3 := Lib.hid (And.intro (HL2.out.after hb3) hl3.reads)
  clear hb3 h3 H2 hs3 hl3 HL2
  go_wp2_with fail
  refine (own_any _ _ _ _ _).mono ?_
  rintro e w4 ⟨rfl, hb4⟩
  have H4 : Hid (Blk w4 w.heap.size 41 #[.int .u64 (r.seed : Int), .int .i64 (r.mn : Int), .int .i64 (av : Int), .int .i64 (r.mx : Int)] ∧ Below w.heap.size w w4 ∧ RR w4 _ A2 l3.length c2 l3 ∧ RR w4 _ A3 l3.length c3 l3) := Lib.hid ⟨H3.out.1.after hb4, H3.out.2.trans (hb4.mono H3.out.2.size), HL3.out.1.after hb4, HL3.out.2.after hb4⟩
  clear hb4 H3 HL3 k0 k1 k2 k3
  go_wp2_with fail
  refine (HS3.out w4 H4.out.2.1).mono ?_
  rintro e w5 ⟨v5, l5, rfl, hs5, ho5, hb5⟩
  have e5 := hs5.uniq HSP.out
  subst e5
  obtain ⟨N, hN⟩ : ∃ N, N = l5.length := ⟨_, rfl⟩
  rw [← hN] at H4 ho5 ⊢
  obtain ⟨A5, c5, rfl, -⟩ := own_shape ho5
  have H5 : Hid (Blk w5 w.heap.size 41 #[.int .u64 (r.seed : Int), .int .i64 (r.mn : Int), .int .i64 (av : Int), .int .i64 (r.mx : Int)] ∧ Below w.heap.size w w5 ∧ RR w5 _ A2 N c2 l5 ∧ RR w5 _ A3 N c3 l5) := Lib.hid ⟨H4.out.1.after hb5, H4.out.2.1.trans (hb5.mono H4.out.2.1.size), H4.out.2.2.1.after hb5, H4.out.2.2.2.after hb5⟩
  have HO5 : Hid (Reads w5 (Lo w5.heap.size) 1 A5 N (endsV l5 N)) := Lib.hid ((Reads.of_own ho5).old (by omega))
  have hfl : l5.flatten.length ≤ 300 := by rw [HSP.out.flat]; omega
  have hNl : N ≤ 300 := by rw [hN]; exact split_len HSP.out (by omega)
  have hxs : ∀ x ∈ l5, x.length ≤ 1000000000 := fun x hx => by
    have := mem_flat hx
    omega
  have HLI : Hid (∀ w', Hid (Below w5.heap.size w5 w') → Calls Tryd.prog 30 #[.slice A2 N c2, .slice A3 N c3] w' fun e w'' => e = .returned (.bool true) ∧ Below w'.heap.size w' w'') := Lib.hid fun w' hb => (lists_any w' _ _ A2 A3 N N c2 c3 l5 l5 (H5.out.2.2.1.after hb.out) (H5.out.2.2.2.after hb.out) (by omega) hxs hxs).mono fun e w'' ⟨h1, k, h2⟩ => ⟨by rw [h1]; simp, by rw [h2]; exact below_drewN (Below.refl _ _) k⟩
  have HB : Hid (∀ w', Hid (Below w5.heap.size w5 w') → Below w.heap.size w w') := Lib.hid fun w' hb => H5.out.2.1.trans (hb.out.mono H5.out.2.1.size)
  have HNN := Lib.hid hN
  have HXS := Lib.hid hxs
  obtain ⟨k0, k1, k2, k3, -⟩ := H5.out.1.four
  have hB0 : Hid (Below w5.heap.size w5 w5.drew) := Lib.hid (Below.refl _ _).drew
  clear hb5 H4 ho5 hs5 hN hxs
  go_wp2_with fail
  go_region_held3 (fun w' => w'.cell? ⟨w.heap.size, 0, none⟩ = some (.int .u64 (r.seed : Int)) ∧ w'.cell? ⟨w.heap.size, 1, none⟩ = some (.int .i64 (r.mn : Int)) ∧ w'.cell? ⟨w.heap.size, 2, none⟩ = some (.int .i64 (av : Int)) ∧ w'.cell? ⟨w.heap.size, 3, none⟩ = some (.int .i64 (r.mx : Int)) ∧ Hid (Below w5.heap.size w5 w')) (with_reducible exact hold_four' H5.out.1 (by assumption)) (first | (go_at_call 23; refine (own_any _ _ _ _ _).mono ?_; rintro e w6 ⟨rfl, hb6⟩; have hB6 := next_below (by assumption) hb6) | (go_at_call 26; refine (HS6.out _).mono ?_; rintro e w7 ⟨rfl, hb7⟩; have hB7 := next_below (by assumption) hb7) | (go_at_call 27; refine (HS7.out _).mono ?_; rintro e w8 ⟨rfl, hb8⟩; have hB8 := next_below (by assumption) hb8) | (go_at_call 28; refine (HS4.out _ (HB.out _ (by assumption))).mono ?_; rintro e w9 ⟨rfl, hb9⟩; have hB9 := next_below (by assumption) hb9) | (go_at_call 29; refine (HS5.out _ (HB.out _ (by assumption))).mono ?_; rintro e w10 ⟨rfl, hb10⟩; have hB10 := next_below (by assumption) hb10) | (go_at_call 30; refine (HLI.out _ (by assumption)).mono ?_; rintro e w11 ⟨rfl, hb11⟩; have hB11 := next_below (by assumption) hb11))
  have HR5 : Hid (RR w11 _ A3 N c3 l5 ∧ Reads w11 (Lo w5.heap.size) 1 A5 N (endsV l5 N) ∧ Below w.heap.size w w11) := Lib.hid ⟨H5.out.2.2.2.after hB11.out, HO5.out.below hB11.out, HB.out _ hB11⟩
  have HTT := Lib.hid (fun w' (hb : Below w11.heap.size w11 w') => chAlive_any w' (HT.out w' (HR5.out.2.2.trans (hb.mono HR5.out.2.2.size))))
  rename_i hHeld
  clear hHeld hB0 hB6 hB7 hB8 hB9 hB10 hb11 hb10 hb9 hb8 hb7 hb6 hB11 k0 k1 k2 k3 HO5 H5 HB HLI
  go_wp2_with fail
  go_loopw [11, 12] (fun v11 v12 wr => w11 = wr ∧ ∃ k : Nat, k ≤ N ∧ v11 = .int .i64 ((endsF l5 k : Nat) : Int) ∧ v12 = .int .i64 (k : Int)) (fun _ v12 _ => N - (intOf v12).toNat)
  case atStart => exact ⟨rfl, 0, Nat.zero_le _, rfl, rfl⟩
  case round =>
    obtain ⟨rfl, k, hk, rfl, rfl⟩ := hrel
    by_cases hlt : k < N
    · obtain ⟨ad, A', n', c', x, rfl, -, hx, hcell, hbx⟩ := HR5.out.1.at_ k hlt
      obtain ⟨ad5, rfl, -, hc5⟩ := HR5.out.2.1.2 (by omega)
      have hc5' := hc5 k _ (endsV_at hlt)
      have hes := endsF_succ hx.out
      have hel := endsF_le l5 (k + 1)
      rw [hbx.len] at hes
      obtain ⟨e0, he0⟩ : ∃ e0, e0 = endsF l5 k := ⟨_, rfl⟩
      obtain ⟨e1, he1⟩ : ∃ e1, e1 = endsF l5 (k + 1) := ⟨_, rfl⟩
      rw [← he0, ← he1] at hes
      rw [← he1] at hc5' hel
      subst hes
      rw [← he0]
      have HE1 := Lib.hid he1
      have hle : e0 + n' ≤ 300 := by omega
      have hlt' : (k : Int) < (N : Int) := by omega
      rw [Int.natCast_add] at hc5'
      clear hbx hc5 hel he0 he1
      go_wp2_with fail
      go_roundw
      case rel => exact ⟨trivial, k + 1, by omega, by rw [← HE1.out]; go_num, by go_num⟩
      case measure => simp [intOf]; omega
    · obtain rfl : k = N := by omega
      go_wp2_with fail
      refine (usual_any _).mono ?_
      rintro e w12 ⟨rfl, hb12⟩
      have HB12 := Lib.hid hb12
      clear hb12
      go_wp2_with fail
      obtain ⟨W13, hW13⟩ : ∃ W13, W13 = w12.alloc (.cells #[.int .u64 0, .int .i64 16, .int .i64 32, .int .i64 64] 46) := ⟨_, rfl⟩
      have HK13 : Hid (Blk W13 w12.heap.size 46 #[.int .u64 0, .int .i64 16, .int .i64 32, .int .i64 64]) := Lib.hid (by rw [hW13]; exact Blk.new _ _ _)
      have HB13 : Hid (Below w11.heap.size w11 W13) := Lib.hid (by rw [hW13]; exact HB12.out.alloc HB12.out.size _)
      have HTA : Hid (∀ w', Hid (Below W13.heap.size W13 w') → Calls Tryd.prog 21 #[] w' fun e w'' => e = .returned (.bool true) ∧ Below w'.heap.size w' w'') := Lib.hid fun w' hb => HTT.out w' (HB13.out.trans (hb.out.mono HB13.out.size))
      rw [← hW13]
      clear hW13
      obtain ⟨y0, y1, y2, y3, -⟩ := HK13.out.four
      have hB14 : Hid (Below W13.heap.size W13 W13.drew) := Lib.hid (Below.refl _ _).drew
      go_region_held3 (fun w' => w'.cell? ⟨w12.heap.size, 0, none⟩ = some (.int .u64 0) ∧ w'.cell? ⟨w12.heap.size, 1, none⟩ = some (.int .i64 16) ∧ w'.cell? ⟨w12.heap.size, 2, none⟩ = some (.int .i64 32) ∧ w'.cell? ⟨w12.heap.size, 3, none⟩ = some (.int .i64 64) ∧ Hid (Below W13.heap.size W13 w')) (with_reducible exact hold_four' HK13.out (by assumption)) (first | (go_at_call 32; refine (rusual_any _).mono ?_; rintro e w15 ⟨rfl, hb15⟩; have hB15 := next_below (by assumption) hb15) | (go_at_call 21; refine (HTA.out _ (by assumption)).mono ?_; rintro e w16 ⟨rfl, hb16⟩; have hB16 := next_below (by assumption) hb16))
      go_wp2_with fail
      go_ret
      exact ⟨rfl, HR5.out.2.2.trans ((HB13.out.trans (hB16.out.mono HB13.out.size)).mono HR5.out.2.2.size)⟩
set_option maxRecDepth 100000 in
set_option maxHeartbeats 2000000 in
theorem chCuts_no (w : World) (seed : Nat) (mn av mx : Int) (hr : ¬ RRight mn av mx) (A : Option Addr) (n c : Nat) (hn : n ≤ 300) (hT : Tab64 w) :
    Calls Tryd.prog 7 #[.agg #[.int .u64 (seed : Int), .int .i64 mn, .int .i64 av, .int .i64 mx], .slice A n c] w fun e w' => e = .returned (.bool true) ∧ Below w.heap.size w w' := by
  have hn' : (n : Int) ≤ 300 := by omega
  have HT : Hid (∀ w', Below w.heap.size w w' → Tab64 w') := Lib.hid fun w' hb => Tab64.below hT hb
  have HS1 := Lib.hid (fun w' => split_no w' seed mn av mx hr A n c)
  have HS2 := Lib.hid (fun w' => rsplit_no w' seed mn av mx hr A n c)
  have HS3 := Lib.hid (fun w' => ends_no w' seed mn av mx hr A n c)
  have HS4 := Lib.hid (fun w' => ccut_no w' seed mn av mx hr A n c)
  have HS5 := Lib.hid (fun w' => rCut_no w' seed mn av mx hr A n c)
  have HS6 := Lib.hid (fun w' => cright_no w' seed mn av mx hr)
  have HS7 := Lib.hid (fun w' => rright_no w' seed mn av mx hr)
  have h0 : Hid (Blk (w.alloc (.cells #[.int .u64 (seed : Int), .int .i64 mn, .int .i64 av, .int .i64 mx] 41)) w.heap.size 41 #[.int .u64 (seed : Int), .int .i64 mn, .int .i64 av, .int .i64 mx] ∧ Below w.heap.size w (w.alloc (.cells #[.int .u64 (seed : Int), .int .i64 mn, .int .i64 av, .int .i64 mx] 41))) := Lib.hid ⟨Blk.new w _ _, (Below.refl _ w).alloc (Nat.le_refl _) _⟩
  clear hr hT
  go_enter Tryd.func7, Tryd.ntmps7
  go_wp2_with fail
  refine (own_any _ _ _ _ _).mono ?_
  rintro e w1 ⟨rfl, hb1⟩
  have H1 := Lib.hid (And.intro (h0.out.1.after hb1) (h0.out.2.trans (hb1.mono h0.out.2.size)))
  clear hb1 h0
  go_wp2_with fail
  refine (HS1.out w1).mono ?_
  rintro e w2 ⟨rfl, hb2⟩
  have H2 := Lib.hid (And.intro (H1.out.1.after hb2) (H1.out.2.trans (hb2.mono H1.out.2.size)))
  obtain ⟨k0, k1, k2, k3, -⟩ := H2.out.1.four
  clear hb2 H1
  go_wp2_with fail
  refine (HS2.out w2).mono ?_
  rintro e w3 ⟨rfl, hb3⟩
  have H3 := Lib.hid (And.intro (H2.out.1.after hb3) (H2.out.2.trans (hb3.mono H2.out.2.size)))
  obtain ⟨k0, k1, k2, k3, -⟩ := H3.out.1.four
  clear hb3 H2
  go_wp2_with fail
  refine (own_any _ _ _ _ _).mono ?_
  rintro e w4 ⟨rfl, hb4⟩
  have H4 := Lib.hid (And.intro (H3.out.1.after hb4) (H3.out.2.trans (hb4.mono H3.out.2.size)))
  clear hb4 H3 k0 k1 k2 k3
  go_wp2_with fail
  refine (HS3.out w4).mono ?_
  rintro e w5 ⟨rfl, hb5⟩
  have H5 := Lib.hid (And.intro (H4.out.1.after hb5) (H4.out.2.trans (hb5.mono H4.out.2.size)))
  have HLI : Hid (∀ w' : World, Calls Tryd.prog 30 #[.slice none 0 0, .slice none 0 0] w' fun e w'' => e = .returned (.bool true) ∧ Below w'.heap.size w' w'') := Lib.hid fun w' => (lists_any w' AnyB AnyB none none 0 0 0 0 [] [] ⟨rfl, Nat.le_refl _, fun k hk => by omega⟩ ⟨rfl, Nat.le_refl _, fun k hk => by omega⟩ (by omega) (fun x hx => by cases hx) (fun x hx => by cases hx)).mono fun e w'' ⟨h1, k, h2⟩ => ⟨by rw [h1]; rfl, by rw [h2]; exact below_drewN (Below.refl _ _) k⟩
  have HB : Hid (∀ w', Hid (Below w5.heap.size w5 w') → Below w.heap.size w w') := Lib.hid fun w' hb => H5.out.2.trans (hb.out.mono H5.out.2.size)
  obtain ⟨k0, k1, k2, k3, -⟩ := H5.out.1.four
  have hB0 : Hid (Below w5.heap.size w5 w5.drew) := Lib.hid (Below.refl _ _).drew
  clear hb5 H4
  go_wp2_with fail
  go_region_held3 (fun w' => w'.cell? ⟨w.heap.size, 0, none⟩ = some (.int .u64 (seed : Int)) ∧ w'.cell? ⟨w.heap.size, 1, none⟩ = some (.int .i64 mn) ∧ w'.cell? ⟨w.heap.size, 2, none⟩ = some (.int .i64 av) ∧ w'.cell? ⟨w.heap.size, 3, none⟩ = some (.int .i64 mx) ∧ Hid (Below w5.heap.size w5 w')) (with_reducible exact hold_four' H5.out.1 (by assumption)) (first | (go_at_call 23; refine (own_any _ _ _ _ _).mono ?_; rintro e w6 ⟨rfl, hb6⟩; have hB6 := next_below (by assumption) hb6) | (go_at_call 26; refine (HS6.out _).mono ?_; rintro e w7 ⟨rfl, hb7⟩; have hB7 := next_below (by assumption) hb7) | (go_at_call 27; refine (HS7.out _).mono ?_; rintro e w8 ⟨rfl, hb8⟩; have hB8 := next_below (by assumption) hb8) | (go_at_call 28; refine (HS4.out _).mono ?_; rintro e w9 ⟨rfl, hb9⟩; have hB9 := next_below (by assumption) hb9) | (go_at_call 29; refine (HS5.out _).mono ?_; rintro e w10 ⟨rfl, hb10⟩; have hB10 := next_below (by assumption) hb10) | (go_at_call 30; refine (HLI.out _).mono ?_; rintro e w11 ⟨rfl, hb11⟩; have hB11 := next_below (by assumption) hb11))
  have HR5 : Hid (True ∧ True ∧ Below w.heap.size w w11) := Lib.hid ⟨trivial, trivial, HB.out _ hB11⟩
  have HTT := Lib.hid (fun w' (hb : Below w11.heap.size w11 w') => chAlive_any w' (HT.out w' (HR5.out.2.2.trans (hb.mono HR5.out.2.2.size))))
  rename_i hHeld
  clear hHeld hB0 hB6 hB7 hB8 hB9 hB10 hb11 hb10 hb9 hb8 hb7 hb6 hB11 k0 k1 k2 k3 H5 HB HLI
  go_wp2_with fail
  go_loopw [11, 12] (fun v11 v12 wr => w11 = wr ∧ v11 = .int .i64 0 ∧ v12 = .int .i64 0) (fun _ _ _ => 0)
  case atStart => exact ⟨rfl, rfl, rfl⟩
  case round =>
      obtain ⟨rfl, rfl, rfl⟩ := hrel
      go_wp2_with fail
      refine (usual_any _).mono ?_
      rintro e w12 ⟨rfl, hb12⟩
      have HB12 := Lib.hid hb12
      clear hb12
      go_wp2_with fail
      obtain ⟨W13, hW13⟩ : ∃ W13, W13 = w12.alloc (.cells #[.int .u64 0, .int .i64 16, .int .i64 32, .int .i64 64] 46) := ⟨_, rfl⟩
      have HK13 : Hid (Blk W13 w12.heap.size 46 #[.int .u64 0, .int .i64 16, .int .i64 32, .int .i64 64]) := Lib.hid (by rw [hW13]; exact Blk.new _ _ _)
      have HB13 : Hid (Below w11.heap.size w11 W13) := Lib.hid (by rw [hW13]; exact HB12.out.alloc HB12.out.size _)
      have HTA : Hid (∀ w', Hid (Below W13.heap.size W13 w') → Calls Tryd.prog 21 #[] w' fun e w'' => e = .returned (.bool true) ∧ Below w'.heap.size w' w'') := Lib.hid fun w' hb => HTT.out w' (HB13.out.trans (hb.out.mono HB13.out.size))
      rw [← hW13]
      clear hW13
      obtain ⟨y0, y1, y2, y3, -⟩ := HK13.out.four
      have hB14 : Hid (Below W13.heap.size W13 W13.drew) := Lib.hid (Below.refl _ _).drew
      go_region_held3 (fun w' => w'.cell? ⟨w12.heap.size, 0, none⟩ = some (.int .u64 0) ∧ w'.cell? ⟨w12.heap.size, 1, none⟩ = some (.int .i64 16) ∧ w'.cell? ⟨w12.heap.size, 2, none⟩ = some (.int .i64 32) ∧ w'.cell? ⟨w12.heap.size, 3, none⟩ = some (.int .i64 64) ∧ Hid (Below W13.heap.size W13 w')) (with_reducible exact hold_four' HK13.out (by assumption)) (first | (go_at_call 32; refine (rusual_any _).mono ?_; rintro e w15 ⟨rfl, hb15⟩; have hB15 := next_below (by assumption) hb15) | (go_at_call 21; refine (HTA.out _ (by assumption)).mono ?_; rintro e w16 ⟨rfl, hb16⟩; have hB16 := next_below (by assumption) hb16))
      go_wp2_with fail
      go_ret
      exact ⟨rfl, HR5.out.2.2.trans ((HB13.out.trans (hB16.out.mono HB13.out.size)).mono HR5.out.2.2.size)⟩
theorem chCuts_any (w : World) (seed : Nat) (hs : seed < Gear.M) (mn av mx : Int) (S : Nat → Prop) (A : Option Addr) (n c : Nat) (bs : List UInt8) (hx : Bs w S A n c bs) (hT : Tab64 w) :
    Calls Tryd.prog 7 #[.agg #[.int .u64 (seed : Int), .int .i64 mn, .int .i64 av, .int .i64 mx], .slice A n c] w fun e w' => e = .returned (.bool true) ∧ Below w.heap.size w w' := by
  by_cases hn : n ≤ 300
  · by_cases hr : RRight mn av mx
    · obtain ⟨r, rfl, rfl, rfl, rfl⟩ := right_rule hs hr
      exact chCuts_yes w r S A n c bs hx hn hT
    · exact chCuts_no w seed mn av mx hr A n c hn hT
  · exact chCuts_long w seed mn av mx A n c (by omega) hT
end Go.Proofs.YtognkonncfjneaaDoor
