/- The walk of ChunkerBack. Conditions: each theorem's premises. -/
import Derived.Test.YtognkonncfjneaaDoorChBk1
import Derived.Test.YtognkonncfjneaaDoorChWrap
namespace Go.Proofs.YtognkonncfjneaaDoor
open Go.RowKit
set_option maxRecDepth 100000 in
theorem back_long (w : World) (seed : Nat) (mn av mx : Int) (A B : Option Addr) (n c m d : Nat) (h : 300 < n ∨ 40 < m) (hT : Tab64 w) :
    Calls Tryd.prog 10 #[.agg #[.int .u64 (seed : Int), .int .i64 mn, .int .i64 av, .int .i64 mx], .slice A n c, .slice B m d] w fun e w' => e = .returned (.bool true) ∧ Below w.heap.size w w' := by
  have hW : Hid (∀ o, Below w.heap.size w (w.alloc o)) := Lib.hid fun o => (Below.refl _ w).alloc (Nat.le_refl _) _
  have HA : Hid (∀ w', Below w.heap.size w w' → Calls Tryd.prog 21 #[] w' fun e w'' => e = .returned (.bool true) ∧ Below w'.heap.size w' w'') := Lib.hid fun w' hb => chAlive_any w' (Tab64.below hT hb)
  clear hT
  rcases (show 300 < n ∨ (n ≤ 300 ∧ 40 < m) by omega) with h1 | ⟨h1, h2⟩
  all_goals
    clear h
    go_enter Tryd.func10, Tryd.ntmps10
    go_wp2_with fail
    refine (HA.out _ (hW.out _)).mono ?_
    rintro e w1 ⟨rfl, hb1⟩
    have HB1 := Lib.hid ((hW.out _).trans (hb1.mono (hW.out _).size))
    clear hb1
    go_wp2_with fail
    go_ret
    exact ⟨rfl, HB1.out⟩
set_option maxRecDepth 100000 in
theorem back_no (w : World) (seed : Nat) (mn av mx : Int) (A B : Option Addr) (n c m d : Nat) (h1 : n ≤ 300) (h2 : m ≤ 40) (hr : ¬ RRight mn av mx) (hT : Tab64 w) :
    Calls Tryd.prog 10 #[.agg #[.int .u64 (seed : Int), .int .i64 mn, .int .i64 av, .int .i64 mx], .slice A n c, .slice B m d] w fun e w' => e = .returned (.bool true) ∧ Below w.heap.size w w' := by
  have HA : Hid (∀ w', Below w.heap.size w w' → Calls Tryd.prog 21 #[] w' fun e w'' => e = .returned (.bool true) ∧ Below w'.heap.size w' w'') := Lib.hid fun w' hb => chAlive_any w' (Tab64.below hT hb)
  have HSP : Hid (∀ w', Calls Tryd.prog 22 #[.agg #[.int .u64 (seed : Int), .int .i64 mn, .int .i64 av, .int .i64 mx], .slice A n c] w' fun e w'' => e = .returned (.tuple #[.slice none 0 0, .int .i64 1]) ∧ Below w'.heap.size w' w'') := Lib.hid fun w' => split_no w' seed mn av mx hr A n c
  have HR : Hid (∀ w', Calls Tryd.prog 26 #[.agg #[.int .u64 (seed : Int), .int .i64 mn, .int .i64 av, .int .i64 mx]] w' fun e w'' => e = .returned (.bool false) ∧ Below w'.heap.size w' w'') := Lib.hid fun w' => cright_no w' seed mn av mx hr
  have h0 : Hid (Blk (w.alloc (.cells #[.int .u64 (seed : Int), .int .i64 mn, .int .i64 av, .int .i64 mx] 41)) w.heap.size 41 #[.int .u64 (seed : Int), .int .i64 mn, .int .i64 av, .int .i64 mx] ∧ Below w.heap.size w (w.alloc (.cells #[.int .u64 (seed : Int), .int .i64 mn, .int .i64 av, .int .i64 mx] 41))) := Lib.hid ⟨Blk.new w _ _, (Below.refl _ w).alloc (Nat.le_refl _) _⟩
  clear hT hr
  go_enter Tryd.func10, Tryd.ntmps10
  go_wp2_with fail
  refine (own_any _ _ _ _ _).mono ?_
  rintro e w1 ⟨rfl, hb1⟩
  have H1 := Lib.hid (And.intro (h0.out.1.after hb1) (h0.out.2.trans (hb1.mono h0.out.2.size)))
  clear hb1 h0
  go_wp2_with fail
  refine (HSP.out _).mono ?_
  rintro e w2 ⟨rfl, hb2⟩
  have H2 := Lib.hid (And.intro (H1.out.1.after hb2) (H1.out.2.trans (hb2.mono H1.out.2.size)))
  obtain ⟨k0, k1, k2, k3, -⟩ := H2.out.1.four
  clear hb2 H1
  go_wp2_with fail
  refine (own_any _ _ _ _ _).mono ?_
  rintro e w3 ⟨rfl, hb3⟩
  have H3 := Lib.hid (H2.out.2.trans (hb3.mono H2.out.2.size))
  clear hb3
  go_wp2_with fail
  refine (HR.out _).mono ?_
  rintro e w4 ⟨rfl, hb4⟩
  have H4 := Lib.hid (H3.out.trans (hb4.mono H3.out.size))
  clear hb4
  go_wp2_with fail
  refine (HA.out _ H4.out).mono ?_
  rintro e w5 ⟨rfl, hb5⟩
  have H5 := Lib.hid (H4.out.trans (hb5.mono H4.out.size))
  clear hb5
  go_wp2_with fail
  go_ret
  exact ⟨rfl, H5.out⟩
theorem IR.after {w w' : World} {S : Nat → Prop} {n c : Nat} {A : Option Addr} {z : List Int} (h : IR w S A n c z) (hb : Below w.heap.size w w') : IR w' S A n c z := h.keep (fun _ _ hp => hb.cell hp) (fun _ h _ => h)
/-- Where the bytes are cut. -/
theorem cut_place (z : Int) (n : Nat) (hn : n ≤ 300) : ∃ k : Nat, (wrap64 (wrap64 (z.tmod ((n : Int) + 1) + (n : Int)) + 1)).tmod ((n : Int) + 1) = (k : Int) ∧ k ≤ n := by
  have hb : -(n : Int) ≤ z.tmod ((n : Int) + 1) ∧ z.tmod ((n : Int) + 1) ≤ (n : Int) := by
    rcases Int.le_total 0 z with h | h
    · have h1 := Int.tmod_nonneg ((n : Int) + 1) h
      have h2 := Int.tmod_lt_of_pos z (show (0 : Int) < (n : Int) + 1 by omega)
      omega
    · obtain ⟨y, rfl⟩ : ∃ y, z = -y := ⟨-z, by omega⟩
      have h1 := Int.tmod_nonneg ((n : Int) + 1) (show 0 ≤ y by omega)
      have h2 := Int.tmod_lt_of_pos y (show (0 : Int) < (n : Int) + 1 by omega)
      rw [Int.neg_tmod]
      omega
  generalize z.tmod ((n : Int) + 1) = y at hb
  have e1 : wrap64 (y + (n : Int)) = y + (n : Int) := by unfold wrap64; omega
  have e2 : wrap64 (y + (n : Int) + 1) = y + (n : Int) + 1 := by unfold wrap64; omega
  rw [e1, e2]
  have h1 := Int.tmod_nonneg ((n : Int) + 1) (show 0 ≤ y + (n : Int) + 1 by omega)
  have h2 := Int.tmod_lt_of_pos (y + (n : Int) + 1) (show (0 : Int) < (n : Int) + 1 by omega)
  exact ⟨_, (Int.toNat_of_nonneg h1).symm, by omega⟩
theorem upto_all {A : Option Addr} {n c k : Nat} (hn : k ≤ n) (hc : n ≤ c) : ∃ A7 c7, (∀ W, (Instr.sliceAt 23 (.slice A n c) none (some (.int .i64 (k : Int))) none).run Tryd.prog W = .ok (.slice A7 k c7) W) ∧ ∀ (W : World) (S : Nat → Prop) (x : List UInt8), Bs W S A n c x → Bs W S A7 k c7 (x.take k) := by
  obtain ⟨i0, hi0, _, hz1, _⟩ := info_parts Tryd.info5
  refine ⟨_, _, run_cut_upto Tryd.underlying23 hi0 hz1 A n c (k : Int) k rfl (by omega), fun W S x h => ?_⟩
  have h2 := h.take hn (c' := c - 0) (by omega)
  have he : (if c = 0 then A else Option.map (fun x => x.add (0 * 1)) A) = A := by
    by_cases e : c = 0
    · rw [if_pos e]
    · rw [if_neg e]; cases A <;> simp [Addr.add]
  first | (rw [he]; exact h2) | (simpa using h2)
theorem Kv.few {w1 W : World} {s g : Nat} {r : Ch.Rule} {bs : List UInt8} {lv : Value} {left : List UInt8} {lg : List (List UInt8)} {v11 : Value} {A : Option Addr} {n c : Nat} {xr : List UInt8} (h : Kv w1 s g r bs lv left lg v11 A n c xr W) : lg.length + left.length ≤ bs.length := by
  obtain ⟨pre, h1, h2⟩ := h.sure
  have h3 := sure_few h1
  rw [← h2, List.length_append]
  omega
theorem Kv.apart {w1 W : World} {s g : Nat} {r : Ch.Rule} {bs : List UInt8} {lv : Value} {left : List UInt8} {lg : List (List UInt8)} {v11 : Value} {A : Option Addr} {n c : Nat} {xr : List UInt8} (h : Kv w1 s g r bs lv left lg v11 A n c xr W) : ∀ k, Lo w1.heap.size k → k < W.heap.size → k ≠ g ∧ k ≠ s ∧ lv.ownBlock ≠ some k := fun k hk _ => by
  have h1 := h.gt
  have h2 := h.st.lt
  have hk' : k < w1.heap.size := hk
  exact ⟨by omega, by omega, fun e => by have := own_base h.st.ow k e; omega⟩
/-- What stays in ChunkerBack. -/
structure Bb (w : World) (rv : Array Value) (A B D : Option Addr) (n c m d N e : Nat) (bs : List UInt8) (zs : List Int) (l : List (List UInt8)) (W : World) : Prop where
  be : Below w.heap.size w W
  bk : Blk W w.heap.size 41 rv
  rs : Bs W AnyB A n c bs
  ir : IR W AnyB B m d zs
  ls : RR W AnyB D N e l
theorem Bb.after {w : World} {rv : Array Value} {A B D : Option Addr} {n c m d N e : Nat} {bs : List UInt8} {zs : List Int} {l : List (List UInt8)} {W W' : World} (h : Bb w rv A B D n c m d N e bs zs l W) (hb : Below W.heap.size W W') : Bb w rv A B D n c m d N e bs zs l W' :=
  ⟨h.be.trans (hb.mono h.be.size), h.bk.after hb, h.rs.after hb, h.ir.after hb, h.ls.after hb⟩
set_option maxRecDepth 100000 in
set_option maxHeartbeats 4000000 in
theorem back_yes (w : World) (r : Ch.Rule) (A B : Option Addr) (n c m d : Nat) (bs : List UInt8) (zs : List Int) (hx : Bs w AnyB A n c bs) (hz : IR w AnyB B m d zs) (h1 : n ≤ 300) (h2 : m ≤ 40) (hT : Tab64 w) :
    Calls Tryd.prog 10 #[.agg r.v, .slice A n c, .slice B m d] w fun e w' => e = .returned (.bool true) ∧ Below w.heap.size w w' := by
  obtain ⟨i0, hi0, hz0, hz1', hz2'⟩ := info_parts Tryd.info23
  have HX := Lib.hid hx
  have HZ := Lib.hid hz
  have HLB := Lib.hid hx.len
  obtain ⟨av, hav⟩ : ∃ av, av = 2 ^ r.k := ⟨_, rfl⟩
  have HV : Hid (r.v = #[.int .u64 (r.seed : Int), .int .i64 (r.mn : Int), .int .i64 (av : Int), .int .i64 (r.mx : Int)]) := Lib.hid (by rw [hav]; rfl)
  have HT : Hid (∀ w', Below w.heap.size w w' → Tab64 w') := Lib.hid fun w' hb => Tab64.below hT hb
  have HO : Hid (∀ w', Tab64 w' → Calls Tryd.prog 34 #[.agg r.v] w' (OpenEnd w' r)) := Lib.hid fun w' h => open_yes w' r h
  have HSP : Hid (∀ w' S A n c x, Bs w' S A n c x → n ≤ 100000000 → Tab64 w' → Calls Tryd.prog 22 #[.agg r.v, .slice A n c] w' (SplitEnd w' r x)) := Lib.hid fun w' S A n c x hb hn hT => split_yes w' r S A n c x hb hn hT
  have h0 : Hid (Blk (w.alloc (.cells r.v 41)) w.heap.size 41 r.v ∧ Below w.heap.size w (w.alloc (.cells r.v 41))) := Lib.hid ⟨Blk.new w _ _, (Below.refl _ w).alloc (Nat.le_refl _) _⟩
  rw [HV.out] at HO HSP h0 ⊢
  clear hx hz hT hav HV
  go_enter Tryd.func10, Tryd.ntmps10
  go_wp2_with fail
  refine (own_any _ _ _ _ _).mono ?_
  rintro e w1 ⟨rfl, hb1⟩
  have H1 : Hid (Blk w1 w.heap.size 41 #[.int .u64 (r.seed : Int), .int .i64 (r.mn : Int), .int .i64 (av : Int), .int .i64 (r.mx : Int)] ∧ Below w.heap.size w w1) := Lib.hid (And.intro (h0.out.1.after hb1) (h0.out.2.trans (hb1.mono h0.out.2.size)))
  clear hb1 h0
  go_wp2_with fail
  refine (HSP.out w1 _ A n c bs (HX.out.after H1.out.2) (by omega) (HT.out w1 H1.out.2)).mono ?_
  rintro e w2 ⟨v2, l, rfl, hs2, hl2, hb2⟩
  obtain ⟨D, e2, rfl, -⟩ := hl2.shape
  obtain ⟨N, hN⟩ : ∃ N, N = l.length := ⟨_, rfl⟩
  have H2 : Hid (Bb w #[.int .u64 (r.seed : Int), .int .i64 (r.mn : Int), .int .i64 (av : Int), .int .i64 (r.mx : Int)] A B D n c m d N e2 bs zs l w2) := Lib.hid (by
    have h := H1.out.2.trans (hb2.mono H1.out.2.size)
    exact ⟨h, H1.out.1.after hb2, HX.out.after h, HZ.out.after h, by rw [hN]; exact hl2.reads.any⟩)
  rw [← hN]
  have HSL := Lib.hid hs2
  have HN := Lib.hid hN
  have HFL : Hid (l.flatten = bs) := Lib.hid hs2.flat
  have hN3 : N ≤ 300 := by rw [hN]; exact split_len hs2 (by have := HLB.out; omega)
  clear hb2 hs2 hl2 H1 hN HX HZ HSP
  go_wp2_with fail
  refine (join_any w2 _ D N e2 l H2.out.ls (by omega) (by have := HLB.out; rw [HFL.out]; omega)).mono ?_
  rintro e w3 ⟨A3, c3, rfl, ho3, hb3⟩
  obtain ⟨A3', c3', e3, hx3⟩ := own_bs' ho3
  injection e3 with e31 e32 e33
  subst e31 e33
  have H3 := Lib.hid (H2.out.after hb3)
  have HX3 := Lib.hid hx3.any
  obtain ⟨M3, hM3⟩ : ∃ M, M = l.flatten.length := ⟨_, rfl⟩
  have hM4 : M3 ≤ 1000000000 := by rw [hM3, HFL.out, HLB.out]; omega
  rw [← hM3] at HX3 ⊢
  clear hb3 hx3 ho3 H2 hM3
  go_wp2_with fail
  refine (bytes_any w3 _ _ _ _ _ _ _ _ l.flatten bs HX3.out H3.out.rs hM4 (by omega)).mono ?_
  rintro e w4 ⟨rfl, j, rfl⟩
  have hdec : decide (l.flatten = bs) = true := decide_eq_true HFL.out
  rw [hdec]
  have H4 := Lib.hid (H3.out.after (below_drewN (Below.refl _ _) j))
  clear HX3 H3 hdec
  go_wp2_with fail
  obtain ⟨wo, hwo⟩ : ∃ wo : World, wo = w3.drewN j := ⟨_, rfl⟩
  rw [← hwo] at H4 ⊢
  clear hwo
  go_loopw [9] (fun v9 wr => ∃ i : Nat, i ≤ N ∧ v9 = .int .i64 (i : Int) ∧ Hid (Bb w #[.int .u64 (r.seed : Int), .int .i64 (r.mn : Int), .int .i64 (av : Int), .int .i64 (r.mx : Int)] A B D n c m d N e2 bs zs l wr)) (fun v9 _ => N - (intOf v9).toNat)
  case atStart => exact ⟨0, Nat.zero_le _, rfl, H4⟩
  case round =>
    obtain ⟨i, hi, rfl, HB⟩ := hrel
    clear H4
    obtain ⟨k0, k1, k2, k3, hlt⟩ := HB.out.bk.four
    by_cases hin : i < N
    · obtain ⟨ad, A', n', c', x, rfl, -, hx, hcell, hbx⟩ := HB.out.ls.at_ i hin
      obtain ⟨hs1, hs2, hs3⟩ := HSL.out.sizes i x hx.out
      rw [hbx.len, ← HN.out] at hs3
      rw [hbx.len] at hs1 hs2
      obtain ⟨mn, hmn⟩ : ∃ mn, mn = r.mn := ⟨_, rfl⟩
      obtain ⟨mx, hmx⟩ : ∃ mx, mx = r.mx := ⟨_, rfl⟩
      rw [← hmn] at hs3
      have hd0 : ((n' : Int) == 0) = false := by simp; omega
      have hd1 : decide ((r.mx : Int) < (n' : Int)) = false := by simp; omega
      have hd1' : decide (r.mx < n') = false := by simp; omega
      clear hbx hx
      by_cases hc : n' < r.mn
      · have hd2 : decide ((n' : Int) < (r.mn : Int)) = true := by simp; omega
        have hd2' : decide (n' < r.mn) = true := by simp; omega
        have hd3 : decide ((i : Int) < (N : Int) - 1) = false := by simp; omega
        go_wp2_with fail
        go_quiet (fail)
        go_wp2_with fail
        go_roundw
        case rel => exact ⟨i + 1, by omega, by go_num, Lib.hid (HB.out.after (below_drewN (Below.refl _ _) _))⟩
        case measure => simp [intOf]; omega
      · have hd2 : decide ((n' : Int) < (r.mn : Int)) = false := by simp; omega
        have hd2' : decide (n' < r.mn) = false := by simp; omega
        go_wp2_with fail
        go_quiet (fail)
        go_wp2_with fail
        go_roundw
        case rel => exact ⟨i + 1, by omega, by go_num, Lib.hid (HB.out.after (below_drewN (Below.refl _ _) _))⟩
        case measure => simp [intOf]; omega
    · obtain rfl : i = N := by omega
      go_wp2_with fail
      refine (own_any _ _ _ _ _).mono ?_
      rintro e w5 ⟨rfl, hb5⟩
      have H5 := Lib.hid (HB.out.after hb5)
      clear hb5 k0 k1 k2 k3
      go_wp2_with fail
      refine (HO.out w5 (HT.out w5 H5.out.be)).mono ?_
      rintro e w6 ⟨s, g, rfl, hst, hg, hb6⟩
      have H6 : Hid (Kv w5 s g r bs (.slice none 0 0) [] [] (.slice none 0 0) A n c bs w6) := Lib.hid ⟨hb6, hg, hst, RL.nil _ _ _, (fun k hk _ => by cases hk), H5.out.rs.old.below hb6, [], .stop Ch.cut_nil, rfl⟩
      have HIR := Lib.hid H5.out.ir.old
      have HLS := Lib.hid H5.out.ls.old
      have HBE := Lib.hid H5.out.be
      clear hb6 hst hg H5 HO HB
      go_wp2_with fail
      go_loopw [11, 12, 13] (fun v11 v12 v13 wr => ∃ (j : Nat) (lv : Value) (left : List UInt8) (lg : List (List UInt8)) (A12 : Option Addr) (n12 c12 : Nat) (xr : List UInt8), j ≤ m ∧ v12 = .slice A12 n12 c12 ∧ v13 = .int .i64 (j : Int) ∧ n12 ≤ 300 ∧ Hid (Kv w5 s g r bs lv left lg v11 A12 n12 c12 xr wr)) (fun _ _ v13 _ => m - (intOf v13).toNat)
      case atStart => exact ⟨0, _, [], [], A, n, c, bs, Nat.zero_le _, rfl, rfl, by omega, H6⟩
      case round =>
        obtain ⟨j, lv, left, lg, A12, n12, c12, xr, hj, rfl, rfl, hn12, HK⟩ := hrel
        clear H6
        obtain ⟨A11, c11, rfl, -⟩ := HK.out.got.shape
        by_cases hgo : j < m ∧ 0 < n12
        · obtain ⟨hjm, hpos⟩ := hgo
          obtain ⟨az, z, rfl, -, hz, hcz, hz1, hz2⟩ := (HIR.out.below HK.out.be).at_ j hjm
          obtain ⟨k, hk, hkn⟩ := cut_place z n12 hn12
          obtain ⟨A21, c21, hcut1, hX1⟩ := upto_all (A := A12) (n := n12) (c := c12) (k := k) hkn HK.out.rs.cap
          obtain ⟨A22, c22, hcut2, hX2⟩ := from_any (A := A12) (n := n12) (c := c12) (j := k) (n' := n12 - k) (by omega)
          have HX1 := Lib.hid (hX1 wr _ xr HK.out.rs)
          have HX2 := Lib.hid hX2
          clear hz hX1 hX2
          go_wp2_with fail
          refine (write_any wr s g r lv left (xr.take k) _ A21 k c21 HK.out.st HX1.out HK.out.apart (by have := HK.out.few; have := HLB.out; omega)).mono ?_
          rintro e w7 hw7
          obtain ⟨v7, l7, x7, lv7, rfl, hkw⟩ := HK.out.write (y := xr.take k) (z := xr.drop k) (List.take_append_drop k xr).symm hw7
          obtain ⟨vs, A7, c7, us, rfl, ho7, hr7, hu7, hf7, hs7, hnext⟩ := hkw.ready (by have := HLB.out; omega)
          have HNX := Lib.hid hnext
          clear hw7 hkw hnext
          go_wp2_with (at_builtin; go_must ((refine wpList_append_any _ rfl (.tmp 138) (.tmp 139) 42 rfl (s + 1) 23 i0 _ 1 24 Tryd.underlying42 hi0 hz0 hz1' hz2' rfl (by omega) (.slice A11 lg.length c11) lg.length vs rfl ho7 _ A7 l7.length c7 us rfl hr7 hu7 (by simp only [maxLen]; omega) (by omega) hs7 ?_; intro v8 w8 hown8 hg8 hat8)))
          have HK8 := Lib.hid (HNX.out v8 w8 A22 (n12 - k) c22 hown8 hg8 hat8 (fun W' hb => HX2.out W' _ xr hb))
          clear hown8 hg8 hat8 HNX ho7 hr7 hu7
          go_roundw
          case rel => exact ⟨j + 1, lv7, x7, lg ++ l7, A22, n12 - k, c22, xr.drop k, by omega, rfl, by go_num, by omega, HK8⟩
          case measure => simp [intOf]; omega
        · have HFW := Lib.hid HK.out.few
          have HAP := Lib.hid HK.out.apart
          have hor : j = m ∨ (j < m ∧ n12 = 0) := by omega
          have HRS := Lib.hid HK.out.rs
          have hl12 := HK.out.rs.len
          rcases hor with hjm | ⟨hjm, hn0⟩
          any_goals subst hn0
          any_goals subst hjm
          all_goals
            clear hgo
            go_wp2_with fail
            refine (write_any wr s g r lv left xr _ A12 _ c12 HK.out.st HRS.out HAP.out (by have := HFW.out; have := HLB.out; omega)).mono ?_
            rintro e w7 hw7
            obtain ⟨v7, l7, x7, lv7, rfl, hkw⟩ := HK.out.write (y := xr) (z := []) (List.append_nil xr).symm hw7
            obtain ⟨vs, A7, c7, us, rfl, ho7, hr7, hu7, hf7, hs7, hnext⟩ := hkw.ready (by have := HLB.out; omega)
            have HNX := Lib.hid hnext
            clear hw7 hkw hnext HK HFW HAP HRS hl12
            go_wp2_with (at_builtin; go_must ((refine wpList_append_any _ rfl (.tmp 150) (.tmp 151) 42 rfl (s + 1) 23 i0 _ 1 24 Tryd.underlying42 hi0 hz0 hz1' hz2' rfl (by omega) (.slice A11 lg.length c11) lg.length vs rfl ho7 _ A7 l7.length c7 us rfl hr7 hu7 (by simp only [maxLen]; omega) (by omega) hs7 ?_; intro v8 w8 hown8 hg8 hat8)))
            have hk8 := HNX.out v8 w8 none 0 0 hown8 hg8 hat8 (fun W' _ => Bs.nil _ _)
            clear hown8 hg8 hat8 HNX ho7 hr7 hu7
            refine (close_open w8 s g r lv7 x7 hk8.st).mono ?_
            rintro e w9 ⟨rfl, ho9, hst9⟩
            have HSP : Hid ((lg ++ l7) ++ Ch.last x7 = l) := Lib.hid (by
              obtain ⟨pre, e1, e2⟩ := hk8.sure
              rw [List.append_nil] at e2
              subst e2
              exact Ch.SplitS.uniq ⟨_, _, e1, rfl⟩ HSL.out)
            have HB9 : Hid (Below w5.heap.size w5 w9) := Lib.hid (hk8.be.trans (ho9.below hk8.be.size (fun k e => by have := hk8.gt; have := hk8.st.lt; omega)))
            have HG9 : Hid (RL w9 (fun k => w5.heap.size ≤ k ∧ k ≠ g ∧ k ≠ s ∧ lv7.ownBlock ≠ some k) (s + 1) v8 (lg ++ l7)) := Lib.hid (hk8.got.but' ho9 (fun k hk e => by have := (hk8.got.lt k hk).1; omega) (fun k hk _ e => hk.2.2.1 e))
            obtain ⟨Al, cl, hlv7, hbl⟩ := own_bs' hk8.st.ow
            subst hlv7
            have HE9 : Hid (Bs w9 (fun k => (Value.slice Al x7.length cl).ownBlock = some k) Al x7.length cl x7) := Lib.hid (hbl.but ho9 (fun k hk _ e => by have := own_base hk8.st.ow k hk; omega))
            have HSE := Lib.hid hk8.sep
            have HOB := Lib.hid (own_base hk8.st.ow)
            have HSS9 : Hid (s + 1 ≤ w9.heap.size) := Lib.hid hst9.bk.lt
            have HSS : Hid (g < s ∧ w5.heap.size ≤ g) := Lib.hid ⟨hk8.st.lt, hk8.gt⟩
            obtain ⟨A8, c8, hv8, -⟩ := hk8.got.shape
            subst hv8
            have HLL : Hid (∀ y ∈ l, y.length ≤ 1000000000) := Lib.hid fun y hy => by
              have h1 := mem_flat hy
              rw [HFL.out, HLB.out] at h1
              omega
            have hlg : (lg ++ l7).length ≤ 1000000 := by rw [List.length_append]; exact hf7
            clear hk8 ho9 hst9 hbl
            obtain ⟨q, hq0⟩ : ∃ q, q = lg ++ l7 := ⟨_, rfl⟩
            rw [← hq0] at HSP HG9 hlg HSE ⊢
            obtain ⟨NG, hNG⟩ : ∃ N, N = q.length := ⟨_, rfl⟩
            rw [← hNG] at HG9 hlg HSE ⊢
            obtain ⟨NX, hNX⟩ : ∃ N, N = x7.length := ⟨_, rfl⟩
            rw [← hNX] at HE9 HOB HSE HG9 ⊢
            have HNG := Lib.hid hNG
            have HNX7 := Lib.hid hNX
            clear hq0 hNG hf7
            rcases Nat.eq_zero_or_pos NX with hz | hpos
            · have hx0 : x7 = [] := List.eq_nil_of_length_eq_zero (by omega)
              have HQ : Hid (q = l) := Lib.hid (by have h := HSP.out; rw [hx0] at h; simpa [Ch.last] using h)
              clear hx0 hNX
              subst hz
              go_wp2_with fail
              refine (lists_any w9 _ _ _ _ _ _ _ _ q l (by have h := HG9.out.reads.any; exact h) (HLS.out.below HB9.out) (by omega) (by rw [HQ.out]; exact HLL.out) HLL.out).mono ?_
              rintro e w10 ⟨rfl, j10, rfl⟩
              have hdec : decide (q = l) = true := decide_eq_true HQ.out
              rw [hdec]
              have HB10 := Lib.hid (below_drewN HB9.out j10)
              clear hdec
              go_wp2_with fail
              refine (chAlive_any _ (HT.out _ (HBE.out.trans (HB10.out.mono HBE.out.size)))).mono ?_
              rintro e w11 ⟨rfl, hb11⟩
              have HB11 := Lib.hid (HBE.out.trans ((HB10.out.trans (hb11.mono HB10.out.size)).mono HBE.out.size))
              clear hb11
              go_wp2_with fail
              go_ret
              exact ⟨rfl, HB11.out⟩
            · have hpos' : 0 < (NX : Int) := by omega
              have hx0 : x7 ≠ [] := fun e => by rw [e] at hNX; simp at hNX; omega
              have HQ : Hid (q ++ [x7] = l) := Lib.hid (by have h := HSP.out; rw [Ch.last, if_neg hx0] at h; exact h)
              have hsz9 := HB9.out.size
              have hss9 := HG9.out.lt
              have hs9 : s + 1 ≤ w9.heap.size := HSS9.out
              clear hx0 hNX
              obtain ⟨us9, hq9, hown9, hv9, hx9, hr9⟩ := (HG9.out.mono (T' := fun k => w5.heap.size ≤ k) (fun k hk => hk.1) (Nat.le_refl _)).ready (e' := 23) (Below.refl _ w9) HE9.out (fun k hk hlt => ⟨by have h1 := HOB.out k hk; have h2 := HSS.out; omega, fun e => HSE.out k e.symm hk⟩)
              rw [← HNG.out] at hown9
              have HV9 := Lib.hid (And.intro hq9 (And.intro hv9 hx9))
              clear hq9 hv9 hx9
              go_wp2_with (at_builtin; go_must ((refine wpList_append_row rfl (.tmp 161) (.tmp 163) rfl (base := s + 1) (v := .slice A8 NG c8) rfl hown9 rfl hr9 (by omega) (by simp; omega) ?_; intro v10 w10 hown10 hg10 hat10)))
              have HG10 := Lib.hid (RL.snoc (T := fun k => w5.heap.size ≤ k) (base := s + 1) (l := q) (x := x7) HV9.out.1 (by rw [← HNG.out]; omega) (by rw [← HNG.out]; exact hown10) hg10 hat10 HV9.out.2.1 rfl HV9.out.2.2)
              have HB10 : Hid (Below w5.heap.size w5 w10) := Lib.hid ((HB9.out.alloc hsz9 _).trans ((Below.refl _ _).grown hg10 (by simp; omega) (fun k e => by have h1 := own_base hown9 k e; have h2 := HSS.out; omega)))
              obtain ⟨A10, c10, hv10, -⟩ := HG10.out.shape
              subst hv10
              clear hown10 hg10 hat10 hown9 hr9
              refine (lists_any w10 _ _ _ _ _ _ _ _ (q ++ [x7]) l HG10.out.reads (HLS.out.below HB10.out) (by rw [List.length_append, ← HNG.out]; simp; omega) (by rw [HQ.out]; exact HLL.out) HLL.out).mono ?_
              rintro e w11 ⟨rfl, j11, rfl⟩
              have hdec : decide (q ++ [x7] = l) = true := decide_eq_true HQ.out
              rw [hdec]
              have HB11 := Lib.hid (below_drewN HB10.out j11)
              clear hdec
              go_wp2_with fail
              refine (chAlive_any _ (HT.out _ (HBE.out.trans (HB11.out.mono HBE.out.size)))).mono ?_
              rintro e w12 ⟨rfl, hb12⟩
              have HB12 := Lib.hid (HBE.out.trans ((HB11.out.trans (hb12.mono HB11.out.size)).mono HBE.out.size))
              clear hb12
              go_wp2_with fail
              go_ret
              exact ⟨rfl, HB12.out⟩
theorem back_any (w : World) (seed : Nat) (hs : seed < Gear.M) (mn av mx : Int) (A B : Option Addr) (n c m d : Nat) (bs : List UInt8) (zs : List Int) (hx : Bs w AnyB A n c bs) (hz : IR w AnyB B m d zs) (hT : Tab64 w) :
    Calls Tryd.prog 10 #[.agg #[.int .u64 (seed : Int), .int .i64 mn, .int .i64 av, .int .i64 mx], .slice A n c, .slice B m d] w fun e w' => e = .returned (.bool true) ∧ Below w.heap.size w w' := by
  by_cases h : 300 < n ∨ 40 < m
  · exact back_long w seed mn av mx A B n c m d h hT
  · by_cases hr : RRight mn av mx
    · obtain ⟨r, rfl, rfl, rfl, rfl⟩ := right_rule hs hr
      exact back_yes w r A B n c m d bs zs hx hz (by omega) (by omega) hT
    · exact back_no w seed mn av mx A B n c m d (by omega) (by omega) hr hT
end Go.Proofs.YtognkonncfjneaaDoor
