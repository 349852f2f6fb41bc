/- The walk of ChunkerStreams. Conditions: each theorem's premises. -/
import Derived.Test.YtognkonncfjneaaDoorChStr2
import Derived.Test.YtognkonncfjneaaDoorChSync1
import Derived.Test.YtognkonncfjneaaDoorChSure2
namespace Go.Proofs.YtognkonncfjneaaDoor
open Go.RowKit
theorem streams_long (w : World) (seed : Nat) (mn av mx : Int) (A : Option Addr) (n c : Nat) (h : 30 < n) (hT : Tab64 w) :
    Calls Tryd.prog 9 #[.agg #[.int .u64 (seed : Int), .int .i64 mn, .int .i64 av, .int .i64 mx], .slice A n c] w fun e w' => e = .returned (.bool true) ∧ Below w.heap.size w w' := by
  have hW : Hid (∀ o, Below w.heap.size w (w.alloc o)) := Lib.hid fun o => (Below.refl _ w).alloc (Nat.le_refl _) _
  have HA : Hid (∀ w', Below w.heap.size w w' → Calls Tryd.prog 21 #[] w' fun e w'' => e = .returned (.bool true) ∧ Below w'.heap.size w' w'') := Lib.hid fun w' hb => chAlive_any w' (Tab64.below hT hb)
  clear hT
  go_enter Tryd.func9, Tryd.ntmps9
  go_wp2_with fail
  refine (HA.out _ (hW.out _)).mono ?_
  rintro e w1 ⟨rfl, hb1⟩
  have HB1 := Lib.hid ((hW.out _).trans (hb1.mono (hW.out _).size))
  clear hb1
  go_wp2_with fail
  go_ret
  exact ⟨rfl, HB1.out⟩
theorem streams_no (w : World) (seed : Nat) (mn av mx : Int) (A : Option Addr) (n c : Nat) (h : n ≤ 30) (hr : ¬ RRight mn av mx) (hT : Tab64 w) :
    Calls Tryd.prog 9 #[.agg #[.int .u64 (seed : Int), .int .i64 mn, .int .i64 av, .int .i64 mx], .slice A n c] w fun e w' => e = .returned (.bool true) ∧ Below w.heap.size w w' := by
  have HA : Hid (∀ w', Below w.heap.size w w' → Calls Tryd.prog 21 #[] w' fun e w'' => e = .returned (.bool true) ∧ Below w'.heap.size w' w'') := Lib.hid fun w' hb => chAlive_any w' (Tab64.below hT hb)
  have HO : Hid (∀ w', Calls Tryd.prog 34 #[.agg #[.int .u64 (seed : Int), .int .i64 mn, .int .i64 av, .int .i64 mx]] w' fun e w'' => e = .returned (.tuple #[.pointer none, .int .i64 1]) ∧ Below w'.heap.size w' w'') := Lib.hid fun w' => open_no w' seed mn av mx hr
  have HR : Hid (∀ w', Calls Tryd.prog 27 #[.agg #[.int .u64 (seed : Int), .int .i64 mn, .int .i64 av, .int .i64 mx]] w' fun e w'' => e = .returned (.bool false) ∧ Below w'.heap.size w' w'') := Lib.hid fun w' => rright_no w' seed mn av mx hr
  have h0 : Hid (Blk (w.alloc (.cells #[.int .u64 (seed : Int), .int .i64 mn, .int .i64 av, .int .i64 mx] 41)) w.heap.size 41 #[.int .u64 (seed : Int), .int .i64 mn, .int .i64 av, .int .i64 mx] ∧ Below w.heap.size w (w.alloc (.cells #[.int .u64 (seed : Int), .int .i64 mn, .int .i64 av, .int .i64 mx] 41))) := Lib.hid ⟨Blk.new w _ _, (Below.refl _ w).alloc (Nat.le_refl _) _⟩
  clear hT hr
  go_enter Tryd.func9, Tryd.ntmps9
  go_wp2_with fail
  refine (own_any _ _ _ _ _).mono ?_
  rintro e w1 ⟨rfl, hb1⟩
  have H1 := Lib.hid (And.intro (h0.out.1.after hb1) (h0.out.2.trans (hb1.mono h0.out.2.size)))
  clear hb1 h0
  go_wp2_with fail
  refine (HO.out _).mono ?_
  rintro e w2 ⟨rfl, hb2⟩
  have H2 := Lib.hid (And.intro (H1.out.1.after hb2) (H1.out.2.trans (hb2.mono H1.out.2.size)))
  obtain ⟨k0, k1, k2, k3, -⟩ := H2.out.1.four
  clear hb2 H1
  go_wp2_with fail
  refine (HR.out _).mono ?_
  rintro e w3 ⟨rfl, hb3⟩
  have H3 := Lib.hid (H2.out.2.trans (hb3.mono H2.out.2.size))
  clear hb3
  go_wp2_with fail
  refine (HA.out _ H3.out).mono ?_
  rintro e w4 ⟨rfl, hb4⟩
  have H4 := Lib.hid (H3.out.trans (hb4.mono H3.out.size))
  clear hb4
  go_wp2_with fail
  go_ret
  exact ⟨rfl, H4.out⟩
/-- What lies between two rounds of ChunkerStreams' loop. -/
structure Zv (w : World) (s g : Nat) (r : Ch.Rule) (A : Option Addr) (n c : Nat) (left : List UInt8) (W : World) : Prop where
  be : Below w.heap.size w W
  gt : w.heap.size ≤ g
  st : ∃ lv, St W s g r lv left false
  bs : Bs W (fun k => k ≠ s) A n c left
  no : Ch.cutS r left = none
/-- What lies behind Close. -/
structure Clv (w : World) (s g : Nat) (r : Ch.Rule) (A B : Option Addr) (n c d : Nat) (left : List UInt8) (W : World) : Prop where
  be : Below w.heap.size w W
  st : St W s g r (.slice none 0 0) [] true
  bs : Bs W (fun k => k ≠ s) A n c left
  bb : Bs W AnyB B n d left
theorem Clv.after {w W W' : World} {s g : Nat} {r : Ch.Rule} {A B : Option Addr} {n c d : Nat} {left : List UInt8} (h : Clv w s g r A B n c d left W) (hb : Below W.heap.size W W') : Clv w s g r A B n c d left W' :=
  ⟨h.be.trans (hb.mono h.be.size), h.st.after hb, h.bs.after hb, h.bb.after hb⟩
theorem St.cells {w : World} {s g : Nat} {r : Ch.Rule} {lv : Value} {left : List UInt8} {cl : Bool} (h : St w s g r lv left cl) : w.cell? ⟨s, 6, none⟩ = some lv ∧ w.cell? ⟨s, 7, none⟩ = some (.bool cl) ∧ s < w.heap.size := by
  have hb := h.bk
  unfold strV at hb
  obtain ⟨k0, k1, k2, k3, k4, k5, k6, k7, f6, f7, hs⟩ := hb.eight
  exact ⟨k6, k7, hs⟩
set_option maxRecDepth 100000 in
set_option maxHeartbeats 4000000 in
theorem streams_yes (w : World) (r : Ch.Rule) (S : Nat → Prop) (A : Option Addr) (n c : Nat) (l : List (List UInt8)) (hx : RR w S A n c l) (h : n ≤ 30) (hT : Tab64 w) :
    Calls Tryd.prog 9 #[.agg r.v, .slice A n c] w fun e w' => e = .returned (.bool true) ∧ Below w.heap.size w w' := by
  have HX := Lib.hid hx.old
  obtain ⟨av, hav⟩ : ∃ av, av = 2 ^ r.k := ⟨_, rfl⟩
  have HV : Hid (r.v = #[.int .u64 (r.seed : Int), .int .i64 (r.mn : Int), .int .i64 (av : Int), .int .i64 (r.mx : Int)]) := Lib.hid (by rw [hav]; rfl)
  have HT : Hid (∀ w', Below w.heap.size w w' → Tab64 w') := Lib.hid fun w' hb => Tab64.below hT hb
  have HR : Hid (∀ w', Calls Tryd.prog 27 #[.agg r.v] w' fun e w'' => e = .returned (.bool true) ∧ Below w'.heap.size w' w'') := Lib.hid fun w' => rright_yes w' r
  have HO : Hid (∀ w', Tab64 w' → Calls Tryd.prog 34 #[.agg r.v] w' (OpenEnd w' r)) := Lib.hid fun w' h => open_yes w' r h
  have HS : Hid (∀ w' S A n c x, Bs w' S A n c x → n ≤ 100000000 → Calls Tryd.prog 35 #[.agg r.v, .slice A n c] w' (RSureEnd' S w' r x)) := Lib.hid fun w' S A n c x hb hn => rsureS_any w' r S A n c x hb hn
  have h0 : Hid (Blk (w.alloc (.cells r.v 41)) w.heap.size 41 r.v ∧ Below w.heap.size w (w.alloc (.cells r.v 41))) := Lib.hid ⟨Blk.new w _ _, (Below.refl _ w).alloc (Nat.le_refl _) _⟩
  rw [HV.out] at HR HO HS h0 ⊢
  have HMX : Hid (r.mx ≤ 4096) := Lib.hid r.h4
  clear hx hT hav HV
  go_enter Tryd.func9, Tryd.ntmps9
  go_wp2_with fail
  refine (own_any _ _ _ _ _).mono ?_
  rintro e w1 ⟨rfl, hb1⟩
  have H1 : Hid (Blk w1 w.heap.size 41 #[.int .u64 (r.seed : Int), .int .i64 (r.mn : Int), .int .i64 (av : Int), .int .i64 (r.mx : Int)] ∧ Below w.heap.size w w1) := Lib.hid (And.intro (h0.out.1.after hb1) (h0.out.2.trans (hb1.mono h0.out.2.size)))
  clear hb1 h0
  go_wp2_with fail
  refine (HO.out w1 (HT.out w1 H1.out.2)).mono ?_
  rintro e w2 ⟨s, g, rfl, hst2, hg2, hb2⟩
  have H2 : Hid (Below w1.heap.size w1 w2 ∧ w1.heap.size ≤ g ∧ St w2 s g r (.slice none 0 0) [] false) := Lib.hid ⟨hb2, hg2, hst2⟩
  obtain ⟨k0, k1, k2, k3, -⟩ := (H1.out.1.after hb2).four
  clear hb2 hg2 hst2 HO
  go_wp2_with fail
  refine (HR.out _).mono ?_
  rintro e w3 ⟨rfl, hb3⟩
  have H3 : Hid (Zv w1 s g r none 0 0 [] w3) := Lib.hid ⟨H2.out.1.trans (hb3.mono H2.out.1.size), H2.out.2.1, ⟨_, H2.out.2.2.after hb3⟩, Bs.nil _ _, rfl⟩
  have HX1 : Hid (RR w1 (Lo w.heap.size) A n c l) := Lib.hid (HX.out.below H1.out.2)
  have hgs : g < s := H2.out.2.2.lt
  have hg1 : w1.heap.size ≤ g := H2.out.2.1
  have hw1 := H1.out.2.size
  clear hb3 H2 k0 k1 k2 k3 HR HX
  go_wp2_with fail
  go_loopw [7, 8] (fun v7 v8 wr => ∃ (i : Nat) (A7 : Option Addr) (n7 c7 : Nat) (left : List UInt8), i ≤ n ∧ v7 = .slice A7 n7 c7 ∧ v8 = .int .i64 (i : Int) ∧ Hid (Zv w1 s g r A7 n7 c7 left wr)) (fun _ v8 _ => n - (intOf v8).toNat)
  case atStart => exact ⟨0, none, 0, 0, [], Nat.zero_le _, rfl, rfl, H3⟩
  case round =>
    obtain ⟨i, A7, n7, c7, left, hi, rfl, rfl, HZ⟩ := hrel
    clear H3
    by_cases hlt : i < n
    · obtain ⟨ad, A', n', c', x, rfl, hS, hx, hcell, hbx⟩ := (HX1.out.after HZ.out.be).at_ i hlt
      have HBX := Lib.hid hbx
      have HXI := Lib.hid hx
      have hszr := HZ.out.be.size
      have hadl : ad.block < w1.heap.size := Nat.lt_of_lt_of_le hS hw1
      have hcell' := hcell
      clear hbx hx
      by_cases hl : 100 < n'
      · have hl' : (100 : Int) < (n' : Int) := by omega
        go_wp2_with fail
        refine (chAlive_any _ (HT.out _ (H1.out.2.trans (HZ.out.be.mono hw1)))).mono ?_
        rintro e w11 ⟨rfl, hb11⟩
        have HB11 := Lib.hid (H1.out.2.trans ((HZ.out.be.trans (hb11.mono hszr)).mono hw1))
        clear hb11
        go_wp2_with fail
        go_ret
        exact ⟨rfl, HB11.out⟩
      · have hl' : ¬ (100 : Int) < (n' : Int) := by omega
        have hl2 : left.length < 4096 := by have := Ch.none_le HZ.out.no; have := HMX.out; omega
        have hn7 : n7 < 4096 := by rw [← HZ.out.bs.len]; exact hl2
        have HOW : Hid ((wr.drew.alloc (.cells #[] 5)).ownsRow wr.heap.size 5 1 (.slice (some ⟨wr.heap.size, 0, none⟩) 0 0) 0 (u8s [])) := Lib.hid (own_start wr.drew)
        have HP1 : Hid (Bs (wr.drew.alloc (.cells #[] 5)) _ A7 n7 c7 left) := Lib.hid (HZ.out.bs.after ((Below.refl _ wr).drew.alloc (Nat.le_refl _) _))
        have HP2 : Hid (∀ W, Below wr.heap.size wr W → Bs W (Lo w.heap.size) A' n' c' x ∧ W.cell? (ad.add i) = some (.slice A' n' c')) := Lib.hid fun W hb => ⟨HBX.out.after hb, (hb.cell (World.block_lt_of_cell? wr _ hcell)).trans hcell⟩
        have c0 : (wr.alloc (.cells #[] 5)).drew.cell? (ad.add i) = some (.slice A' n' c') := (HP2.out _ ((Below.refl _ wr).alloc (Nat.le_refl _) _).drew).2
        have c1 : (wr.alloc (.cells #[] 5)).cell? (ad.add i) = some (.slice A' n' c') := (HP2.out _ ((Below.refl _ wr).alloc (Nat.le_refl _) _)).2
        go_wp2_with fail
        go_region_law (first | (refine step_append_u8 rfl (.tmp 60) (.tmp 61) rfl (base := wr.heap.size) (v := .slice (some ⟨wr.heap.size, 0, none⟩) 0 0) (n := 0) (xs := []) rfl HOW.out rfl HP1.out (by omega) (by simp) ?_; intro v3 w3 hown3 hg3 hat3; go_must ((have hb3 := below_undrew (app_one hg3); obtain ⟨-, c3⟩ := HP2.out w3 hb3))) | (refine step_append_u8 rfl (.tmp 62) (.tmp 66) rfl (base := wr.heap.size) rfl hown3 rfl (HP2.out w3 hb3).1 (by omega) hb3.size ?_; intro v4 w4 hown4 hg4 hat4; go_must ((have hb4 := app_two hb3 hown3 hg4))))
        all_goals
          obtain ⟨A4, c4, rfl, hal4⟩ := own_bs hown4
          obtain ⟨lv, hst⟩ := HZ.out.st
          have HST := Lib.hid hst
          have H4 : Hid (Below wr.heap.size wr w4 ∧ Bs w4 (fun k => wr.heap.size ≤ k) A4 (n7 + n') c4 (left ++ x) ∧ Blk w4 w.heap.size 41 #[.int .u64 (r.seed : Int), .int .i64 (r.mn : Int), .int .i64 (av : Int), .int .i64 (r.mx : Int)]) := Lib.hid ⟨hb4, by have h := hal4; simp only [Nat.zero_add, List.nil_append] at h; exact h, (H1.out.1.after HZ.out.be).after hb4⟩
          obtain ⟨k0, k1, k2, k3, -⟩ := H4.out.2.2.four
          rw [Nat.zero_add]
          clear hown4 hg4 hat4 hb4 hal4 hst hown3 hg3 hat3 hb3 c3 c0 c1 HOW HP1
          go_wp2_with fail
          refine (HS.out w4 _ A4 (n7 + n') c4 (left ++ x) H4.out.2.1 (by omega)).mono ?_
          rintro e w5 ⟨v5, l5, A5, n5, c5, x5, rfl, hs5, hl5, hb5, hbe5⟩
          have H5 : Hid (Below wr.heap.size wr w5 ∧ RL w5 (fun k => wr.heap.size ≤ k) wr.heap.size v5 l5 ∧ Bs w5 (fun k => wr.heap.size ≤ k) A5 n5 c5 x5) := Lib.hid ⟨H4.out.1.trans (hbe5.mono H4.out.1.size), hl5.mono (fun k hk => hk.1) H4.out.1.size, hb5.mono (fun k hk => hk.1)⟩
          have HS5 := Lib.hid hs5
          obtain ⟨A5v, c5v, rfl, -⟩ := hl5.shape
          obtain ⟨-, c5'⟩ := HP2.out w5 H5.out.1
          clear k0 k1 k2 k3 H4 hs5 hl5 hb5 hbe5
          go_wp2_with fail
          have hlv := own_base HST.out.ow
          have hlvl := HST.out.ow.lt
          have hsl : s < wr.heap.size := HST.out.bk.lt
          refine (write_any w5 s g r lv left x _ A' n' c' (HST.out.after H5.out.1) (HP2.out w5 H5.out.1).1 (fun k hk _ => ⟨by have : k < w.heap.size := hk; omega, by have : k < w.heap.size := hk; omega, fun e => by have h1 := hlv k e; have : k < w.heap.size := hk; omega⟩) (by omega)).mono ?_
          rintro e w6 ⟨v6, l6, x6, lv6, rfl, hs6, hst6, hl6, ho6, hlv6⟩
          obtain ⟨rfl, rfl⟩ := HS5.out.uniq hs6
          have hXw : ∀ k, wr.heap.size ≤ k → ¬ (k = g ∨ k = s ∨ lv.ownBlock = some k) := fun k hk e => by
            rcases e with e | e | e
            · omega
            · omega
            · have := (hlvl k e).2; omega
          have H6 : Hid (Below w1.heap.size w1 w6 ∧ St w6 s g r lv6 x5 false ∧ RL w6 (fun k => wr.heap.size ≤ k) wr.heap.size (.slice A5v l5.length c5v) l5 ∧ Bs w6 (fun k => wr.heap.size ≤ k) A5 n5 c5 x5) := Lib.hid ⟨(HZ.out.be.trans (H5.out.1.mono hszr)).trans (ho6.below (by have := H5.out.1.size; omega) (fun k e => by
            rcases e with e | e | e
            · omega
            · omega
            · have := hlv k e; omega)), hst6, H5.out.2.1.but ho6 (fun k hk _ => hXw k hk) (fun k hk _ => hXw k hk), H5.out.2.2.but ho6 (fun k hk _ => hXw k hk)⟩
          obtain ⟨A6v, c6v, rfl, -⟩ := hl6.shape
          have HL6 := Lib.hid hl6.reads.any
          obtain ⟨Nl, hNl⟩ : ∃ N, N = l5.length := ⟨_, rfl⟩
          have hNl2 : Nl ≤ 10000 := by have h := sure_few HS5.out; have h1 := HBX.out.len; rw [List.length_append] at h; omega
          have HL5 := Lib.hid H6.out.2.2.1.reads.any
          rw [← hNl] at HL5 HL6 ⊢
          have HSZ : Hid (∀ y ∈ l5, y.length ≤ 1000000000) := Lib.hid fun y hy => by have h := (HS5.out.sizes y hy).2; have := HMX.out; omega
          obtain ⟨k6, -, -⟩ := hst6.cells
          clear hs6 hst6 hl6 ho6 hlv6 hXw H5 HST hlv hlvl c5' hNl
          go_wp2_with fail
          refine (lists_any w6 _ _ _ _ _ _ _ _ l5 l5 HL6.out HL5.out (by omega) HSZ.out HSZ.out).mono ?_
          rintro e w7 ⟨rfl, j, rfl⟩
          have hdec : decide (l5 = l5) = true := decide_eq_true rfl
          rw [hdec]
          clear hdec
          obtain ⟨A6, c6, rfl, -⟩ := own_shape H6.out.2.1.ow
          have hn5 := H6.out.2.2.2.len
          subst hn5
          go_wp2_with fail
          refine (left_any _ s _ _ _ (by simpa using k6)).mono ?_
          rintro e w8 ⟨rfl, rfl⟩
          go_wp2_with fail
          go_roundw
          case rel => exact ⟨i + 1, A5, x5.length, c5, x5, by omega, rfl, by go_num, Lib.hid ⟨below_drewN H6.out.1 _, hg1, ⟨_, H6.out.2.1.after (below_drewN (Below.refl _ _) j)⟩, (H6.out.2.2.2.after (below_drewN (Below.refl _ _) j)).mono (fun k hk e => by omega), HS5.out.rest⟩⟩
          case measure => simp [intOf]; omega
    · obtain rfl : i = n := by omega
      obtain ⟨lv, hst⟩ := HZ.out.st
      have HST := Lib.hid hst
      have HLB : Hid (left.length ≤ 1000000000) := Lib.hid (by have := Ch.none_le HZ.out.no; have := HMX.out; omega)
      clear hst
      obtain ⟨Al, cl, rfl, hbl⟩ := own_bs' HST.out.ow
      have HN7 := HZ.out.bs.len
      subst HN7
      go_wp2_with fail
      refine (close_open wr s g r _ left HST.out).mono ?_
      rintro e w4 ⟨rfl, ho4, hst4⟩
      have H4 : Hid (Clv w1 s g r A7 Al left.length c7 cl left w4) := Lib.hid ⟨HZ.out.be.trans (ho4.below (HZ.out.be.size) (fun k e => by omega)), hst4, HZ.out.bs.but ho4 (fun k h _ => h), (hbl.but ho4 (fun k h _ e => by have := own_base HST.out.ow k h; omega)).any⟩
      obtain ⟨-, k7, hs4⟩ := hst4.cells
      clear ho4 hst4 hbl HST HZ
      go_wp2_with fail
      refine (write_closed _ s (((Below.refl w4.heap.size w4).alloc (Nat.le_refl _) _).cell (p := ⟨s, 7, none⟩) hs4 |>.trans k7) _ _ _).mono ?_
      rintro e w5 ⟨rfl, hb5⟩
      have H5 := Lib.hid ((H4.out.after ((Below.refl _ w4).alloc (Nat.le_refl _) _)).after hb5)
      obtain ⟨-, k7', -⟩ := H5.out.st.cells
      clear hb5 H4 k7
      go_wp2_with fail
      refine (close_closed _ s k7').mono ?_
      rintro e w6 ⟨rfl, rfl⟩
      go_wp2_with fail
      refine (write_nil _ _ _ _).mono ?_
      rintro e w7 ⟨rfl, hb7⟩
      have H7 := Lib.hid (H5.out.after hb7)
      clear hb7 H5 k7'
      go_wp2_with fail
      refine (close_nil _).mono ?_
      rintro e w8 ⟨rfl, rfl⟩
      go_wp2_with fail
      refine (bytes_any _ _ _ _ _ _ _ _ _ left left H7.out.bb H7.out.bs HLB.out HLB.out).mono ?_
      rintro e w9 ⟨rfl, j, rfl⟩
      have hdec : decide (left = left) = true := decide_eq_true rfl
      have H9 := Lib.hid (H7.out.after (below_drewN (Below.refl _ _) j))
      obtain ⟨k6, -, -⟩ := H9.out.st.cells
      rw [hdec]
      clear H7 hdec
      go_wp2_with fail
      refine (left_any _ s _ _ _ k6).mono ?_
      rintro e w10 ⟨rfl, rfl⟩
      go_wp2_with fail
      refine (left_nil _).mono ?_
      rintro e w11 ⟨rfl, rfl⟩
      go_wp2_with fail
      refine (chAlive_any _ (HT.out _ (H1.out.2.trans (H9.out.be.mono hw1)))).mono ?_
      rintro e w12 ⟨rfl, hb12⟩
      have HB12 := Lib.hid (H1.out.2.trans ((H9.out.be.trans (hb12.mono H9.out.be.size)).mono hw1))
      clear hb12
      go_wp2_with fail
      go_ret
      exact ⟨rfl, HB12.out⟩
theorem streams_any (w : World) (seed : Nat) (hs : seed < Gear.M) (mn av mx : Int) (S : Nat → Prop) (A : Option Addr) (n c : Nat) (l : List (List UInt8)) (hx : RR w S A n c l) (hT : Tab64 w) :
    Calls Tryd.prog 9 #[.agg #[.int .u64 (seed : Int), .int .i64 mn, .int .i64 av, .int .i64 mx], .slice A n c] w fun e w' => e = .returned (.bool true) ∧ Below w.heap.size w w' := by
  by_cases h : 30 < n
  · exact streams_long w seed mn av mx A n c h hT
  · by_cases hr : RRight mn av mx
    · obtain ⟨r, rfl, rfl, rfl, rfl⟩ := right_rule hs hr
      exact streams_yes w r S A n c l hx (by omega) hT
    · exact streams_no w seed mn av mx A n c (by omega) hr hT
end Go.Proofs.YtognkonncfjneaaDoor
