/- The walk of CrcParts. Conditions: each theorem's premises. -/
import Derived.Test.YtaebmhbggbpnoaaCrc8
import Derived.Test.YtaebmhbggbpnoaaRows2
import Derived.Deep.RegionHeld3
namespace Go.Proofs.Ytaebmhbggbpnoaa
open Go.RowKit
/-- What the loop of CrcParts keeps: the table, and all that was joined. -/
def PartsI (w wr : World) (g base : Nat) (V : Value) (ys : List UInt8) (M : Int) : Prop := ∃ d : Int, On w wr g d ∧ 0 ≤ d ∧ d ≤ M ∧ wr.ownsRow base 5 1 V ys.length (u8s ys) ∧ g < base ∧ base ≤ wr.heap.size
section
variable {w wr w' : World} {g base : Nat} {V : Value} {ys : List UInt8} {M : Int}
theorem PartsI.after (h : PartsI w wr g base V ys M) (hb : Below wr.heap.size wr w') : PartsI w w' g base V ys M := by
  obtain ⟨d, h1, h2, h3, h4, h5, h6⟩ := h
  exact ⟨d, h1.below hb, h2, h3, own_below h4 hb (Nat.le_refl _), h5, Nat.le_trans h6 hb.size⟩
theorem PartsI.drew (h : PartsI w wr g base V ys M) : PartsI w wr.drew g base V ys M := h.after (Below.refl _ _).drew
end
theorem PartsI.more {w wr : World} {g base : Nat} {V : Value} {ys : List UInt8} {M M' : Int} (h : PartsI w wr g base V ys M) (hM : M ≤ M') : PartsI w wr g base V ys M' := by
  obtain ⟨d, h1, h2, h3, h4, h5, h6⟩ := h
  exact ⟨d, h1, h2, by omega, h4, h5, h6⟩
theorem PartsI.table {w wr w' : World} {g base : Nat} {V : Value} {ys : List UInt8} {M' d d' : Int} (hon : On w wr g d) (hown : wr.ownsRow base 5 1 V ys.length (u8s ys)) (hg : g < base) (hs : base ≤ wr.heap.size) (ht : Tbl w' g d') (hgr : wr.grownBy w' (some g)) (h0 : 0 ≤ d') (hM : d' ≤ M') : PartsI w w' g base V ys M' :=
  ⟨d', hon.step ht hgr, h0, hM, hown.kept hgr (by
    rcases e : V.ownBlock with _ | b
    · exact .inl rfl
    · right
      intro e2
      injection e2 with e2
      have := own_base hown b e
      omega), hg, Nat.le_trans hs hgr.size⟩
theorem Tbl.below {w w' : World} {g B : Nat} {d : Int} (h : Tbl w g d) (hb : Below B w w') (hg : g < B) : Tbl w' g d := by
  rcases h with h | ⟨f, h⟩
  · exact .inl (h.below hb hg)
  · exact .inr ⟨f, h.below hb hg⟩
theorem On.belowAt {w0 wi w' : World} {g B : Nat} {d : Int} (h : On w0 wi g d) (hb : Below B wi w') (hg : g < B) : On w0 w' g d := ⟨h.bel.trans (hb.mono (by have := h.new; omega)), h.tab.below hb hg, h.new⟩
theorem joinT (l : List (List UInt8)) (k : Nat) (x : List UInt8) (h : l[k]? = some x) : (l.take (k + 1)).flatten = (l.take k).flatten ++ x := by
  rw [take_snoc h]; simp
set_option maxRecDepth 10000 in
set_option maxHeartbeats 4000000 in
theorem crcParts_in (w : World) (r : Nat) (hr : r < 4294967296) (S : Nat → Prop) (A : Option Addr) (n c : Nat) (l : List (List UInt8)) (hx : RR w S A n c l) (hn : n ≤ 40) (a b : Nat) (ha : a ≤ 1099511627776) (hb : b ≤ 1099511627776) :
    Calls Try.prog 6 #[.slice A n c, .int .u32 (r : Int), .int .i64 (a : Int), .int .i64 (b : Int)] w fun e w' => e = .returned (.bool true) ∧ Below w.heap.size w w' := by
  have HX := Lib.hid hx.old
  have hlen := Lib.hid hx.len
  clear hx
  have t1 : ¬ (40 : Int) < (n : Int) := by omega
  have t2 : ¬ ((a : Int) < 0) := by omega
  have t3 : ¬ (1099511627776 : Int) < (a : Int) := by omega
  have t4 : ¬ ((b : Int) < 0) := by omega
  have t5 : ¬ (1099511627776 : Int) < (b : Int) := by omega
  go_enter Try.func6, Try.ntmps6
  go_wp2_with fail
  refine (new_any _).mono ?_
  rintro e w1 ⟨rfl, hT, hbb⟩
  obtain ⟨g, hg⟩ : ∃ g, g = w.heap.size := ⟨_, rfl⟩
  rw [← hg] at hT
  have HN := Lib.hid (On.mk (d := 0) hbb (.inr ⟨_, hT⟩) (Nat.le_of_eq hg.symm))
  rw [← hg]
  clear hT hbb hg
  have hgb : g < w1.heap.size := HN.out.lt
  have hst : PartsI w (w1.alloc (.cells #[] 5)) g w1.heap.size (.slice (some ⟨w1.heap.size, 0, none⟩) 0 0) [] 0 :=
    ⟨0, HN.out.below ((Below.refl _ _).alloc (Nat.le_refl _) _), by omega, by omega, World.ownsRow_made w1 #[] 0 (Nat.le_refl _) (by simp [maxLen]) rfl, hgb, by simp⟩
  have HST := Lib.hid hst
  clear hst
  go_wp2_with fail
  go_loopw [10, 11, 12, 13] (fun v10 v11 v12 v13 wr => ∃ (k : Nat) (Q : Option Addr) (q m : Nat), k ≤ n ∧ v13 = .int .i64 (k : Int) ∧ v10 = .slice Q m q ∧ m ≤ 300 * k ∧ v11 = .int .u32 ((Crc.sum (l.take k).flatten : Nat) : Int) ∧ v12 = .int .u32 ((Crc.sum (l.take k).flatten : Nat) : Int) ∧ Hid (m = (l.take k).flatten.length ∧ PartsI w wr g w1.heap.size (.slice Q m q) (l.take k).flatten (1000 * (k : Int)))) (fun _ _ _ v13 _ => n - (intOf v13).toNat)
  case atStart => exact ⟨0, _, _, _, by omega, rfl, rfl, by omega, by simp [Crc.sum, Crc.more_nil], by simp [Crc.sum, Crc.more_nil], Lib.hid ⟨rfl, HST.out⟩⟩
  case round =>
    obtain ⟨k, Q, q, m, hk, rfl, rfl, hm, rfl, rfl, HI⟩ := hrel
    clear HST HN
    by_cases hlt : k < n
    · have hlt' : (k : Int) < (n : Int) := by omega
      obtain ⟨d, hOn, hd0, hd1, hown, hgb2, hs1⟩ := HI.out.2
      obtain ⟨ad, X, nx, cx, x, rfl, hS, Hx, hc, hbx⟩ := (HX.out.below hOn.bel).at_ k hlt
      have HB := Lib.hid hbx
      have hadl := World.block_lt_of_cell? wr _ hc
      rw [block_of_add] at hadl
      have HON := Lib.hid hOn
      have HOW := Lib.hid hown
      have HAD : Hid (ad.block < w.heap.size) := Lib.hid hS
      clear hOn hown hbx hS
      by_cases h3 : 300 < nx
      · have h3' : (300 : Int) < (nx : Int) := by omega
        go_wp2_with fail
        refine (crcAlive_any _).mono ?_
        rintro e w6 ⟨rfl, hb6⟩
        have HF := Lib.hid (HON.out.below hb6).bel
        clear hb6
        go_wp2_with fail
        go_ret
        exact ⟨rfl, HF.out⟩
      · have h3' : ¬ (300 : Int) < (nx : Int) := by omega
        have HJ := Lib.hid (joinT l k x Hx.out)
        have HJ2 : Hid (Crc.sum (l.take (k + 1)).flatten = Crc.down (8 * x.length) (Crc.sum (l.take k).flatten) ^^^ Crc.sum x) := Lib.hid (by rw [HJ.out, Crc.sum_append])
        have HJ3 : Hid (Crc.sum (l.take (k + 1)).flatten = Crc.more (Crc.sum (l.take k).flatten) x) := Lib.hid (by rw [HJ.out]; exact Crc.more_append 0 _ _)
        have hml : m ≤ 12000 := by omega
        go_wp2_with (at_builtin; go_must (refine wpList_append_u8 rfl (.tmp 49) (.tmp 53) rfl (base := w1.heap.size) (v := .slice Q m q) (n := m) (xs := (l.take k).flatten) rfl (by have := HOW.out; rw [← HI.out.1] at this; exact this) (m := nx) (c := cx) (ys := x) rfl HB.out (by omega) hs1 ?_); intro v1 w2 hown1 hg1 hat1; have HO2 := Lib.hid (And.intro hown1 ((Below.refl w1.heap.size wr).grown hg1 hs1 (own_base HOW.out))); clear hown1 hg1 hat1; have hc2 := (HO2.out.2.cell (p := ad.add k) (by rw [block_of_add]; have := HAD.out; have := HON.out.new; omega)).trans hc)
        have HON2 := Lib.hid (HON.out.belowAt HO2.out.2 hgb)
        have HB2 := Lib.hid (HB.out.below (HO2.out.2.mono (by have := HON.out.new; omega)))
        have hs2 : w1.heap.size ≤ w2.heap.size := Nat.le_trans hs1 HO2.out.2.size
        have hxl : x.length = nx := HB.out.len
        have hol : (l.take (k + 1)).flatten.length = m + nx := by rw [HJ.out, List.length_append, HI.out.1, hxl]
        have HOL := Lib.hid hol
        have HOW2 : Hid (w2.ownsRow w1.heap.size 5 1 v1 (l.take (k + 1)).flatten.length (u8s (l.take (k + 1)).flatten)) := Lib.hid (by rw [hol, HJ.out]; exact HO2.out.1)
        rw [hxl] at HJ2
        obtain ⟨Q2, q2, rfl, -⟩ := own_shape HO2.out.1
        clear hol hxl HB HOW HON HI
        refine (more_any w2 g d HON2.out.tab _ (Crc.sum_lt _) _ X nx cx x HB2.out HON2.out.apart (by omega) (by omega)).mono ?_
        rintro e w3 ⟨rfl, hT3, hg3⟩
        rw [← HJ3.out]
        have HP3 := Lib.hid (PartsI.table (M' := 1000 * (k : Int) + 300) HON2.out HOW2.out hgb hs2 (.inl hT3) hg3 (by omega) (by omega))
        have HON3 := Lib.hid (HON2.out.step (.inl hT3) hg3)
        have HB3 := Lib.hid (HB2.out.below (only_below hg3 HON2.out.new HON2.out.bel.size))
        have HB3' := Lib.hid (HB3.out.keep (w' := w3.drew) (fun _ _ _ => rfl) (fun _ h _ => h))
        obtain ⟨d3, hon3, hd3, hd3', how3, -, hs3⟩ := HP3.out.drew
        have HD3 := Lib.hid (And.intro hon3 (And.intro how3 hs3))
        have hc3 : w3.cell? (ad.add k) = some (.slice X nx cx) := ((only_below hg3 HON2.out.new HON2.out.bel.size).cell (p := ad.add k) (by rw [block_of_add]; exact HAD.out)).trans hc2
        have KEEP : Hid (∀ w' : World, Hid (PartsI w w' g w1.heap.size (.slice Q2 (m + nx) q2) (l.take (k + 1)).flatten (1000 * (k : Int) + 600)) → w'.cell? (ad.add k) = some (.slice X nx cx) ∧ Hid (PartsI w w' g w1.heap.size (.slice Q2 (m + nx) q2) (l.take (k + 1)).flatten (1000 * (k : Int) + 600))) := Lib.hid (fun w' h => ⟨by
          obtain ⟨_, h1, _⟩ := h.out
          exact (h1.bel.cell (p := ad.add k) (by rw [block_of_add]; exact HAD.out)).trans ((HON3.out.bel.cell (p := ad.add k) (by rw [block_of_add]; exact HAD.out)).symm.trans hc3), h⟩)
        have HP4 := Lib.hid (HP3.out.drew.more (M' := 1000 * (k : Int) + 600) (by omega))
        clear hT3 hg3 hon3 how3 hs3 hc2 hc
        go_wp2_with fail
        go_region_held3 (fun w' => w'.cell? (ad.add k) = some (.slice X nx cx) ∧ Hid (PartsI w w' g w1.heap.size (.slice Q2 (m + nx) q2) (l.take (k + 1)).flatten (1000 * (k : Int) + 600))) (exact KEEP.out _ (by assumption)) (first | (go_at_call 34; refine (sum_any w3.drew g d3 HD3.out.1.tab _ X nx cx x HB3'.out HD3.out.1.apart (by omega) (by omega)).mono ?_; rintro e w5 ⟨rfl, hT5, hg5⟩; have HP5 := Lib.hid (PartsI.table (M' := 1000 * (k : Int) + 600) HD3.out.1 HD3.out.2.1 hgb HD3.out.2.2 (.inl hT5) hg5 (by omega) (by omega)); clear hT5 hg5) | (go_at_call 33; refine (join_any _ g _ _ (Crc.sum_lt _) (Crc.sum_lt _) (nx : Int) (by omega) (by omega)).mono ?_; rintro e w6 ⟨rfl, rfl⟩; rw [show ((nx : Int)).toNat = nx from by omega, ← HJ2.out]))
        go_wp2_with fail
        go_roundw
        case rel =>
          refine ⟨k + 1, Q2, q2, m + nx, by omega, by go_num, rfl, by omega, rfl, rfl, Lib.hid ⟨HOL.out.symm, HP5.out.more (by omega)⟩⟩
        case measure => simp [intOf]; omega
    · obtain rfl : k = n := by omega
      have hfl : l.take k = l := List.take_of_length_le (by rw [hlen.out]; omega)
      rw [hfl] at HI ⊢
      obtain ⟨d, hOn, hd0, hd1, hown, hgb2, hs1⟩ := HI.out.2
      have hml := HI.out.1
      obtain ⟨Q', q', eQ, hbs⟩ := own_bs (n := l.flatten.length) hown
      injection eQ with eQ1 eQ2 eQ3
      subst eQ1
      subst eQ3
      rw [← hml] at hbs
      have HON := Lib.hid hOn
      have HBS := Lib.hid hbs
      clear hOn hown hbs hml eQ2 hfl HI
      go_wp2_with fail
      refine (sum_any wr g d HON.out.tab _ Q m q _ HBS.out (fun j hj _ => by omega) (by omega) (by omega)).mono ?_
      rintro e w2 ⟨rfl, hT2, hg2⟩
      have HON2 := Lib.hid (HON.out.step (.inl hT2) hg2)
      clear hT2 hg2
      go_wp2_with fail
      refine (zeros_any w2 g r hr (a : Int) (by omega)).mono ?_
      rintro e w' ⟨rfl, rfl⟩
      have hz1 : Crc.neg (Crc.down (8 * ((a : Int)).toNat) (Crc.neg r)) < 4294967296 := Crc.neg_lt (Crc.down_lt (Crc.neg_lt hr))
      go_wp2_with fail
      refine (zeros_any w2 g _ hz1 (b : Int) (by omega)).mono ?_
      rintro e w' ⟨rfl, rfl⟩
      have HZ : Hid (Crc.neg (Crc.down (8 * ((b : Int)).toNat) (Crc.neg (Crc.neg (Crc.down (8 * ((a : Int)).toNat) (Crc.neg r))))) = Crc.neg (Crc.down (8 * ((a : Int) + (b : Int)).toNat) (Crc.neg r))) := Lib.hid (by
        rw [Crc.neg_neg, ← Crc.down_add]
        congr 2
        omega)
      rw [HZ.out]
      go_wp2_with fail
      refine (zeros_any w2 g r hr ((a : Int) + (b : Int)) (by omega)).mono ?_
      rintro e w' ⟨rfl, rfl⟩
      go_wp2_with fail
      refine (crcAlive_any _).mono ?_
      rintro e w6 ⟨rfl, hb6⟩
      have HF := Lib.hid (HON2.out.below hb6).bel
      clear hb6
      go_wp2_with fail
      go_ret
      exact ⟨rfl, HF.out⟩
set_option maxRecDepth 10000 in
set_option maxHeartbeats 1000000 in
theorem crcParts_out (w : World) (r a b : Int) (A : Option Addr) (n c : Nat) (h : (40 : Int) < (n : Int) ∨ a < 0 ∨ (1099511627776 : Int) < a ∨ b < 0 ∨ (1099511627776 : Int) < b) :
    Calls Try.prog 6 #[.slice A n c, .int .u32 r, .int .i64 a, .int .i64 b] w fun e w' => e = .returned (.bool true) ∧ Below w.heap.size w w' := by
  by_cases q0 : (40 : Int) < (n : Int)
  · clear h
    go_enter Try.func6, Try.ntmps6
    go_wp2_with fail
    refine (crcAlive_any _).mono ?_
    rintro e w6 ⟨rfl, hb6⟩
    have HF := Lib.hid hb6
    clear hb6
    go_wp2_with fail
    go_ret
    exact ⟨rfl, HF.out⟩
  · have p0 : ¬ (40 : Int) < (n : Int) := q0
    by_cases q1 : a < 0
    · clear h
      go_enter Try.func6, Try.ntmps6
      go_wp2_with fail
      refine (crcAlive_any _).mono ?_
      rintro e w6 ⟨rfl, hb6⟩
      have HF := Lib.hid hb6
      clear hb6
      go_wp2_with fail
      go_ret
      exact ⟨rfl, HF.out⟩
    · have p1 : ¬ a < 0 := q1
      by_cases q2 : (1099511627776 : Int) < a
      · clear h
        go_enter Try.func6, Try.ntmps6
        go_wp2_with fail
        refine (crcAlive_any _).mono ?_
        rintro e w6 ⟨rfl, hb6⟩
        have HF := Lib.hid hb6
        clear hb6
        go_wp2_with fail
        go_ret
        exact ⟨rfl, HF.out⟩
      · have p2 : ¬ (1099511627776 : Int) < a := q2
        by_cases q3 : b < 0
        · clear h
          go_enter Try.func6, Try.ntmps6
          go_wp2_with fail
          refine (crcAlive_any _).mono ?_
          rintro e w6 ⟨rfl, hb6⟩
          have HF := Lib.hid hb6
          clear hb6
          go_wp2_with fail
          go_ret
          exact ⟨rfl, HF.out⟩
        · have p3 : ¬ b < 0 := q3
          have q4 : (1099511627776 : Int) < b := by omega
          clear h
          go_enter Try.func6, Try.ntmps6
          go_wp2_with fail
          refine (crcAlive_any _).mono ?_
          rintro e w6 ⟨rfl, hb6⟩
          have HF := Lib.hid hb6
          clear hb6
          go_wp2_with fail
          go_ret
          exact ⟨rfl, HF.out⟩
theorem crcParts_any (w : World) (r : Nat) (hr : r < 4294967296) (S : Nat → Prop) (A : Option Addr) (n c : Nat) (l : List (List UInt8)) (hx : RR w S A n c l) (a b : Int) :
    Calls Try.prog 6 #[.slice A n c, .int .u32 (r : Int), .int .i64 a, .int .i64 b] w fun e w' => e = .returned (.bool true) ∧ Below w.heap.size w w' := by
  by_cases h : (40 : Int) < (n : Int) ∨ a < 0 ∨ (1099511627776 : Int) < a ∨ b < 0 ∨ (1099511627776 : Int) < b
  · exact crcParts_out w r a b A n c h
  · obtain ⟨a, rfl⟩ := Int.eq_ofNat_of_zero_le (by omega : 0 ≤ a)
    obtain ⟨b, rfl⟩ := Int.eq_ofNat_of_zero_le (by omega : 0 ≤ b)
    exact crcParts_in w r hr S A n c l hx (by omega) a b (by omega) (by omega)
end Go.Proofs.Ytaebmhbggbpnoaa
