/- The walk of CrcCounts, and of a table that is nil. Conditions: each theorem's premises. -/
import Derived.Test.YtaebmhbggbpnoaaCrc11
namespace Go.Proofs.Ytaebmhbggbpnoaa
open Go.RowKit
theorem more_nilT (w : World) (r : Int) (v : Value) : Calls Try.prog 38 #[.pointer none, .int .u32 r, v] w fun e w' => e = .returned (.int .u32 0) ∧ w = w' := by
  go_enter Try.func38, Try.ntmps38
  go_wp2_with fail
  go_ret
  exact ⟨rfl, rfl⟩
theorem sum_nilT (w : World) (v : Value) : Calls Try.prog 34 #[.pointer none, v] w fun e w' => e = .returned (.int .u32 0) ∧ w = w' := by
  go_enter Try.func34, Try.ntmps34
  go_wp2_with fail
  refine (more_nilT _ _ _).mono ?_
  rintro e w' ⟨rfl, rfl⟩
  go_wp2_with fail
  go_ret
  exact ⟨rfl, rfl⟩
theorem zeros_nilT (w : World) (r n : Int) : Calls Try.prog 36 #[.pointer none, .int .u32 r, .int .i64 n] w fun e w' => e = .returned (.int .u32 0) ∧ w = w' := by
  go_enter Try.func36, Try.ntmps36
  go_wp2_with fail
  go_ret
  exact ⟨rfl, rfl⟩
theorem join_nilT (w : World) (a b n : Int) : Calls Try.prog 33 #[.pointer none, .int .u32 a, .int .u32 b, .int .i64 n] w fun e w' => e = .returned (.int .u32 0) ∧ w = w' := by
  go_enter Try.func33, Try.ntmps33
  go_wp2_with fail
  go_ret
  exact ⟨rfl, rfl⟩
theorem seal_nilT (w : World) (v : Value) : Calls Try.prog 41 #[.pointer none, v] w fun e w' => e = .returned (.slice none 0 0) ∧ w = w' := by
  go_enter Try.func41, Try.ntmps41
  go_wp2_with fail
  go_ret
  exact ⟨rfl, rfl⟩
theorem open_nilT (w : World) (A : Option Addr) (n c : Nat) (hn : n ≤ 1000000000) : Calls Try.prog 39 #[.pointer none, .slice A n c] w fun e w' => e = .returned (.tuple #[.slice none 0 0, .int .i64 18]) ∧ w = w' := by
  go_enter Try.func39, Try.ntmps39
  go_wp2_with fail
  go_ret2
  exact ⟨rfl, rfl⟩
theorem done_nilT (w : World) : Calls Try.prog 49 #[.pointer none] w fun e w' => e = .returned (.int .i64 0) ∧ w = w' := by
  go_enter Try.func49, Try.ntmps49
  go_wp2_with fail
  go_ret
  exact ⟨rfl, rfl⟩
theorem doneT_any (w : World) (g : Nat) (d : Int) (h : Tbl w g d) : Calls Try.prog 49 #[.pointer (some ⟨g, 0, none⟩)] w fun e w' => e = .returned (.int .i64 d) ∧ w = w' := by
  rcases h with h | ⟨f, h⟩
  · exact done_any w g _ _ d _ h
  · exact done_any w g _ _ d _ h
set_option maxRecDepth 100000 in
set_option maxHeartbeats 8000000 in
theorem crcCounts_in (w : World) (S S' : Nat → Prop) (A B : Option Addr) (n c n' c' : Nat) (l : List (List UInt8)) (z : List Int) (hx : RR w S A n c l) (hy : IR w S' B n' c' z) (hn : n ≤ 40) :
    Calls Try.prog 12 #[.slice A n c, .slice B n' c'] w fun e w' => e = .returned (.bool true) ∧ Below w.heap.size w w' := by
  have HX := Lib.hid hx.old
  have HY := Lib.hid hy.old
  clear hx hy
  have t1 : ¬ (40 : Int) < (n : Int) := by omega
  go_enter Try.func12, Try.ntmps12
  go_wp2_with fail
  refine (new_any _).mono ?_
  rintro e w1 ⟨rfl, hT, hbb⟩
  obtain ⟨g, hg⟩ : ∃ g, g = w.heap.size := ⟨_, rfl⟩
  rw [← hg] at hT
  have HN := Lib.hid (On.mk (d := 0) hbb (.inr ⟨_, hT⟩) (Nat.le_of_eq hg.symm))
  rw [← hg]
  clear hT hbb hg
  go_wp2_with fail
  go_loopw [6, 7] (fun v6 v7 wr => ∃ (k d : Nat), k ≤ n ∧ v7 = .int .i64 (k : Int) ∧ v6 = .int .i64 (d : Int) ∧ d ≤ 300 * k ∧ Hid (On w wr g (d : Int))) (fun _ v7 _ => n - (intOf v7).toNat)
  case atStart => exact ⟨0, 0, by omega, rfl, rfl, by omega, HN⟩
  case round =>
    obtain ⟨k, d, hk, rfl, rfl, hd, HON⟩ := hrel
    clear HN
    by_cases hlt : k < n
    · have hlt' : (k : Int) < (n : Int) := by omega
      obtain ⟨ad, X, nx, cx, x, rfl, hS, Hx, hc, hbx⟩ := (HX.out.below HON.out.bel).at_ k hlt
      have HB := Lib.hid hbx
      have HAD : Hid (ad.block < w.heap.size) := Lib.hid hS
      clear hbx hS
      by_cases h3 : 300 < nx
      · have h3' : (300 : Int) < (nx : Int) := by omega
        go_wp2_with fail
        refine (crcAlive_any _).mono ?_
        rintro e w6 ⟨rfl, hb6⟩
        have HF := Lib.hid (HON.out.below hb6).bel
        clear hb6
        go_wp2_with fail
        go_ret
        exact ⟨rfl, HF.out⟩
      · have h3' : ¬ (300 : Int) < (nx : Int) := by omega
        have HC : Hid (∀ w', Below w.heap.size wr w' → w'.cell? (ad.add k) = some (.slice X nx cx)) := Lib.hid (fun w' hb => (hb.cell (p := ad.add k) (by rw [block_of_add]; exact HAD.out)).trans hc)
        by_cases hz : k < n'
        · have hz' : (k : Int) < (n' : Int) := by omega
          obtain ⟨ae, y, rfl, -, Hy, hcy, hy1, hy2⟩ := (HY.out.below HON.out.bel).at_ k hz
          by_cases q1 : y = 1
          · subst q1
            go_wp2_with fail
            refine (more_any wr g _ HON.out.tab 5 (by omega) _ X nx cx x HB.out HON.out.apart (by omega) (by omega)).mono ?_
            rintro e w3 ⟨rfl, hT3, hg3⟩
            have HON3 := Lib.hid (HON.out.step (.inl hT3) hg3)
            have hc3 := HC.out w3 (only_below hg3 HON.out.new HON.out.bel.size)
            clear hT3 hg3
            go_wp2_with fail
            refine (doneT_any _ g _ HON3.out.tab).mono ?_
            rintro e w' ⟨rfl, rfl⟩
            go_wp2_with fail
            go_roundw
            case rel => exact ⟨k + 1, d + nx, by omega, by go_num, by congr 1; try omega, by omega, Lib.hid (by have := HON3.out; first | exact this | (rw [show ((d + nx : Nat) : Int) = _ from by omega]; exact this))⟩
            case measure => simp [intOf]; omega
          · have p1 : (y == 1) = false := beq_eq_false_iff_ne.2 q1
            by_cases q2 : y = 2
            · subst q2
              go_wp2_with fail
              refine (seal_any wr g _ HON.out.tab _ X nx cx x HB.out HON.out.apart (by omega) (by omega)).mono ?_
              rintro e w3 ⟨P, p, rfl, -, hT3, hg3⟩
              have HON3 := Lib.hid (HON.out.step (.inl hT3) hg3)
              have hc3 := HC.out w3 (only_below hg3 HON.out.new HON.out.bel.size)
              clear hT3 hg3
              go_wp2_with fail
              refine (doneT_any _ g _ HON3.out.tab).mono ?_
              rintro e w' ⟨rfl, rfl⟩
              go_wp2_with fail
              go_roundw
              case rel => exact ⟨k + 1, d + nx, by omega, by go_num, by congr 1; try omega, by omega, Lib.hid (by have := HON3.out; first | exact this | (rw [show ((d + nx : Nat) : Int) = _ from by omega]; exact this))⟩
              case measure => simp [intOf]; omega
            · have p2 : (y == 2) = false := beq_eq_false_iff_ne.2 q2
              by_cases q3 : y = 3
              · subst q3
                go_wp2_with fail
                refine (open_any wr g _ HON.out.tab _ X nx cx x HB.out HON.out.apart (by omega) (by omega)).mono ?_
                rintro e w3 ⟨P, p, q, rfl, -, hT3, hg3⟩
                have HON3 := Lib.hid (HON.out.step hT3 hg3)
                have hc3 := HC.out w3 (only_below hg3 HON.out.new HON.out.bel.size)
                clear hT3 hg3
                by_cases h4 : nx < 4
                · have h4' : (nx : Int) < 4 := by omega
                  go_wp2_with fail
                  refine (doneT_any _ g _ HON3.out.tab).mono ?_
                  rintro e w' ⟨rfl, rfl⟩
                  go_wp2_with fail
                  go_roundw
                  case rel => exact ⟨k + 1, d, by omega, by go_num, rfl, by omega, Lib.hid (by have := HON3.out; rw [show nx - 4 = 0 from by omega] at this; simpa using this)⟩
                  case measure => simp [intOf]; omega
                · have h4' : (4 : Int) ≤ (nx : Int) := by omega
                  go_wp2_with fail
                  refine (doneT_any _ g _ HON3.out.tab).mono ?_
                  rintro e w' ⟨rfl, rfl⟩
                  go_wp2_with fail
                  go_roundw
                  case rel => exact ⟨k + 1, d + (nx - 4), by omega, by go_num, by congr 1; try omega, by omega, Lib.hid (by have := HON3.out; first | exact this | (rw [show ((d + (nx - 4) : Nat) : Int) = _ from by omega]; exact this))⟩
                  case measure => simp [intOf]; omega
              · have p3 : (y == 3) = false := beq_eq_false_iff_ne.2 q3
                by_cases q4 : y = 4
                · subst q4
                  go_wp2_with fail
                  refine (zeros_any wr g 1 (by omega) 100 (by omega)).mono ?_
                  rintro e w' ⟨rfl, rfl⟩
                  go_wp2_with fail
                  refine (join_any wr g 1 2 (by omega) (by omega) 100 (by omega) (by omega)).mono ?_
                  rintro e w' ⟨rfl, rfl⟩
                  go_wp2_with fail
                  refine (doneT_any _ g _ HON.out.tab).mono ?_
                  rintro e w' ⟨rfl, rfl⟩
                  go_wp2_with fail
                  go_roundw
                  case rel => exact ⟨k + 1, d, by omega, by go_num, by congr 1; try omega, by omega, Lib.hid (by have := HON.out; first | exact this | (rw [show ((d : Nat) : Int) = _ from by omega]; exact this))⟩
                  case measure => simp [intOf]; omega
                · have p4 : (y == 4) = false := beq_eq_false_iff_ne.2 q4
                  clear q1 q2 q3 q4
                  go_wp2_with fail
                  refine (sum_any wr g _ HON.out.tab _ X nx cx x HB.out HON.out.apart (by omega) (by omega)).mono ?_
                  rintro e w3 ⟨rfl, hT3, hg3⟩
                  have HON3 := Lib.hid (HON.out.step (.inl hT3) hg3)
                  have hc3 := HC.out w3 (only_below hg3 HON.out.new HON.out.bel.size)
                  clear hT3 hg3
                  go_wp2_with fail
                  refine (doneT_any _ g _ HON3.out.tab).mono ?_
                  rintro e w' ⟨rfl, rfl⟩
                  go_wp2_with fail
                  go_roundw
                  case rel => exact ⟨k + 1, d + nx, by omega, by go_num, by congr 1; try omega, by omega, Lib.hid (by have := HON3.out; first | exact this | (rw [show ((d + nx : Nat) : Int) = _ from by omega]; exact this))⟩
                  case measure => simp [intOf]; omega
        · have hz' : ¬ (k : Int) < (n' : Int) := by omega
          go_wp2_with fail
          refine (sum_any wr g _ HON.out.tab _ X nx cx x HB.out HON.out.apart (by omega) (by omega)).mono ?_
          rintro e w3 ⟨rfl, hT3, hg3⟩
          have HON3 := Lib.hid (HON.out.step (.inl hT3) hg3)
          have hc3 := HC.out w3 (only_below hg3 HON.out.new HON.out.bel.size)
          clear hT3 hg3
          go_wp2_with fail
          refine (doneT_any _ g _ HON3.out.tab).mono ?_
          rintro e w' ⟨rfl, rfl⟩
          go_wp2_with fail
          go_roundw
          case rel => exact ⟨k + 1, d + nx, by omega, by go_num, by congr 1; try omega, by omega, Lib.hid (by have := HON3.out; first | exact this | (rw [show ((d + nx : Nat) : Int) = _ from by omega]; exact this))⟩
          case measure => simp [intOf]; omega
    · obtain rfl : k = n := by omega
      go_wp2_with fail
      refine (open_nilT _ none 0 0 (by omega)).mono ?_
      rintro e w' ⟨rfl, rfl⟩
      go_wp2_with fail
      refine (sum_nilT _ _).mono ?_
      rintro e w' ⟨rfl, rfl⟩
      go_wp2_with fail
      refine (more_nilT _ _ _).mono ?_
      rintro e w' ⟨rfl, rfl⟩
      go_wp2_with fail
      refine (zeros_nilT _ _ _).mono ?_
      rintro e w' ⟨rfl, rfl⟩
      go_wp2_with fail
      refine (join_nilT _ _ _ _).mono ?_
      rintro e w' ⟨rfl, rfl⟩
      go_wp2_with fail
      refine (seal_nilT _ _).mono ?_
      rintro e w' ⟨rfl, rfl⟩
      go_wp2_with fail
      refine (done_nilT _).mono ?_
      rintro e w' ⟨rfl, rfl⟩
      go_wp2_with fail
      refine (crcAlive_any _).mono ?_
      rintro e w6 ⟨rfl, hb6⟩
      have HF := Lib.hid (HON.out.below hb6).bel
      clear hb6
      go_wp2_with fail
      go_ret
      exact ⟨rfl, HF.out⟩
set_option maxRecDepth 100000 in
theorem crcCounts_any (w : World) (S S' : Nat → Prop) (A B : Option Addr) (n c n' c' : Nat) (l : List (List UInt8)) (z : List Int) (hx : RR w S A n c l) (hy : IR w S' B n' c' z) :
    Calls Try.prog 12 #[.slice A n c, .slice B n' c'] w fun e w' => e = .returned (.bool true) ∧ Below w.heap.size w w' := by
  by_cases h : 40 < n
  · have t1 : (40 : Int) < (n : Int) := by omega
    clear h
    go_enter Try.func12, Try.ntmps12
    go_wp2_with fail
    refine (crcAlive_any _).mono ?_
    rintro e w6 ⟨rfl, hb6⟩
    have HF := Lib.hid hb6
    clear hb6
    go_wp2_with fail
    go_ret
    exact ⟨rfl, HF.out⟩
  · exact crcCounts_in w S S' A B n c n' c' l z hx hy (by omega)
end Go.Proofs.Ytaebmhbggbpnoaa
