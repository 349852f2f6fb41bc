/- The walks of Bytes and Lists (the references). Conditions: each theorem's premises. -/
import Derived.Test.YtognkonncfjneaaDoorCh6
namespace Go.Proofs.YtognkonncfjneaaDoor
open Go.RowKit
set_option maxHeartbeats 400000 in
theorem bytes_any (w : World) (S S' : Nat → Prop) (A A' : Option Addr) (n n' c c' : Nat) (xs ys : List UInt8) (hx : Bs w S A n c xs) (hy : Bs w S' A' n' c' ys) (hn : n ≤ 1000000000) (hn' : n' ≤ 1000000000) :
    Calls Tryd.prog 39 #[.slice A n c, .slice A' n' c'] w fun e w' => e = .returned (.bool (decide (xs = ys))) ∧ ∃ k, w' = w.drewN k := by
  have hlx := hx.len
  have hly := hy.len
  by_cases hne : n = n'
  · subst hne
    have Hlx := Lib.hid hlx
    have Hly := Lib.hid hly
    clear hlx hly
    go_enter Tryd.func39, Tryd.ntmps39
    go_wp2
    go_loopw [5] (fun i wr => ∃ k m : Nat, k ≤ n ∧ i = .int .i64 k ∧ Hid (xs.take k = ys.take k) ∧ wr = w.drewN m) (fun i _ => n - (intOf i).toNat)
    case atStart => exact ⟨0, 0, Nat.zero_le _, rfl, Lib.hid (by simp), rfl⟩
    case round =>
      obtain ⟨k, m, hk, rfl, he, rfl⟩ := hrel
      by_cases hlt : k < n
      · obtain ⟨ad, a, rfl, ha, h1⟩ := hx.at_ hlt
        obtain ⟨ad', b, rfl, hb, h2⟩ := hy.at_ hlt
        by_cases hd : a = b
        · subst hd
          have he' : Hid (xs.take (k + 1) = ys.take (k + 1)) := Lib.hid (by rw [take_snoc ha.out, take_snoc hb.out, he.out])
          go_wp2
          go_quiet (fail)
          go_wp2
          exact ⟨⟨k + 1, _, by omega, by go_num, he', rfl⟩, by simp [intOf]; omega⟩
        · have hbb := u8_ne hd
          have hf : Hid (xs ≠ ys) := Lib.hid (by rintro rfl; have := ha.out; rw [hb.out] at this; injection this with this; exact hd this.symm)
          clear hd
          go_wp2
          go_quiet (fail)
          go_wp2
          go_ret
          exact ⟨ret_bool (by simp [hf.out]), _, World.drewN_drewN _ _ _⟩
      · obtain rfl : k = n := by omega
        go_wp2
        go_ret
        refine ⟨ret_bool ?_, _, rfl⟩
        have := he.out
        rw [List.take_of_length_le (by have := Hlx.out; omega), List.take_of_length_le (by have := Hly.out; omega)] at this
        simp [this]
  · have h0 : ((n : Int) != (n' : Int)) = true := by simp; omega
    have Hne : Hid (xs ≠ ys) := Lib.hid (by rintro rfl; omega)
    clear hne
    clear hlx hly
    go_enter Tryd.func39, Tryd.ntmps39
    go_wp2
    go_ret
    exact ⟨ret_bool (by simp [Hne.out]), 0, rfl⟩
theorem bytes_quiet {w : World} {S S' : Nat → Prop} {A A' : Option Addr} {n n' c c' : Nat} {xs ys : List UInt8} (m : Nat) (hx : Bs w S A n c xs) (hy : Bs w S' A' n' c' ys) (hn : n ≤ 1000000000) (hn' : n' ≤ 1000000000) (b : Bool) (hb : decide (xs = ys) = b) :
    Calls Tryd.prog 39 #[.slice A n c, .slice A' n' c'] (w.drewN m) fun e w'' => e = .returned (.bool b) ∧ ∃ m', w'' = w.drewN m' :=
  (bytes_any (w.drewN m) S S' A A' n n' c c' xs ys (hx.drews m) (hy.drews m) hn hn').mono fun e w'' ⟨h1, k, h2⟩ => ⟨by rw [h1, hb], m + k, by rw [h2, World.drewN_drewN]⟩
theorem RR.drews {w : World} {S : Nat → Prop} {A : Option Addr} {n c : Nat} {l : List (List UInt8)} (h : RR w S A n c l) (k : Nat) : RR (w.drewN k) S A n c l := h.keep (fun _ _ _ => rfl) (fun _ h _ => h)
set_option maxHeartbeats 1000000 in
theorem lists_any (w : World) (S S' : Nat → Prop) (A A' : Option Addr) (n n' c c' : Nat) (l m : List (List UInt8)) (hx : RR w S A n c l) (hy : RR w S' A' n' c' m) (hn : n ≤ 1000000000) (hl : ∀ x ∈ l, x.length ≤ 1000000000) (hm : ∀ x ∈ m, x.length ≤ 1000000000) :
    Calls Tryd.prog 30 #[.slice A n c, .slice A' n' c'] w fun e w' => e = .returned (.bool (decide (l = m))) ∧ ∃ k, w' = w.drewN k := by
  have hlx := hx.len
  have hly := hy.len
  by_cases hne : n = n'
  · subst hne
    have Hlx := Lib.hid hlx
    have Hly := Lib.hid hly
    have HX := Lib.hid hx
    have HY := Lib.hid hy
    have HL := Lib.hid hl
    have HM := Lib.hid hm
    clear hlx hly hx hy hl hm
    go_enter Tryd.func30, Tryd.ntmps30
    go_wp2_with fail
    go_loopw [5] (fun i wr => ∃ k : Nat, k ≤ n ∧ i = .int .i64 k ∧ Hid (l.take k = m.take k) ∧ Hid (RR wr S A n c l ∧ RR wr S' A' n c' m ∧ ∃ j, wr = w.drewN j)) (fun i _ => n - (intOf i).toNat)
    case atStart => exact ⟨0, Nat.zero_le _, rfl, Lib.hid (by simp), Lib.hid ⟨HX.out, HY.out, 0, rfl⟩⟩
    case round =>
      obtain ⟨k, hk, rfl, he, HR⟩ := hrel
      by_cases hlt : k < n
      · obtain ⟨ad, A1, n1, c1, x, rfl, -, ha, h1, hbx⟩ := HR.out.1.at_ k hlt
        obtain ⟨ad', A2, n2, c2, y, rfl, -, hb, h2, hby⟩ := HR.out.2.1.at_ k hlt
        have hx1 : n1 ≤ 1000000000 := by rw [← hbx.len]; exact HL.out x (List.mem_of_getElem? ha.out)
        have hy1 : n2 ≤ 1000000000 := by rw [← hby.len]; exact HM.out y (List.mem_of_getElem? hb.out)
        have HBX := Lib.hid hbx
        have HBY := Lib.hid hby
        clear hbx hby
        by_cases hd : x = y
        · have he' : Hid (l.take (k + 1) = m.take (k + 1)) := Lib.hid (by rw [take_snoc ha.out, take_snoc hb.out, he.out, hd])
          have HD : Hid (decide (x = y) = true) := Lib.hid (by simp [hd])
          clear hd
          go_wp2_with fail
          go_quiet ((go_at_call 39; exact bytes_quiet _ HBX.out HBY.out hx1 hy1 true HD.out))
          go_wp2_with fail
          go_roundw
          case rel =>
            obtain ⟨q1, q2, j, q3⟩ := HR.out
            exact ⟨k + 1, by omega, by go_num, he', Lib.hid ⟨q1.drews _, q2.drews _, _, by rw [q3, World.drewN_drewN]⟩⟩
          case measure => simp [intOf]; omega
        · have hf : Hid (l ≠ m) := Lib.hid (by rintro rfl; have := ha.out; rw [hb.out] at this; injection this with this; exact hd this.symm)
          have HD : Hid (decide (x = y) = false) := Lib.hid (by simp [hd])
          clear hd
          go_wp2_with fail
          go_quiet ((go_at_call 39; exact bytes_quiet _ HBX.out HBY.out hx1 hy1 false HD.out))
          go_wp2_with fail
          go_ret
          obtain ⟨q1, q2, j, q3⟩ := HR.out
          exact ⟨ret_bool (by simp [hf.out]), _, by rw [q3, World.drewN_drewN]⟩
      · obtain rfl : k = n := by omega
        go_wp2_with fail
        go_ret
        refine ⟨ret_bool ?_, HR.out.2.2⟩
        have := he.out
        rw [List.take_of_length_le (by have := Hlx.out; omega), List.take_of_length_le (by have := Hly.out; omega)] at this
        simp [this]
  · have h0 : ((n : Int) != (n' : Int)) = true := by simp; omega
    have Hne : Hid (l ≠ m) := Lib.hid (by rintro rfl; omega)
    clear hne hlx hly hx hy hl hm
    go_enter Tryd.func30, Tryd.ntmps30
    go_wp2_with fail
    go_ret
    exact ⟨ret_bool (by simp [Hne.out]), 0, rfl⟩
end Go.Proofs.YtognkonncfjneaaDoor
