/- The walks of slices.Equal and Open (crc). Conditions: each theorem's premises. -/
import Derived.Test.YtaebmhbggbpnoaaCrc4
namespace Go.Proofs.Ytaebmhbggbpnoaa
open Go.RowKit
set_option maxHeartbeats 400000 in
theorem equal_any (w : World) (S S' : Nat → Prop) (A A' : Option Addr) (n n' c c' : Nat) (xs ys : List UInt8) (hx : Bs w S A n c xs) (hy : Bs w S' A' n' c' ys) (hn : n ≤ 1000000000) (hn' : n' ≤ 1000000000) :
    Calls Try.prog 95 #[.slice A n c, .slice A' n' c'] w fun e w' => e = .returned (.bool (decide (xs = ys))) ∧ ∃ k, w' = w.drewN k := by
  have hlx := hx.len
  have hly := hy.len
  by_cases hne : n = n'
  · subst hne
    have Hlx := Lib.hid hlx
    have Hly := Lib.hid hly
    clear hlx hly
    go_enter Try.func95, Try.ntmps95
    go_wp2
    go_loopw [13] (fun i wr => ∃ k m : Nat, k ≤ n ∧ i = .int .i64 k ∧ Hid (xs.take k = ys.take k) ∧ wr = w.drewN m) (fun i _ => n - (intOf i).toNat)
    case atStart => exact ⟨0, 0, Nat.zero_le _, rfl, Lib.hid (by simp), rfl⟩
    case round =>
      obtain ⟨k, m, hk, rfl, he, rfl⟩ := hrel
      by_cases hlt : k < n
      · obtain ⟨ad, a, rfl, ha, h1⟩ := hx.at_ hlt
        obtain ⟨ad', b, rfl, hb, h2⟩ := hy.at_ hlt
        by_cases hd : a = b
        · subst hd
          have he' : Hid (xs.take (k + 1) = ys.take (k + 1)) := Lib.hid (by rw [take_snoc ha.out, take_snoc hb.out, he.out])
          go_wp2
          go_quiet (fail)
          go_wp2
          go_roundw
          case rel => exact ⟨k + 1, _, by omega, by go_num, he', rfl⟩
          case measure => simp [intOf]; omega
        · have hbb := u8_ne hd
          have hf : Hid (xs ≠ ys) := Lib.hid (by rintro rfl; have := ha.out; rw [hb.out] at this; injection this with this; exact hd this.symm)
          clear hd
          go_wp2
          go_quiet (fail)
          go_wp2
          go_ret
          exact ⟨ret_bool (by simp [hf.out]), _, World.drewN_drewN _ _ _⟩
      · obtain rfl : k = n := by omega
        go_wp2
        go_ret
        refine ⟨ret_bool ?_, _, rfl⟩
        have := he.out
        rw [List.take_of_length_le (by have := Hlx.out; omega), List.take_of_length_le (by have := Hly.out; omega)] at this
        simp [this]
  · have h0 : ((n : Int) != (n' : Int)) = true := by simp; omega
    have Hne : Hid (xs ≠ ys) := Lib.hid (by rintro rfl; omega)
    clear hne
    clear hlx hly
    go_enter Try.func95, Try.ntmps95
    go_wp2
    go_ret
    exact ⟨ret_bool (by simp [Hne.out]), 0, rfl⟩
/-- What bytes open to. -/
def openB (bs : List UInt8) : List UInt8 := if bs.length < 4 then [] else if Crc.seal_ (bs.take (bs.length - 4)) = bs then bs.take (bs.length - 4) else []
def openF (bs : List UInt8) : Int := if bs.length < 4 then 3 else if Crc.seal_ (bs.take (bs.length - 4)) = bs then 0 else 4
theorem tbl_lt {w : World} {g : Nat} {d : Int} (h : Tbl w g d) : g < w.heap.size := by rcases h with h | ⟨f, h⟩ <;> exact h.lt
theorem grown_drewN {a w : World} {row : Option Nat} (h : a.grownBy w row) (n : Nat) : a.grownBy (w.drewN n) row := only_drewN h n
set_option maxRecDepth 10000 in
set_option maxHeartbeats 1000000 in
/-- Open. -/
theorem open_any (w : World) (g : Nat) (d : Int) (h : Tbl w g d) (S : Nat → Prop) (A : Option Addr) (n c : Nat) (bs : List UInt8) (hx : Bs w S A n c bs) (hS : ∀ k, S k → k < w.heap.size → k ≠ g)
    (hd : 0 ≤ d ∧ d ≤ 1000000000000) (hn : n ≤ 100000000) :
    Calls Try.prog 39 #[.pointer (some ⟨g, 0, none⟩), .slice A n c] w fun e w' => ∃ A' n' c', e = .returned (.tuple #[.slice A' n' c', .int .i64 (openF bs)]) ∧ Bs w' (fun k => w.heap.size ≤ k) A' n' c' (openB bs) ∧ Tbl w' g (d + ((n - 4 : Nat) : Int)) ∧ w.grownBy w' (some g) := by
  by_cases h4 : n < 4
  · have H := Lib.hid h
    have e1 : openF bs = 3 := by unfold openF; rw [if_pos (by rw [hx.len]; exact h4)]
    have e2 : openB bs = [] := by unfold openB; rw [if_pos (by rw [hx.len]; exact h4)]
    rw [e1, e2]
    have hlt : (n : Int) < 4 := by omega
    clear e1 e2 hx hS h
    go_enter Try.func39, Try.ntmps39
    go_wp2_with fail
    go_ret2
    exact ⟨none, 0, 0, rfl, Bs.nil _ _ _, by rw [show n - 4 = 0 from by omega]; simpa using H.out, World.grownBy.refl _ _⟩
  · obtain ⟨k, hk⟩ : ∃ k, n = k + 4 := ⟨n - 4, by omega⟩
    obtain ⟨A1, c1, hsl, hx1⟩ := hx.upto ((n : Int) - 4) k (by omega) (by omega)
    have HC := Lib.hid (seal_any w g d h S A1 k c1 _ hx1 hS hd (by omega))
    have HX := Lib.hid hx
    have HX1 := Lib.hid hx1
    have HS := Lib.hid hS
    have hgl := tbl_lt h
    have hge : (4 : Int) ≤ (n : Int) := by omega
    have HK := Lib.hid hk
    have hkn : k ≤ n := by omega
    have hlk : bs.length - 4 = k := by rw [hx.len]; omega
    have hF : openF bs = if Crc.seal_ (bs.take k) = bs then 0 else 4 := by unfold openF; rw [if_neg (by rw [hx.len]; exact h4), hlk]
    have hB : openB bs = if Crc.seal_ (bs.take k) = bs then bs.take k else [] := by unfold openB; rw [if_neg (by rw [hx.len]; exact h4), hlk]
    have HFF := Lib.hid (And.intro hF hB)
    clear h hx hS hd h4 hx1 hk hF hB hlk
    have hnot : ∀ (x : Bool) (w : World), (Op.unary .not (.bool x)).run Try.prog w = .ok (.bool (!x)) w := fun _ _ => rfl
    go_enter Try.func39, Try.ntmps39
    go_wp2_with fail
    refine (HC.out).mono ?_
    rintro e w1 ⟨A2, c2, rfl, hown, hT, hg⟩
    have HF := Lib.hid (And.intro hown (And.intro hT hg))
    have hsz := hg.size
    clear hown hT hg HC
    go_wp2_with fail
    refine (equal_any w1 _ S A2 A (k + 4) n c2 c _ bs ⟨by simp [Crc.seal_, Crc.le32, HX1.out.len], (own_shape HF.out.1).elim fun A => (fun ⟨c, e, h⟩ => by cases e; exact h), Reads.of_own HF.out.1⟩ (HX.out.only HF.out.2.2 HS.out) (by omega) (by omega)).mono ?_
    rintro e w2 ⟨rfl, m, rfl⟩
    by_cases heq : Crc.seal_ (bs.take k) = bs
    · have e1 : decide (Crc.seal_ (bs.take k) = bs) = true := by simp [heq]
      rw [e1]
      have HQ : Hid (openF bs = 0 ∧ openB bs = bs.take k) := Lib.hid ⟨by rw [HFF.out.1, if_pos heq], by rw [HFF.out.2, if_pos heq]⟩
      have HX2 := Lib.hid (HX1.out.only HF.out.2.2 HS.out)
      clear heq e1
      go_wp2_with fail
      refine (clone_any (w1.drewN m) S A1 k c1 _ ⟨HX2.out.len, HX2.out.cap, HX2.out.rd⟩ (by omega)).mono ?_
      rintro e w3 ⟨A3, c3, rfl, hown3, hb3⟩
      have HO := Lib.hid (And.intro hown3 hb3)
      clear hown3 hb3
      go_wp2_with fail
      go_ret2
      rw [HQ.out.1, HQ.out.2]
      obtain ⟨A4, c4, e4, hbs⟩ := own_bs HO.out.1
      cases e4
      refine ⟨A3, k, c3, rfl, hbs.mono (fun j hj => by simp at hj; omega), .inl ?_, only_trans (only_drewN HF.out.2.2 m) (only_of_below HO.out.2 _)⟩
      have hT3 : Tb w3 g 1 0 Crc.row (d + (k : Int)) := Tb.after (w := w1.drewN m) (HF.out.2.1.keep (fun _ => rfl) (fun _ => rfl)) HO.out.2
      rw [show n - 4 = k from by have := HK.out; omega]
      exact hT3
    · have e1 : decide (Crc.seal_ (bs.take k) = bs) = false := by simp [heq]
      rw [e1]
      have HQ : Hid (openF bs = 4 ∧ openB bs = []) := Lib.hid ⟨by rw [HFF.out.1, if_neg heq], by rw [HFF.out.2, if_neg heq]⟩
      clear heq e1
      go_wp2_with fail
      go_ret2
      rw [HQ.out.1, HQ.out.2]
      refine ⟨none, 0, 0, rfl, Bs.nil _ _ _, .inl ?_, only_drewN HF.out.2.2 m⟩
      rw [show n - 4 = k from by have := HK.out; omega]
      exact HF.out.2.1.keep (fun _ => rfl) (fun _ => rfl)
end Go.Proofs.Ytaebmhbggbpnoaa
