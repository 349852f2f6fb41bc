/- The walks of the reference's cut, Cut, Split, Sure. Conditions: each theorem's premises. -/
import Derived.Test.YtognkonncfjneaaDoorCh5
namespace Go.Proofs.YtognkonncfjneaaDoor
open Go.RowKit
theorem pow_inj : ∀ a, a < 21 → ∀ b, b < 21 → 2 ^ a = 2 ^ b → a = b := by decide +kernel
theorem Bs.drews {w : World} {S : Nat → Prop} {A : Option Addr} {n c : Nat} {bs : List UInt8} (h : Bs w S A n c bs) (k : Nat) : Bs (w.drewN k) S A n c bs := h.keep (fun _ _ _ => rfl) (fun _ h _ => h)
theorem rmask_rule (w : World) (r : Ch.Rule) : Calls Tryd.prog 16 #[.int .i64 ((2 ^ r.k : Nat) : Int)] w fun e w' => e = .returned (.int .u64 ((Gear.maskK r.k : Nat) : Int)) ∧ w = w' := by
  have hk := r.hk
  refine (rmask_any w _).mono ?_
  rintro e w' ⟨⟨k, hk', e1, rfl⟩ | ⟨hno, _⟩, rfl⟩
  · rw [pow_inj r.k (by omega) k hk' (by omega)]
    exact ⟨rfl, rfl⟩
  · exact absurd rfl (hno r.k (by omega))
theorem quiet_left' {P : Program} {f : FuncId} {args : Array Value} {w : World} {n : Nat} {v : Value} (h : ∀ w, Calls P f args w fun e w' => e = .returned v ∧ w = w') : Calls P f args (w.drewN n) fun e w'' => e = .returned v ∧ ∃ m, w'' = w.drewN m :=
  (h (w.drewN n)).mono fun _ _ ⟨he, hm⟩ => ⟨he, n, hm.symm⟩
/-- A cut that is known as a run reads in every world. -/
theorem upto_any {w : World} {S : Nat → Prop} {A A' : Option Addr} {n c c' k : Nat} {hi : Int} {bs : List UInt8} (hcut : ∀ W, (Instr.sliceAt 23 (.slice A n c) none (some (.int .i64 hi)) none).run Tryd.prog W = .ok (.slice A' k c') W) (h : Bs w S A n c bs) (hk : k ≤ n) (hh : hi = (k : Int) := by rfl) : Bs w S A' k c' (bs.take k) := by
  obtain ⟨A2, c2, h2, hb⟩ := h.upto hi k hh hk
  have e := (hcut w).symm.trans (h2 w)
  injection e with e _
  injection e with e1 e2 e3
  subst e1 e3
  exact hb
/-- What lies between two rounds of the reference's cut. -/
structure Rv (w : World) (r : Ch.Rule) (W : World) : Prop where
  be : Below w.heap.size w W
  bk : Blk W w.heap.size 41 r.v
theorem Rv.drewN {w W : World} {r : Ch.Rule} (h : Rv w r W) (k : Nat) : Rv w r (W.drewN k) := ⟨below_drewN h.be k, h.bk⟩
theorem cut_is {r : Ch.Rule} {bs : List UInt8} {j : Nat} (h : Ch.cutS r bs = some j) : (Ending.returned (.tuple #[.int .i64 (j : Int), .bool true]) : Ending) = .returned (.tuple #[.int .i64 ((cutN r bs : Nat) : Int), .bool (Ch.cutS r bs).isSome]) := by rw [cutN, h]; rfl
theorem cut_no {r : Ch.Rule} {bs : List UInt8} {n : Nat} (h : Ch.cutS r bs = none) (hn : bs.length = n) : (Ending.returned (.tuple #[.int .i64 (n : Int), .bool false]) : Ending) = .returned (.tuple #[.int .i64 ((cutN r bs : Nat) : Int), .bool (Ch.cutS r bs).isSome]) := by rw [cutN, h, ← hn]; rfl
set_option maxRecDepth 100000 in
set_option maxHeartbeats 2000000 in
theorem rcut_any (w : World) (r : Ch.Rule) (S : Nat → Prop) (A : Option Addr) (n c : Nat) (bs : List UInt8) (hx : Bs w S A n c bs) (hn : n ≤ 1000000000) :
    Calls Tryd.prog 50 #[.agg r.v, .slice A n c] w fun e w' => e = .returned (.tuple #[.int .i64 ((cutN r bs : Nat) : Int), .bool (Ch.cutS r bs).isSome]) ∧ Below w.heap.size w w' := by
  have HX := Lib.hid hx.old
  have hlen := hx.len
  obtain ⟨av, hav⟩ : ∃ av, av = 2 ^ r.k := ⟨_, rfl⟩
  obtain ⟨mask, hmask⟩ : ∃ mask, mask = Gear.maskK r.k := ⟨_, rfl⟩
  have hml : mask < Gear.M := by rw [hmask]; exact maskK_lt r.k (by have := r.hk; omega)
  have HV : Hid (r.v = #[.int .u64 (r.seed : Int), .int .i64 (r.mn : Int), .int .i64 (av : Int), .int .i64 (r.mx : Int)]) := Lib.hid (by rw [hav]; rfl)
  have HMC : Hid (∀ w', Calls Tryd.prog 16 #[.int .i64 (av : Int)] w' fun e w'' => e = .returned (.int .u64 (mask : Int)) ∧ w' = w'') := Lib.hid (by rw [hav, hmask]; exact fun w' => rmask_rule w' r)
  have HST : Hid (∀ j, Ch.stopB r bs j = (j == r.mx || (decide (r.mn ≤ j) && (Gear.hash r.seed (bs.take j) &&& mask == 0)))) := Lib.hid (by rw [hmask]; exact fun j => rfl)
  have hr1 := r.h1
  have hr2 : r.mn ≤ r.mx := Nat.le_trans r.h2 r.h3
  have hr4 := r.h4
  have HR0 : Hid (Rv w r (w.alloc (.cells r.v 41))) := Lib.hid ⟨(Below.refl _ w).alloc (Nat.le_refl _) _, Blk.new w _ _⟩
  rw [HV.out] at HR0 ⊢
  clear hx hav hmask
  go_enter Tryd.func50, Tryd.ntmps50
  go_wp2_with fail
  go_loopw [6] (fun v6 wr => ∃ j : Nat, r.mn ≤ j ∧ j ≤ r.mx ∧ v6 = .int .i64 (j : Int) ∧ Hid (Rv w r wr) ∧ Hid (∀ i, i < j → 1 ≤ i → i ≤ n → Ch.stopB r bs i = false)) (fun v6 _ => 4097 - (intOf v6).toNat)
  case atStart => exact ⟨r.mn, Nat.le_refl _, hr2, rfl, HR0, Lib.hid fun i hi _ _ => by rw [HST.out]; simp; omega⟩
  case round =>
    obtain ⟨j, hj1, hj2, rfl, HR, HN⟩ := hrel
    have hbk := HR.out.bk
    rw [HV.out] at hbk
    obtain ⟨k0, k1, k2, k3, -⟩ := hbk.four
    clear hbk HR0
    by_cases hin : j ≤ n ∧ j < r.mx
    · obtain ⟨hjn, hjx⟩ := hin
      have hjn' : (j : Int) ≤ (n : Int) := by omega
      have hjx' : (j : Int) < (r.mx : Int) := by omega
      obtain ⟨A5, c5, hcut, hX5⟩ := (HX.out.below HR.out.be).upto (j : Int) j rfl hjn
      have HX8 : Hid (∀ W, Bs W (Lo w.heap.size) A n c bs → Bs W (Lo w.heap.size) A5 j c5 (bs.take j)) := Lib.hid fun W h => upto_any hcut h hjn
      obtain ⟨h, hh⟩ : ∃ h, h = Gear.hash r.seed (bs.take j) := ⟨_, rfl⟩
      have hhl : h < Gear.M := by rw [hh]; exact Gear.hash_lt _ _
      obtain ⟨z, hz⟩ : ∃ z, z = h &&& mask := ⟨_, rfl⟩
      have hand : bits .and .u64 (h : Int) (mask : Int) = (z : Int) := by rw [u64_and_nat h mask hhl hml, hz]
      have HH : Hid (∀ W m, Bs W (Lo w.heap.size) A5 j c5 (bs.take j) → Calls Tryd.prog 14 #[.int .u64 (r.seed : Int), .slice A5 j c5] (W.drewN m) fun e w'' => e = .returned (.int .u64 (h : Int)) ∧ ∃ m', w'' = W.drewN m') := Lib.hid fun W m hb => (rhash_any (W.drewN m) r.seed _ A5 j c5 _ (hb.drews m) (by omega)).mono fun e w'' h' => ⟨by rw [h'.1, hh], m, h'.2.symm⟩
      have HSZ : Hid (z = 0 → Ch.stopB r bs j = true) := Lib.hid fun e => by rw [HST.out, ← hh, ← hz, e]; simp [hj1]
      have HSN : Hid (z ≠ 0 → Ch.stopB r bs j = false) := Lib.hid fun e => by rw [HST.out, ← hh, ← hz]; simp [e]; omega
      have HHH := Lib.hid hh
      clear hX5 hh hz
      have HX7 : Hid (∀ W, Below w.heap.size w W → Bs W (Lo w.heap.size) A5 j c5 (bs.take j)) := Lib.hid fun W hb => HX8.out W (HX.out.below hb)
      rcases (show (j ≠ n) ∨ (j = n ∧ r.mn < j) ∨ (j = n ∧ j = r.mn) by omega) with hc | ⟨hc, hc2⟩ | ⟨hc, hc2⟩
      · have hb1 : ((j : Int) == (n : Int)) = false := by simp; omega
        go_wp2_with fail
        go_quiet (fail)
        go_wp2_with fail
        obtain ⟨W2, hW2⟩ : ∃ W2, W2 = wr.drewN nq := ⟨_, rfl⟩
        have HR2 : Hid (Rv w r W2) := Lib.hid (by rw [hW2]; exact HR.out.drewN nq)
        rw [← hW2]
        clear hW2 k0 k1 k2 k3
        have hbk := HR2.out.bk
        rw [HV.out] at hbk
        obtain ⟨k0, k1, k2, k3, -⟩ := hbk.four
        have HB2 := Lib.hid (HX7.out W2 HR2.out.be)
        clear hbk
        by_cases hz0 : z = 0
        · have hz1 : ((z : Int) == 0) = true := by simp; omega
          have HC : Hid (Ch.cutS r bs = some j) := Lib.hid (Ch.cut_of (by omega) (by omega) (HSZ.out hz0) (fun i h1 h2 => HN.out i h2 h1 (by omega)))
          clear hz0
          go_quiet ((first | (go_at_call 14; exact HH.out _ _ HB2.out) | (go_at_call 16; exact quiet_left' HMC.out)))
          go_wp2_with fail
          go_ret2
          exact ⟨cut_is HC.out, below_drewN HR2.out.be _⟩
        · have hz1 : ((z : Int) == 0) = false := by simp; omega
          have HN2 : Hid (∀ i, i < j + 1 → 1 ≤ i → i ≤ n → Ch.stopB r bs i = false) := Lib.hid fun i h1 h2 h3 => (Nat.lt_succ_iff_lt_or_eq.1 h1).elim (fun h => HN.out i h h2 h3) (fun e => by rw [e]; exact HSN.out hz0)
          clear hz0
          go_quiet ((first | (go_at_call 14; exact HH.out _ _ HB2.out) | (go_at_call 16; exact quiet_left' HMC.out)))
          go_wp2_with fail
          go_roundw
          case rel => exact ⟨j + 1, by omega, by omega, by go_num, Lib.hid (HR2.out.drewN _), HN2⟩
          case measure => simp [intOf]; omega
      · obtain rfl : n = j := hc.symm
        have hb2 : decide (n ≤ r.mn) = false := by simp; omega
        go_wp2_with fail
        go_quiet (fail)
        go_wp2_with fail
        obtain ⟨W2, hW2⟩ : ∃ W2, W2 = wr.drewN nq := ⟨_, rfl⟩
        have HR2 : Hid (Rv w r W2) := Lib.hid (by rw [hW2]; exact HR.out.drewN nq)
        rw [← hW2]
        clear hW2 k0 k1 k2 k3
        have hbk := HR2.out.bk
        rw [HV.out] at hbk
        obtain ⟨k0, k1, k2, k3, -⟩ := hbk.four
        have HB2 := Lib.hid (HX7.out W2 HR2.out.be)
        clear hbk
        by_cases hz0 : z = 0
        · have hz1 : ((z : Int) == 0) = true := by simp; omega
          have HC : Hid (Ch.cutS r bs = some n) := Lib.hid (Ch.cut_of (by omega) (by omega) (HSZ.out hz0) (fun i h1 h2 => HN.out i h2 h1 (by omega)))
          clear hz0
          go_quiet ((first | (go_at_call 14; exact HH.out _ _ HB2.out) | (go_at_call 16; exact quiet_left' HMC.out)))
          go_wp2_with fail
          go_ret2
          exact ⟨cut_is HC.out, below_drewN HR2.out.be _⟩
        · have hz1 : ((z : Int) == 0) = false := by simp; omega
          have HN2 : Hid (∀ i, i < n + 1 → 1 ≤ i → i ≤ n → Ch.stopB r bs i = false) := Lib.hid fun i h1 h2 h3 => (Nat.lt_succ_iff_lt_or_eq.1 h1).elim (fun h => HN.out i h h2 h3) (fun e => by rw [e]; exact HSN.out hz0)
          clear hz0
          go_quiet ((first | (go_at_call 14; exact HH.out _ _ HB2.out) | (go_at_call 16; exact quiet_left' HMC.out)))
          go_wp2_with fail
          go_roundw
          case rel => exact ⟨n + 1, by omega, by omega, by go_num, Lib.hid (HR2.out.drewN _), HN2⟩
          case measure => simp [intOf]; omega
      · obtain rfl : n = j := hc.symm
        have hb2 : decide (n ≤ r.mn) = true := by simp; omega
        clear hc2
        have HF : Hid (∀ W m, Bs W (Lo w.heap.size) A n c bs → Calls Tryd.prog 14 #[.int .u64 (r.seed : Int), .slice A n c] (W.drewN m) fun e w'' => e = .returned (.int .u64 (h : Int)) ∧ ∃ m', w'' = W.drewN m') := Lib.hid fun W m hb => (rhash_any (W.drewN m) r.seed _ A n c _ (hb.drews m) hn).mono fun e w'' h' => ⟨by rw [h'.1, HHH.out, ← hlen, List.take_length], m, h'.2.symm⟩
        have HBF := Lib.hid (HX.out.below HR.out.be)
        by_cases hz0 : z = 0
        · have hz2 : ((z : Int) != 0) = false := by simp; omega
          go_wp2_with fail
          go_quiet ((first | (go_at_call 14; exact HF.out _ _ HBF.out) | (go_at_call 16; exact quiet_left' HMC.out)))
          go_wp2_with fail
          obtain ⟨W2, hW2⟩ : ∃ W2, W2 = wr.drewN nq := ⟨_, rfl⟩
          have HR2 : Hid (Rv w r W2) := Lib.hid (by rw [hW2]; exact HR.out.drewN nq)
          rw [← hW2]
          clear hW2 k0 k1 k2 k3
          have hbk := HR2.out.bk
          rw [HV.out] at hbk
          obtain ⟨k0, k1, k2, k3, -⟩ := hbk.four
          have HB2 := Lib.hid (HX7.out W2 HR2.out.be)
          clear hbk
          have hz1 : ((z : Int) == 0) = true := by simp; omega
          have HC : Hid (Ch.cutS r bs = some n) := Lib.hid (Ch.cut_of (by omega) (by omega) (HSZ.out hz0) (fun i h1 h2 => HN.out i h2 h1 (by omega)))
          clear hz0
          go_quiet ((first | (go_at_call 14; exact HH.out _ _ HB2.out) | (go_at_call 16; exact quiet_left' HMC.out)))
          go_wp2_with fail
          go_ret2
          exact ⟨cut_is HC.out, below_drewN HR2.out.be _⟩
        · have hz2 : ((z : Int) != 0) = true := by simp; omega
          have HC : Hid (Ch.cutS r bs = none) := Lib.hid (Ch.cut_none_of fun i h1 h2 => (Nat.lt_or_ge i n).elim (fun h => HN.out i h h1 (by omega)) (fun h => by rw [show i = n by omega]; exact HSN.out hz0))
          clear hz0
          go_wp2_with fail
          go_quiet ((first | (go_at_call 14; exact HF.out _ _ HBF.out) | (go_at_call 16; exact quiet_left' HMC.out)))
          go_wp2_with fail
          go_ret2
          exact ⟨cut_no HC.out hlen, below_drewN HR.out.be _⟩
    · by_cases hmx : r.mx ≤ n
      · have hj : j = r.mx := by omega
        have HC : Hid (Ch.cutS r bs = some r.mx) := Lib.hid (Ch.cut_of (by omega) (by omega) (by rw [HST.out]; simp) (fun i h1 h2 => HN.out i (by omega) h1 (by omega)))
        have hmx' : (r.mx : Int) ≤ (n : Int) := by omega
        have hjm : decide ((j : Int) < (r.mx : Int)) = false := by simp; omega
        have hjn : (j : Int) ≤ (n : Int) := by omega
        clear hin hmx
        go_wp2_with fail
        go_ret2
        exact ⟨cut_is HC.out, HR.out.be⟩
      · have hjn : (n : Int) < (j : Int) := by omega
        have HC : Hid (Ch.cutS r bs = none) := Lib.hid (Ch.cut_none_of fun i h1 h2 => HN.out i (by omega) h1 (by omega))
        have hmx' : (n : Int) < (r.mx : Int) := by omega
        clear hin hmx
        go_wp2_with fail
        go_ret2
        exact ⟨cut_no HC.out hlen, HR.out.be⟩
end Go.Proofs.YtognkonncfjneaaDoor
