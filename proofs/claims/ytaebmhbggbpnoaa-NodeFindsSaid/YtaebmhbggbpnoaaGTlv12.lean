/- Walks of tlv: which values have no fields but their own (only), how long a form is (inner), Right, Size. Conditions: each theorem's premises. -/
import Derived.Test.YtaebmhbggbpnoaaGTlvMem
import Derived.Test.YtaebmhbggbpnoaaShelf
import Derived.Test.YtaebmhbggbpnoaaGPut
import Derived.StillTailTactics
namespace Go.Proofs.Ytaebmhbggbpnoaa
open Go.RowKit
theorem dpos (k : Nat) : decide (0 < k) = !decide (k = 0) := by cases k <;> simp
theorem onlyT_a {w : World} {S : Nat → Prop} {A2 A3 : Option Addr} {n2 c2 n3 c3 : Nat} {b : List UInt8} {l : List TV} (hb : Bs w S A2 n2 c2 b) (hl : LR w S A3 n3 c3 l) (t : Int) (n : Nat) :
    onlyT (.mk t n b l) = if t = 1 then decide (¬ 0 < n2) && decide (¬ 0 < n3) else if t = 2 then decide (n = 0) && decide (¬ 0 < n3) else if t = 3 then decide (n = 0) && decide (¬ 0 < n2) else false := by
  have h2 : b.isEmpty = decide (¬ 0 < n2) := by have := hb.len; cases b <;> simp_all <;> omega
  have h3 : l.isEmpty = decide (¬ 0 < n3) := by have := hl.len; cases l <;> simp_all <;> omega
  simp only [onlyT, h2, h3]
  rfl
set_option maxRecDepth 10000 in
set_option maxHeartbeats 1000000 in
theorem only_any (w : World) (S : Nat → Prop) (q : Quad) (v : TV) (h : VR w S q v) :
    Calls Try.prog 124 #[q.agg] w fun e w' => e = .returned (.bool (onlyT v)) ∧ Below w.heap.size w w' := by
  obtain ⟨t, n, b, l, A2, A3, n2, c2, n3, c3, rfl, rfl, hu, hb, h2, hl⟩ := h.opens
  have ho := onlyT_a hb hl t n
  obtain ⟨r, hr⟩ : ∃ r, r = onlyT (.mk t n b l) := ⟨_, rfl⟩
  rw [← hr]
  rw [ho] at hr
  have HR := Lib.hid hr
  have hbw : ∀ o, Below w.heap.size w (w.alloc o) := fun o => ((Below.refl _ _).alloc (Nat.le_refl _) o)
  have HB := Lib.hid hbw
  clear ho h hb hl hu h2 hr hbw
  dsimp only [Quad.agg]
  by_cases t1 : t = 1
  · have T1 : (t == 1) = true := by simp [t1]
    have HT := Lib.hid t1
    clear t1
    go_enter Try.func124, Try.ntmps124
    go_wp2_with fail
    go_quiet (fail)
    go_wp2_with fail
    all_goals
      go_ret
      refine ⟨ret_bool ?_, below_drewN (HB.out _) _⟩
      rw [HR.out, if_pos HT.out]
      simp [*, dpos]
  have T1 : (t == 1) = false := by simp [t1]
  by_cases t2 : t = 2
  · have T2 : (t == 2) = true := by simp [t2]
    have HT := Lib.hid t2
    have HT1 := Lib.hid t1
    clear t1 t2
    go_enter Try.func124, Try.ntmps124
    go_wp2_with fail
    go_quiet (fail)
    go_wp2_with fail
    all_goals
      go_ret
      refine ⟨ret_bool ?_, below_drewN (HB.out _) _⟩
      rw [HR.out, if_neg HT1.out, if_pos HT.out]
      simp_all [dpos]
  have T2 : (t == 2) = false := by simp [t2]
  by_cases t3 : t = 3
  · have T3 : (t == 3) = true := by simp [t3]
    have HT := Lib.hid t3
    have HT1 := Lib.hid t1
    have HT2 := Lib.hid t2
    clear t1 t2 t3
    go_enter Try.func124, Try.ntmps124
    go_wp2_with fail
    go_quiet (fail)
    go_wp2_with fail
    all_goals
      go_ret
      refine ⟨ret_bool ?_, below_drewN (HB.out _) _⟩
      rw [HR.out, if_neg HT1.out, if_neg HT2.out, if_pos HT.out]
      simp_all [dpos]
  · have T3 : (t == 3) = false := by simp [t3]
    have HT3 := Lib.hid t3
    have HT1 := Lib.hid t1
    have HT2 := Lib.hid t2
    clear t1 t2 t3
    go_enter Try.func124, Try.ntmps124
    go_wp2_with fail
    go_quiet (fail)
    go_wp2_with fail
    all_goals
      go_ret
      refine ⟨ret_bool ?_, below_drewN (HB.out _) _⟩
      rw [HR.out, if_neg HT1.out, if_neg HT2.out, if_neg HT3.out]
end Go.Proofs.Ytaebmhbggbpnoaa
namespace Go.Proofs.Ytaebmhbggbpnoaa
open Go.RowKit
theorem onlyT_list {t : Int} {n : Nat} {b : List UInt8} {l : List TV} (ho : onlyT (.mk t n b l) = true) (h3 : t ≠ 3) : l = [] := by
  simp only [onlyT] at ho
  split at ho
  · cases l
    · rfl
    · simp at ho
  · split at ho
    · cases l
      · rfl
      · simp at ho
    · cases ho
theorem len64_any (n : Nat) (hu : u64ok n) : ∃ L : Nat, (L + 7) / 8 = (numE n).length ∧ L ≤ 64 ∧ Hid (∀ w, Calls Try.prog 125 #[.int .u64 (n : Int)] w fun e w' => e = .returned (.int .i64 (L : Int)) ∧ w' = w) := by
  unfold u64ok at hu
  refine ⟨Lib.bitLen n, numE_len n hu, Lib.bitLen_le n 64 (by omega) (by omega), Lib.hid fun w => ?_⟩
  have := Try.bits_Len64 (n : Int) w (by omega) (by omega)
  simpa using this
def InnerSaid (d : Nat) : Prop := ∀ (v : TV) (q : Quad) (w : World) (S : Nat → Prop), VR w S q v →
    Calls Try.prog 91 #[q.agg, .int .i64 (d : Int)] w fun e w' => e = .returned (.int .i64 (innerI d v)) ∧ Below w.heap.size w w'
set_option maxRecDepth 10000 in
set_option maxHeartbeats 1000000 in
theorem inner_not (d : Nat) (v : TV) (q : Quad) (w : World) (S : Nat → Prop) (h : VR w S q v) (hd : d ≤ 1000000) (hn : onlyT v = false ∨ (v.tag = 3 ∧ d = 0)) :
    Calls Try.prog 91 #[q.agg, .int .i64 (d : Int)] w fun e w' => e = .returned (.int .i64 (innerI d v)) ∧ Below w.heap.size w w' := by
  have hi : innerI d v = -1 := by
    rcases hn with h | ⟨h1, rfl⟩
    · exact innerI_not h
    · obtain ⟨t, n, b, l⟩ := v
      exact innerI_zero3 h1
  rw [hi]
  obtain ⟨t, n, b, l, A2, A3, n2, c2, n3, c3, rfl, rfl, hu, hb, h2, hl⟩ := h.opens
  dsimp only [Quad.agg]
  have HW : Hid (∀ o, Below w.heap.size w (w.alloc o)) := Lib.hid fun o => (Below.refl _ _).alloc (Nat.le_refl _) o
  have K := only_any (w.alloc (.cells #[.int .i64 t, .int .u64 (n : Int), .slice A2 n2 c2, .slice A3 n3 c3] 27)) S _ _ (h.after (HW.out _))
  dsimp only [Quad.agg] at K
  cases ho : onlyT (.mk t n b l) with
  | false =>
    rw [ho] at K
    have HK := Lib.hid K
    clear K hn hi hb hl h ho
    go_enter Try.func91, Try.ntmps91
    go_wp2_with fail
    refine (HK.out).mono ?_
    rintro e w1 ⟨rfl, hbw⟩
    go_wp2_with fail
    go_ret
    exact ⟨rfl, (HW.out _).trans (hbw.mono (by simp))⟩
  | true =>
    rcases hn with hn | ⟨h3, rfl⟩
    · rw [hn] at ho; cases ho
    rw [ho] at K
    obtain rfl : t = 3 := h3
    have HK := Lib.hid K
    clear K hi hb hl h ho
    go_enter Try.func91, Try.ntmps91
    go_wp2_with fail
    refine (HK.out).mono ?_
    rintro e w1 ⟨rfl, hbw⟩
    have hX := (Blk.new w 27 #[.int .i64 3, .int .u64 (n : Int), .slice A2 n2 c2, .slice A3 n3 c3]).after hbw
    obtain ⟨z0, z1, z2, z3, f0, f1, f2, f3, hz⟩ := hX.four
    go_wp2_with fail
    go_ret
    exact ⟨rfl, (HW.out _).trans (hbw.mono (by simp))⟩
set_option maxRecDepth 10000 in
set_option maxHeartbeats 2000000 in
theorem inner_zero (v : TV) (q : Quad) (w : World) (S : Nat → Prop) (h : VR w S q v) (ho : onlyT v = true) (h3 : v.tag ≠ 3) :
    Calls Try.prog 91 #[q.agg, .int .i64 0] w fun e w' => e = .returned (.int .i64 (innerI 0 v)) ∧ Below w.heap.size w w' := by
  obtain ⟨t, n, b, l, A2, A3, n2, c2, n3, c3, rfl, rfl, hu, hb, h2, hl⟩ := h.opens
  rw [innerI_zero ho h3, hb.len]
  have hl0 : n3 = 0 := by
    have hle := hl.len
    rw [onlyT_list ho h3] at hle
    exact hle.symm
  subst hl0
  dsimp only [Quad.agg]
  have HW : Hid (∀ o, Below w.heap.size w (w.alloc o)) := Lib.hid fun o => (Below.refl _ _).alloc (Nat.le_refl _) o
  have K := only_any (w.alloc (.cells #[.int .i64 t, .int .u64 (n : Int), .slice A2 n2 c2, .slice A3 0 c3] 27)) S _ _ (h.after (HW.out _))
  dsimp only [Quad.agg] at K
  rw [ho] at K
  have T3 : (t == 3) = false := by simpa [TV.tag] using h3
  have HK := Lib.hid K
  obtain ⟨L, hL, hL64, KL⟩ := len64_any n hu
  generalize (numE n).length = m at *
  have hm : m ≤ 8 := by omega
  obtain ⟨r, hr⟩ : ∃ r : Int, r = if 65535 < m + n2 then -1 else ((m + n2 : Nat) : Int) := ⟨_, rfl⟩
  rw [← hr]
  have HR := Lib.hid hr
  have HL := Lib.hid hL
  clear K hb hl h ho h3 hu hr hL
  go_enter Try.func91, Try.ntmps91
  go_wp2_with fail
  refine (HK.out).mono ?_
  rintro e w1 ⟨rfl, hbw⟩
  have hX := (Blk.new w 27 #[.int .i64 t, .int .u64 (n : Int), .slice A2 n2 c2, .slice A3 0 c3]).after hbw
  obtain ⟨z0, z1, z2, z3, f0, f1, f2, f3, hz⟩ := hX.four
  go_wp2_with fail
  go_quiet ((go_at_call 125; exact Calls.quiet_of_same (KL.out _)))
  go_wp2_with fail
  refine wp_loop_rounds 1 ?_
  rw [rounds_succ]
  go_wp2_with fail
  all_goals
    go_ret
    refine ⟨ret_int ?_, below_drewN ((HW.out _).trans (hbw.mono (by simp))) _⟩
    rw [HR.out]
    have := HL.out
    split <;> omega
set_option maxRecDepth 10000 in
set_option maxHeartbeats 4000000 in
theorem inner_succ (d : Nat) (hd : d ≤ 1000000) (ih : InnerSaid d) (v : TV) (q : Quad) (w : World) (S : Nat → Prop) (h : VR w S q v) (ho : onlyT v = true) :
    Calls Try.prog 91 #[q.agg, .int .i64 ((d + 1 : Nat) : Int)] w fun e w' => e = .returned (.int .i64 (innerI (d + 1) v)) ∧ Below w.heap.size w w' := by
  obtain ⟨t, n, b, l, A2, A3, n2, c2, n3, c3, rfl, rfl, hu, hb, h2, hl⟩ := h.opens
  have IH := Lib.hid ih
  obtain ⟨r, hr⟩ : ∃ r : Int, r = innerI (d + 1) (.mk t n b l) := ⟨_, rfl⟩
  rw [← hr]
  have hstop : ∀ k, (∀ x, formsT (putT d) (l.take k) = some x → 65535 < (numE n).length + n2 + x.length) → r = -1 := fun k h => by
    rw [hr]; exact innerI_stop (k := k) (by rw [hb.len]; exact h)
  have hfull : ∀ x, formsT (putT d) l = some x → r = if 65535 < (numE n).length + n2 + x.length then -1 else (((numE n).length + n2 + x.length : Nat) : Int) := fun x h => by
    rw [hr]; have := innerI_full ho h; rw [hb.len] at this; exact this
  dsimp only [Quad.agg]
  have HW : Hid (∀ o, Below w.heap.size w (w.alloc o)) := Lib.hid fun o => (Below.refl _ _).alloc (Nat.le_refl _) o
  have K := only_any (w.alloc (.cells #[.int .i64 t, .int .u64 (n : Int), .slice A2 n2 c2, .slice A3 n3 c3] 27)) S _ _ (h.after (HW.out _))
  dsimp only [Quad.agg] at K
  rw [ho] at K
  have HK := Lib.hid K
  have hf := hl.few
  obtain ⟨L, hL, hL64, KL⟩ := len64_any n hu
  generalize (numE n).length = m at *
  have hm : m ≤ 8 := by omega
  have HS := Lib.hid hstop
  have HF := Lib.hid hfull
  have HL := Lib.hid hL
  have T3 : (t == 3 && false) = false := by simp
  have D0 : (((d + 1 : Nat) : Int) == 0) = false := by simp; omega
  have D1 : ((d + 1 : Nat) : Int) - 1 = (d : Int) := by omega
  have D2 : ((d + 1 : Nat) : Int) ≤ 1000001 := by omega
  have D3 : (0 : Int) ≤ ((d + 1 : Nat) : Int) := by omega
  generalize ((d + 1 : Nat) : Int) = dd at *
  clear K hb h ho hu hr hL ih hstop hfull T3
  go_enter Try.func91, Try.ntmps91
  go_wp2_with fail
  refine (HK.out).mono ?_
  rintro e w1 ⟨rfl, hbw⟩
  have hX := (Blk.new w 27 #[.int .i64 t, .int .u64 (n : Int), .slice A2 n2 c2, .slice A3 n3 c3]).after hbw
  obtain ⟨z0, z1, z2, z3, f0, f1, f2, f3, hz⟩ := hX.four
  cases hT : (t == 3)
  all_goals
    go_wp2_with fail
    go_quiet ((go_at_call 125; exact Calls.quiet_of_same (KL.out _)))
    go_wp2_with fail
    have hbW : Below w.heap.size w (w1.drewN nq) := below_drewN ((HW.out _).trans (hbw.mono (by simp))) _
    generalize w1.drewN nq = W at hbW ⊢
    clear hT z0 z1 z2 z3 f0 f1 f2 f3 hz hX hbw HK w1
    go_loopw [5, 33] (fun nv i wr => ∃ k m' : Nat, k ≤ n3 ∧ i = .int .i64 (k : Int) ∧ nv = .int .i64 (m' : Int) ∧ m' ≤ 2000000000 ∧ Hid (∃ x, formsT (putT d) (l.take k) = some x ∧ m' = m + n2 + x.length) ∧ Hid (Below w.heap.size w wr)) (fun _ i _ => n3 - (intOf i).toNat)
    case atStart => exact ⟨0, (L + 7) / 8 + n2, Nat.zero_le _, rfl, by push_cast; rfl, by omega, Lib.hid ⟨[], by simp [formsT], by have := HL.out; simp; omega⟩, Lib.hid hbW⟩
    case round =>
      obtain ⟨k, m', hk, rfl, rfl, hm', hx, hbr⟩ := hrel
      by_cases hlt : k < n3
      · obtain ⟨ad1, p1, q1, v1, rfl, hp1, hv1, hr1, a0, a1, a2, a3, -, -⟩ := (hl.oldS.under (fun k h => h.2) hbr.out).at_ hlt
        have hlt' : (k : Int) < (n3 : Int) := by omega
        obtain ⟨u1, m1, x1', y1', P1, P2, i1, i2, i3, i4, rfl, rfl, -⟩ := hr1.opens
        have HC0 := IH.out _ _ (wr.alloc (.cells #[.int .i64 u1, .int .u64 (m1 : Int), .slice P1 i1 i2, .slice P2 i3 i4] 27)) _ (hr1.after ((Below.refl _ _).alloc (Nat.le_refl _) _))
        dsimp only [Quad.agg] at HC0
        cases hbt : bodyT d (.mk u1 m1 x1' y1') with
        | none =>
          rw [innerI_none hbt] at HC0
          have HC := Lib.hid HC0
          have hr : r = -1 := HS.out (k + 1) (fun x h => by
            rw [take_snoc hv1.out, formsT_snoc, putT_none hbt] at h
            simp at h)
          have HR := Lib.hid hr
          clear HC0 hbt hr hr1
          go_wp2_with fail
          refine (HC.out).mono ?_
          rintro e w2 ⟨rfl, hb2⟩
          go_wp2_with fail
          go_ret
          exact ⟨ret_int HR.out.symm, hbr.out.trans ((((Below.refl _ _).alloc (Nat.le_refl _) _).trans (hb2.mono (by simp))).mono hbr.out.size)⟩
        | some y =>
          rw [innerI_some hbt] at HC0
          have HC := Lib.hid HC0
          have hy := (bodyT_only hbt).2
          have hxs : ∃ x, formsT (putT d) (l.take (k + 1)) = some x ∧ m' + (3 + y.length) = m + n2 + x.length := by
            obtain ⟨x, h1, h2⟩ := hx.out
            refine ⟨x ++ (headT u1 y ++ y), ?_, ?_⟩
            · rw [take_snoc hv1.out, formsT_snoc, putT_some hbt, h1]; rfl
            · simp [headT]; omega
          have HX := Lib.hid hxs
          have HV := Lib.hid hbt
          clear HC0 hbt hr1 hxs hx
          generalize y.length = yn at *
          have hb9 : ∀ w2, Below (wr.alloc (.cells #[.int .i64 u1, .int .u64 (m1 : Int), .slice P1 i1 i2, .slice P2 i3 i4] 27)).heap.size (wr.alloc (.cells #[.int .i64 u1, .int .u64 (m1 : Int), .slice P1 i1 i2, .slice P2 i3 i4] 27)) w2 → Below w.heap.size w w2 := fun w2 hb2 =>
            hbr.out.trans ((((Below.refl _ _).alloc (Nat.le_refl _) _).trans (hb2.mono (by simp))).mono hbr.out.size)
          by_cases hov : 65535 < m' + (3 + yn)
          · have hr : r = -1 := HS.out (k + 1) (fun x h => by
              obtain ⟨x', h1, h2⟩ := HX.out
              rw [h1] at h
              injection h with h
              subst h
              omega)
            have HR := Lib.hid hr
            have ho1 : (65535 : Int) < (m' : Int) + (3 + (yn : Int)) := by omega
            clear hr hov
            go_wp2_with fail
            refine (HC.out).mono ?_
            rintro e w2 ⟨rfl, hb2⟩
            go_wp2_with fail
            go_ret
            exact ⟨ret_int HR.out.symm, hb9 _ hb2⟩
          · have ho1 : ¬ (65535 : Int) < (m' : Int) + (3 + (yn : Int)) := by omega
            clear hov
            go_wp2_with fail
            refine (HC.out).mono ?_
            rintro e w2 ⟨rfl, hb2⟩
            go_wp2_with fail
            exact ⟨⟨k + 1, m' + (3 + yn), by omega, by go_num, by push_cast; rfl, by omega, HX, Lib.hid (hb9 _ hb2)⟩, by simp [intOf]; omega⟩
      · obtain rfl : k = n3 := by omega
        obtain ⟨x, h1, h2⟩ := hx.out
        rw [List.take_of_length_le (by rw [hl.len]; omega)] at h1
        have hr := HF.out x h1
        rw [← h2] at hr
        have HR := Lib.hid hr
        clear hr h1 h2 x
        by_cases hov : 65535 < m'
        · have hov' : (65535 : Int) < (m' : Int) := by omega
          rw [if_pos hov] at HR
          clear hov
          go_wp2_with fail
          go_ret
          exact ⟨ret_int HR.out.symm, hbr.out⟩
        · have hov' : ¬ (65535 : Int) < (m' : Int) := by omega
          rw [if_neg hov] at HR
          clear hov
          go_wp2_with fail
          go_ret
          exact ⟨ret_int HR.out.symm, hbr.out⟩
theorem inner_any (d : Nat) (hd : d ≤ 1000000) : InnerSaid d := by
  induction d with
  | zero =>
    intro v q w S h
    cases ho : onlyT v with
    | false => exact inner_not 0 v q w S h hd (.inl ho)
    | true =>
      by_cases h3 : v.tag = 3
      · exact inner_not 0 v q w S h hd (.inr ⟨h3, rfl⟩)
      · exact inner_zero v q w S h ho h3
  | succ d ih =>
    intro v q w S h
    cases ho : onlyT v with
    | false => exact inner_not (d + 1) v q w S h hd (.inl ho)
    | true => exact inner_succ d (by omega) (ih (by omega)) v q w S h ho
/-- Is a value right? -/
def rightB (v : TV) : Bool := (bodyT 8 v).isSome
/-- The number of bytes of its form. -/
def sizeT (v : TV) : Nat := match bodyT 8 v with
  | none => 0
  | some x => x.length + 3
set_option maxRecDepth 10000 in
set_option maxHeartbeats 1000000 in
theorem right_any (v : TV) (q : Quad) (w : World) (S : Nat → Prop) (h : VR w S q v) :
    Calls Try.prog 47 #[q.agg] w fun e w' => e = .returned (.bool (rightB v)) ∧ Below w.heap.size w w' := by
  have HW : Hid (∀ o, Below w.heap.size w (w.alloc o)) := Lib.hid fun o => (Below.refl _ _).alloc (Nat.le_refl _) o
  have K := fun o => inner_any 8 (by omega) v q (w.alloc o) S (h.after (HW.out _))
  obtain ⟨t, n, b, l, A2, A3, n2, c2, n3, c3, rfl, rfl, hu, hb, h2, hl⟩ := h.opens
  dsimp only [Quad.agg] at K ⊢
  unfold rightB
  cases hi : bodyT 8 (.mk t n b l) with
  | none =>
    rw [innerI_none hi] at K
    have HK := Lib.hid K
    clear K hi hb hl h
    go_enter Try.func47, Try.ntmps47
    go_wp2_with fail
    refine (HK.out _).mono ?_
    rintro e w1 ⟨rfl, hbw⟩
    go_wp2_with fail
    go_ret
    exact ⟨rfl, (HW.out _).trans (hbw.mono (by simp))⟩
  | some x =>
    rw [innerI_some hi] at K
    have HK := Lib.hid K
    clear K hi hb hl h
    go_enter Try.func47, Try.ntmps47
    go_wp2_with fail
    refine (HK.out _).mono ?_
    rintro e w1 ⟨rfl, hbw⟩
    go_wp2_with fail
    go_ret
    exact ⟨ret_bool (by simp), (HW.out _).trans (hbw.mono (by simp))⟩
set_option maxRecDepth 10000 in
set_option maxHeartbeats 1000000 in
theorem size_any (v : TV) (q : Quad) (w : World) (S : Nat → Prop) (h : VR w S q v) :
    Calls Try.prog 30 #[q.agg] w fun e w' => e = .returned (.int .i64 (sizeT v : Int)) ∧ Below w.heap.size w w' := by
  have HW : Hid (∀ o, Below w.heap.size w (w.alloc o)) := Lib.hid fun o => (Below.refl _ _).alloc (Nat.le_refl _) o
  have K := fun o => inner_any 8 (by omega) v q (w.alloc o) S (h.after (HW.out _))
  obtain ⟨t, n, b, l, A2, A3, n2, c2, n3, c3, rfl, rfl, hu, hb, h2, hl⟩ := h.opens
  dsimp only [Quad.agg] at K ⊢
  unfold sizeT
  cases hi : bodyT 8 (.mk t n b l) with
  | none =>
    rw [innerI_none hi] at K
    have HK := Lib.hid K
    clear K hi hb hl h
    go_enter Try.func30, Try.ntmps30
    go_wp2_with fail
    refine (HK.out _).mono ?_
    rintro e w1 ⟨rfl, hbw⟩
    go_wp2_with fail
    go_ret
    exact ⟨rfl, (HW.out _).trans (hbw.mono (by simp))⟩
  | some x =>
    have hx := (bodyT_only hi).2
    rw [innerI_some hi] at K
    have HK := Lib.hid K
    clear K hi hb hl h
    dsimp only
    generalize x.length = xn at *
    go_enter Try.func30, Try.ntmps30
    go_wp2_with fail
    refine (HK.out _).mono ?_
    rintro e w1 ⟨rfl, hbw⟩
    go_wp2_with fail
    go_ret
    exact ⟨ret_int (by omega), (HW.out _).trans (hbw.mono (by simp))⟩
end Go.Proofs.Ytaebmhbggbpnoaa
