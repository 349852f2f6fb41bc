/- The walk of (*writer).value. Conditions: each theorem's premises. -/
import Derived.Test.YtaebmhbggbpnoaaGTlv14
import Derived.Deep.RegionLaw
import Derived.Deep.DeepCutAuto
import Derived.BigRegion
namespace Go.Proofs.Ytaebmhbggbpnoaa
open Go.RowKit
def ValueSaid (d : Nat) : Prop := ∀ (v : TV) (q : Quad) (w : World) (g base n c : Nat) (A : Option Addr) (pre x : List UInt8), VR w (Lo g) q v → bodyT d v = some x → Blk w g 177 #[.slice A n c] →
    w.ownsRow base 5 1 (.slice A n c) n (u8s pre) → g < base → base ≤ w.heap.size → n + 3 + x.length ≤ 1000000000 →
    Calls Try.prog 96 #[.pointer (some ⟨g, 0, none⟩), q.agg] w fun e w' => ∃ A' c', e = .returned (.tuple #[]) ∧ Wr w (Value.slice A n c).ownBlock g base (pre ++ (headT v.tag x ++ x)) w' A' (n + 3 + x.length) c'
theorem reads_lit (w : World) (cs : Array Value) (t : TypeId) (n : Nat) (h : cs.size = n) : Reads (w.alloc (.cells cs t)) AnyB 1 (some ⟨w.heap.size, 0, none⟩) n cs.toList :=
  ⟨by simpa using h, fun _ => ⟨_, rfl, trivial, fun j u hu => by rw [add_plain, World.cell?_alloc_new]; simpa using hu⟩⟩
theorem one3 (a b c : Int) : ∀ u ∈ ([.int .u8 a, .int .u8 b, .int .u8 c] : List Value), u.oneCell' = true := by
  intro u hu
  simp at hu
  rcases hu with rfl | rfl | rfl <;> rfl
theorem one1 (a : Int) : ∀ u ∈ ([.int .u8 a] : List Value), u.oneCell' = true := by
  intro u hu
  simp at hu
  rcases hu with rfl
  rfl
theorem own_u8s {w : World} {base n : Nat} {v : Value} {a b : List UInt8} {bs : List Value} (h : w.ownsRow base 5 1 v n (u8s a ++ bs)) (hb : bs = u8s b) : w.ownsRow base 5 1 v n (u8s (a ++ b)) := by rw [u8s_append, ← hb]; exact h
theorem only_tag {t : Int} {n : Nat} {b : List UInt8} {l : List TV} (h : onlyT (.mk t n b l) = true) : 1 ≤ t ∧ t ≤ 3 := by
  simp only [onlyT] at h
  split at h
  · omega
  · split at h
    · omega
    · split at h
      · omega
      · cases h
theorem head_u8s {t : Int} (h1 : 1 ≤ t) (h3 : t ≤ 3) : ([.int .u8 (IntKind.u8.wrap t), .int .u8 0, .int .u8 0] : List Value) = u8s [UInt8.ofNat t.toNat, 0, 0] := by
  have : t = 1 ∨ t = 2 ∨ t = 3 := by omega
  rcases this with rfl | rfl | rfl <;> rfl
theorem byte_shr (m k : Nat) (s : Int) (hs : s = ((8 * k : Nat) : Int)) : ([.int .u8 (IntKind.u8.wrap ((m : Int) / 2 ^ s.toNat))] : List Value) = u8s [UInt8.ofNat (m / 256 ^ k)] := by
  subst hs
  have e : (m : Int) / 2 ^ ((8 * k : Nat) : Int).toNat = ((m / 256 ^ k : Nat) : Int) := by
    have h : (2 : Int) ^ (8 * k) = ((256 ^ k : Nat) : Int) := by rw [show (256 : Nat) = 2 ^ 8 from rfl, ← Nat.pow_mul]; push_cast; rfl
    rw [Int.toNat_natCast, h]
    exact (Int.natCast_ediv _ _).symm
  rw [e]
  simp only [u8s, u8v, List.map_cons, List.map_nil, UInt8.toNat_ofNat', IntKind.wrap_u8]
  congr 2
theorem body_split {d : Nat} {t : Int} {m : Nat} {b x : List UInt8} {l : List TV} (h : bodyT d (.mk t m b l) = some x) : ∃ y d', x = numE m ++ b ++ y ∧ formsT (putT d') l = some y ∧ (l ≠ [] → d = d' + 1) := by
  cases d with
  | zero =>
    unfold bodyT at h
    split at h
    · next h1 =>
      obtain ⟨rfl, _⟩ := fitT_some h
      have := onlyT_list h1.1 h1.2
      subst this
      exact ⟨[], 0, by simp, rfl, fun h => absurd rfl h⟩
    · cases h
  | succ d =>
    rw [bodyT_succ] at h
    split at h
    · rw [Option.bind_eq_some_iff] at h
      obtain ⟨y, h1, h2⟩ := h
      obtain ⟨rfl, _⟩ := fitT_some h2
      exact ⟨y, d, rfl, h1, fun _ => rfl⟩
    · cases h
theorem head_set {pre x : List UInt8} {t : Int} {n : Nat} (h : pre.length = n) : ((pre ++ [UInt8.ofNat t.toNat, 0, 0] ++ x).set (n + 1) (UInt8.ofNat (x.length / 256))).set (n + 2) (UInt8.ofNat (x.length % 256)) = pre ++ (headT t x ++ x) := by
  subst h
  rw [List.append_assoc, List.set_append_right _ _ (by omega), List.set_append_right _ _ (by omega)]
  congr 1
  rw [show pre.length + 1 - pre.length = 1 from by omega, show pre.length + 2 - pre.length = 2 from by omega]
  rfl
set_option maxRecDepth 10000 in
set_option maxHeartbeats 4000000 in
theorem value_step (d : Nat) (IH : ∀ d', d' < d → ValueSaid d') : ValueSaid d := by
  intro v q w g base n c A pre x hv hbd hblk hown hgb hbw hbig
  obtain ⟨t, m, b, l, A2, A3, n2, c2, n3, c3, rfl, rfl, hu, hb, h2, hl⟩ := hv.opens
  have hs0 : Wr w (Value.slice A n c).ownBlock g base pre w A n c := Wr.start hblk hown hgb hbw
  have hs1 := hs0.alloc (.cells #[.int .i64 t, .int .u64 (m : Int), .slice A2 n2 c2, .slice A3 n3 c3] 27)
  have hW0 : Blk (w.alloc (.cells #[.int .i64 t, .int .u64 (m : Int), .slice A2 n2 c2, .slice A3 n3 c3] 27)) w.heap.size 27 #[.int .i64 t, .int .u64 (m : Int), .slice A2 n2 c2, .slice A3 n3 c3] := Blk.new _ _ _
  obtain ⟨W, hW⟩ : ∃ W, W = w.alloc (.cells #[.int .i64 t, .int .u64 (m : Int), .slice A2 n2 c2, .slice A3 n3 c3] 27) := ⟨_, rfl⟩
  rw [← hW] at hs1 hW0
  have hrow : ∀ k, (Value.slice A n c).ownBlock = some k → base ≤ k := fun k h => (hs1.row_lt k h).1
  have hbox : some w.heap.size ≠ (Value.slice A n c).ownBlock := fun e => by have := (hs0.row_lt _ e.symm).2; omega
  have HR := Lib.hid (And.intro hrow hbox)
  have hS0 := Lib.hid hs1
  have hS := Lib.hid (Wr.start hs1.blk hs1.own hgb (Nat.le_trans hs1.bw hs1.size))
  have HW := Lib.hid hW
  have hBox := Lib.hid hW0
  dsimp only [Quad.agg]
  obtain ⟨y0, y1, y2⟩ := hs1.blk.one
  obtain ⟨v0, v1, v2⟩ := hs0.blk.one
  obtain ⟨z0, z1, z2, z3, f0, f1, f2, f3, hz⟩ := hW0.four
  clear hs1 hW hW0 hv hblk hown hs0 hrow hbox
  go_enter Try.func96, Try.ntmps96
  go_wp2_with fail
  have hW := HW.out
  rw [← hW]
  clear hW HW v0 v1 v2
  obtain ⟨i0, hi0, hj0, hj1, hj2⟩ := info_parts Try.info5
  obtain ⟨ht1, ht3⟩ := only_tag (bodyT_only hbd).1
  obtain ⟨y, dd, hxy, hfy, hdd⟩ := body_split hbd
  have hxl : x.length = (numE m).length + n2 + y.length := by rw [hxy]; simp only [List.length_append, hb.len]
  have hx16 := (bodyT_only hbd).2
  have HY := Lib.hid (And.intro hxy (And.intro hfy hdd))
  clear hbd hxy hfy hdd
  have hWs : base ≤ W.heap.size := Nat.le_trans hS.out.bw hS.out.size
  have hne : some g ≠ (Value.slice A n c).ownBlock := fun e => by have := (hS.out.row_lt g e.symm).1; omega
  have HNE := Lib.hid hne
  clear hne
  go_cut [4] (fun at_ wx => at_ = .int .i64 (n : Int) ∧ ∃ (A' : Option Addr) (c' : Nat), Hid (Wr W (Value.slice A n c).ownBlock g base (pre ++ [UInt8.ofNat t.toNat, 0, 0]) wx A' (n + 3) c'))
  case first =>
   go_region_law (first | (refine step_append_any _ rfl (.tmp 19) (.tmp 23) 22 rfl base 5 i0 _ 1 1 Try.underlying22 hi0 hj0 hj1 hj2 rfl (by omega) (.slice A n c) n (u8s pre) rfl (hS.out.drew.alloc _).own AnyB _ 3 3 [.int .u8 (IntKind.u8.wrap t), .int .u8 0, .int .u8 0] rfl (reads_lit W #[.int .u8 (IntKind.u8.wrap t), .int .u8 0, .int .u8 0] 5 3 rfl) (one3 _ _ _) (by simp only [maxLen]; omega) (by omega) (by simp; omega) ?_; intro v4 w4 hown4 hg4 hat4; go_must ((obtain ⟨A7, c7, rfl, hc7⟩ := own_shape hown4; have hB4 := (hS.out.drew.alloc (.cells #[.int .u8 (IntKind.u8.wrap t), .int .u8 0, .int .u8 0] 5)).blk.grown hg4 HNE.out; obtain ⟨k0, s0, hz4⟩ := hB4.one))))
   all_goals
    have hS1 := (hS.out.drew.alloc _).app (own_u8s (b := [UInt8.ofNat t.toNat, 0, 0]) hown4 (head_u8s ht1 ht3)) hg4 hat4
    have HS1 := Lib.hid hS1
    clear hS1
    go_wp2_with fail
    go_meet
    exact ⟨rfl, A7, c7, HS1⟩
  obtain ⟨rfl, A7, c7, HS1⟩ := hcut
  rename World => W2
  have hS1 := HS1.out
  have hB2 := hS1.keeps hBox.out (by omega) HR.out.2
  have HB2 := Lib.hid hB2
  clear hS1 y0 y1 y2 z0 z1 z2 z3 f0 f1 f2 f3 HNE
  obtain ⟨z0, z1, z2, z3, f0, f1, f2, f3, hz5⟩ := hB2.four
  clear hB2
  obtain ⟨L, hL, hL64, KL⟩ := len64_any m hu
  obtain ⟨mm, hmm⟩ : ∃ mm, mm = (numE m).length := ⟨_, rfl⟩
  rw [← hmm] at hL hxl
  have HM := Lib.hid hmm
  have hmm8 : mm ≤ 8 := by omega
  have HL := Lib.hid hL
  clear hL hmm
  go_wp2_with fail
  refine (KL.out _).mono ?_
  rintro e w5 ⟨rfl, rfl⟩
  go_wp2_with fail
  go_loopw [5] (fun s wr => ∃ (i : Nat) (A' : Option Addr) (c' : Nat), i ≤ mm ∧ s = .int .i64 ((8 * (mm - i) : Nat) : Int) ∧ Hid (Wr W (Value.slice A n c).ownBlock g base (pre ++ [UInt8.ofNat t.toNat, 0, 0] ++ (numE m).take i) wr A' (n + 3 + i) c')) (fun s _ => (intOf s).toNat)
  case atStart => exact ⟨0, A7, c7, Nat.zero_le _, by have := HL.out; congr 1; omega, by simpa using HS1⟩
  case round =>
    obtain ⟨i, A', c', him, rfl, hSr⟩ := hrel
    have HBr := hSr.out.keeps hBox.out (by omega) HR.out.2
    have HBR := Lib.hid HBr
    obtain ⟨z0, z1, z2, z3, f0, f1, f2, f3, hz6⟩ := HBr.four
    obtain ⟨y0, y1, y2⟩ := hSr.out.blk.one
    clear HBr
    by_cases hlt : i < mm
    · have hp : (0 : Int) < ((8 * (mm - i) : Nat) : Int) := by omega
      have hp2 : ((8 * (mm - i) : Nat) : Int) ≤ 64 := by omega
      have hp3 : (8 : Int) ≤ ((8 * (mm - i) : Nat) : Int) := by omega
      have hwr : base ≤ wr.heap.size := Nat.le_trans hSr.out.bw hSr.out.size
      have hne : some g ≠ (Value.slice A' (n + 3 + i) c').ownBlock := fun e => by have := (hSr.out.row_lt g e.symm).1; omega
      have HNE := Lib.hid hne
      clear hne
      obtain ⟨s8, hs8⟩ : ∃ s8 : Int, s8 = ((8 * (mm - 1 - i) : Nat) : Int) := ⟨_, rfl⟩
      have hw8 : IntKind.i64.wrap (((8 * (mm - i) : Nat) : Int) - 8) = s8 := by rw [IntKind.wrap_i64]; omega
      have h80 : 0 ≤ s8 := by omega
      have h81 : s8 ≤ 64 := by omega
      obtain ⟨bt, hbt⟩ : ∃ bt : Int, bt = IntKind.u8.wrap ((m : Int) / 2 ^ s8.toNat) := ⟨_, rfl⟩
      have HS8 := Lib.hid (And.intro hs8 hbt)
      clear hs8 
      generalize hsh : ((8 * (mm - i) : Nat) : Int) = sh at hp hp2 hp3 hw8 ⊢
      have HSH := Lib.hid hsh
      clear hsh hbt
      go_wp2_with fail
      go_region_law (first | (refine step_append_any _ rfl (.tmp 41) (.tmp 48) 22 rfl base 5 i0 _ 1 1 Try.underlying22 hi0 hj0 hj1 hj2 rfl (by omega) (.slice A' (n + 3 + i) c') (n + 3 + i) (u8s (pre ++ [UInt8.ofNat t.toNat, 0, 0] ++ (numE m).take i)) rfl (hSr.out.drew.alloc _).own AnyB _ 1 1 [.int .u8 (IntKind.u8.wrap ((m : Int) / 2 ^ s8.toNat))] rfl (reads_lit wr #[.int .u8 (IntKind.u8.wrap ((m : Int) / 2 ^ s8.toNat))] 5 1 rfl) (one1 _) (by simp only [maxLen]; omega) (by omega) (by simp; omega) ?_; intro v4 w4 hown4 hg4 hat4; go_must ((obtain ⟨A7, c7, rfl, _⟩ := own_shape hown4; have hB4 := (hSr.out.drew.alloc (.cells #[.int .u8 (IntKind.u8.wrap ((m : Int) / 2 ^ s8.toNat))] 5)).blk.grown hg4 HNE.out; obtain ⟨k0, s0, hz4⟩ := hB4.one))))
      all_goals
        go_wp2_with fail
        have hSn := (hSr.out.drew.alloc _).app (own_u8s (b := [UInt8.ofNat (m / 256 ^ (mm - 1 - i))]) hown4 (byte_shr m (mm - 1 - i) s8 HS8.out.1)) hg4 hat4
        have hta : (numE m).take (i + 1) = (numE m).take i ++ [UInt8.ofNat (m / 256 ^ (mm - 1 - i))] := by
          have := take_snoc (numE_at m i (by rw [← HM.out]; exact hlt))
          rw [← HM.out] at this
          exact this
        rw [List.append_assoc, ← hta] at hSn
        exact ⟨⟨i + 1, A7, c7, by omega, by rw [HS8.out.1]; congr 2; omega, Lib.hid hSn⟩, by have := HS8.out.1; have := HSH.out; simp [intOf]; omega⟩
    · obtain rfl : i = mm := by omega
      have hnn : (numE m).take i = numE m := List.take_of_length_le (by rw [← HM.out]; exact Nat.le_refl _)
      rw [hnn] at hSr
      clear hnn
      have hx1 : ((8 * (i - i) : Nat) : Int) = 0 := by simp
      rw [hx1]
      go_wp2_with fail
      have hne : some g ≠ (Value.slice A' (n + 3 + i) c').ownBlock := fun e => by have := (hSr.out.row_lt g e.symm).1; omega
      have HNE := Lib.hid hne
      clear hne
      have hrb := hb.below ((hS0.out.trans hSr.out).lo HR.out.1)
      have hwr : base ≤ wr.heap.size := Nat.le_trans hSr.out.bw hSr.out.size
      go_cut [4] (fun at_ wx => at_ = .int .i64 (n : Int) ∧ ∃ (A' : Option Addr) (c' : Nat), Hid (Wr W (Value.slice A n c).ownBlock g base (pre ++ [UInt8.ofNat t.toNat, 0, 0] ++ numE m ++ b) wx A' (n + 3 + i + n2) c'))
      case first =>
       go_region_law (first | (refine step_append_any _ rfl (.tmp 56) (.tmp 58) 22 rfl base 5 i0 _ 1 1 Try.underlying22 hi0 hj0 hj1 hj2 rfl (by omega) (.slice A' (n + 3 + i) c') (n + 3 + i) (u8s (pre ++ [UInt8.ofNat t.toNat, 0, 0] ++ numE m)) rfl hSr.out.drew.own (Lo g) A2 n2 c2 (u8s b) rfl hrb.drew.rd u8s_one (by simp only [maxLen]; omega) (by omega) (by simp; omega) ?_; intro v4 w4 hown4 hg4 hat4; go_must ((obtain ⟨A7, c7, rfl, _⟩ := own_shape hown4; have hB4 := hSr.out.drew.blk.grown hg4 HNE.out; obtain ⟨k0, s0, hz4⟩ := hB4.one))))
       all_goals
        have hS1 := hSr.out.drew.app (own_u8s (b := b) hown4 rfl) hg4 hat4
        have HS1 := Lib.hid hS1
        clear hS1
        go_wp2_with fail
        go_meet
        exact ⟨rfl, A7, c7, HS1⟩
      obtain ⟨rfl, A8, c8, HS8⟩ := hcut
      have hmf : ∀ (fn : Fn) (first cap : Array Value) (w : World), (Instr.makeFunc fn first cap).run Try.prog w = .ok (.func fn first cap) w := fun _ _ _ _ => rfl
      have hBc := HS8.out.keeps hBox.out (by omega) HR.out.2
      obtain ⟨z0, z1, z2, z3, f0, f1, f2, f3, hz6⟩ := hBc.four
      obtain ⟨y0, y1, y2⟩ := HS8.out.blk.one
      have hf := hl.few
      clear hBc hrb hwr HNE hSr
      go_wp2_with fail
      go_loopw [67] (fun s wr => ∃ (k : Nat) (A' : Option Addr) (c' : Nat) (yk : List UInt8), k ≤ n3 ∧ s = .int .i64 (k : Int) ∧ Hid (formsT (putT dd) (l.take k) = some yk) ∧ Hid (Wr W (Value.slice A n c).ownBlock g base (pre ++ [UInt8.ofNat t.toNat, 0, 0] ++ numE m ++ b ++ yk) wr A' (n + 3 + i + n2 + yk.length) c')) (fun s _ => n3 - (intOf s).toNat)
      case atStart => exact ⟨0, A8, c8, [], Nat.zero_le _, rfl, Lib.hid rfl, by simpa using HS8⟩
      case round =>
        obtain ⟨k, A', c', yk, hk, rfl, hfk, hSr⟩ := hrel
        obtain ⟨y0, y1, y2⟩ := hSr.out.blk.one
        have hwr : base ≤ wr.heap.size := Nat.le_trans hSr.out.bw hSr.out.size
        by_cases hlt : k < n3
        · obtain ⟨ad1, p1, q1, v1, rfl, hp1, hv1, hr1, a0, a1, a2, a3, -, -⟩ := (hl.lower ((hS0.out.trans hSr.out).lo HR.out.1)).at_ hlt
          have hlt' : (k : Int) < (n3 : Int) := by omega
          obtain ⟨z, hz1, hz2, hz3⟩ : ∃ z, bodyT dd v1 = some z ∧ formsT (putT dd) (l.take (k + 1)) = some (yk ++ (headT v1.tag z ++ z)) ∧ yk.length + 3 + z.length ≤ y.length := by
            obtain ⟨y', h1, h2⟩ := formsT_take HY.out.2.1 (k + 1)
            have h3 := h1
            rw [take_snoc hv1.out, formsT_snoc, hfk.out, Option.bind_some] at h3
            cases hb1 : bodyT dd v1 with
            | none => rw [putT_none hb1] at h3; cases h3
            | some z =>
              rw [putT_some hb1] at h3
              simp only [Option.map_some, Option.some.injEq] at h3
              subst h3
              exact ⟨z, rfl, h1, by simp [headT] at h2; omega⟩
          have hds : d = dd + 1 := HY.out.2.2 (by rintro rfl; have := hl.len; simp at this; omega)
          have HC0 := IH dd (by omega) v1 q1 (wr.alloc (.cells #[q1.a, q1.b, q1.c, q1.d] 27)) g base (n + 3 + i + n2 + yk.length) c' A' (pre ++ [UInt8.ofNat t.toNat, 0, 0] ++ numE m ++ b ++ yk) z (hr1.lower ((Below.refl _ _).alloc (by omega) _)) hz1 (hSr.out.alloc _).blk (hSr.out.alloc _).own hgb (by simp; omega) (by omega)
          have HC := Lib.hid HC0
          have HZ := Lib.hid hz2
          obtain ⟨u1, m1, x1', y1', P1, P2, i1, i2, i3, i4, rfl, rfl, -⟩ := hr1.opens
          dsimp only [Quad.agg] at HC
          clear HC0 hz1 hz2 hr1
          go_wp2_with fail
          refine (HC.out).mono ?_
          rintro e w2 ⟨A9, c9, rfl, hS9⟩
          have hSn := (hSr.out.alloc _).trans hS9
          rw [List.append_assoc] at hSn
          have HSn := Lib.hid hSn
          clear hSn hS9
          go_wp2_with fail
          refine ⟨⟨k + 1, A9, c9, yk ++ (headT u1 z ++ z), by omega, by go_num, HZ, ?_⟩, by simp [intOf]; omega⟩
          have e : n + 3 + i + n2 + (yk ++ (headT u1 z ++ z)).length = n + 3 + i + n2 + yk.length + 3 + z.length := by simp [headT]; omega
          rw [e]
          exact HSn
        · obtain rfl : k = n3 := by omega
          have hyk : yk = y := by
            have h1 := hfk.out
            rw [List.take_of_length_le (by rw [hl.len]; exact Nat.le_refl _), HY.out.2.1] at h1
            injection h1 with h1
            exact h1.symm
          subst hyk
          have hpl : pre.length = n := by have := hS0.out.own.1; simpa [u8s] using this
          have hn' : n + 3 + i + n2 + yk.length = n + 3 + x.length := by omega
          rw [hn'] at hSr y0
          have hxx : pre ++ [UInt8.ofNat t.toNat, 0, 0] ++ numE m ++ b ++ yk = pre ++ [UInt8.ofNat t.toNat, 0, 0] ++ x := by rw [HY.out.1]; simp
          rw [hxx] at hSr
          obtain ⟨r, c10, he, hrb, hrlt⟩ := hSr.out.own.form (by omega)
          cases he
          have HX := Lib.hid (And.intro hpl hxl)
          clear hpl hxl hxx hn'
          generalize hxn : x.length = xn at *
          have hw1 : IntKind.i64.wrap ((n : Int) + 1) = ((n + 1 : Nat) : Int) := by rw [IntKind.wrap_i64]; omega
          have hw2 : IntKind.i64.wrap ((n : Int) + 2) = ((n + 2 : Nat) : Int) := by rw [IntKind.wrap_i64]; omega
          have hl1 : ((n + 1 : Nat) : Int) < (n : Int) + 3 + (xn : Int) := by omega
          have hl2 : ((n + 2 : Nat) : Int) < (n : Int) + 3 + (xn : Int) := by omega
          have hl3 : (0 : Int) ≤ ((n + 1 : Nat) : Int) := by omega
          have hl4 : (0 : Int) ≤ ((n + 2 : Nat) : Int) := by omega
          have ha1 : ((n + 1 : Nat) : Int).toNat = n + 1 := by omega
          have ha2 : ((n + 2 : Nat) : Int).toNat = n + 2 := by omega
          generalize hg1 : ((n + 1 : Nat) : Int) = N1 at hw1 hl1 hl3 ha1
          generalize hg2 : ((n + 2 : Nat) : Int) = N2 at hw2 hl2 hl4 ha2
          have hz1 := hSr.out.own.frozenAt (n + 1)
          have hz2 := hSr.out.own.frozenAt (n + 2)
          obtain ⟨k1, hk1⟩ : ∃ u, wr.cell? ⟨r, n + 1, none⟩ = some u := by
            rw [hSr.out.own.cellAt (n + 1) (by omega)]
            exact ⟨_, List.getElem?_eq_getElem (by rw [hSr.out.own.1]; omega)⟩
          obtain ⟨k2, hk2⟩ : ∃ u, wr.cell? ⟨r, n + 2, none⟩ = some u := by
            rw [hSr.out.own.cellAt (n + 2) (by omega)]
            exact ⟨_, List.getElem?_eq_getElem (by rw [hSr.out.own.1]; omega)⟩
          clear hg1 hg2
          go_wp2_with fail
          go_region
          go_end0
          have hS1 := (hSr.out.stored (n + 1) (UInt8.ofNat (xn / 256))).stored (n + 2) (UInt8.ofNat (xn % 256))
          have e1 : ((n : Int) + 3 + (xn : Int) - (n : Int) - 3) / 256 = ((UInt8.ofNat (xn / 256)).toNat : Int) := by rw [UInt8.toNat_ofNat']; omega
          have e2 : ((n : Int) + 3 + (xn : Int) - (n : Int) - 3) % 256 = ((UInt8.ofNat (xn % 256)).toNat : Int) := by rw [UInt8.toNat_ofNat']; omega
          rw [e1, e2]
          have hfin := head_set (t := t) (x := x) HX.out.1
          rw [hxn] at hfin
          rw [hfin] at hS1
          exact ⟨_, _, rfl, by rw [hxn]; exact hS0.out.trans hS1.drew⟩
theorem value_any (d : Nat) : ValueSaid d := by
  induction d using Nat.strongRecOn with
  | _ d ih => exact value_step d ih
end Go.Proofs.Ytaebmhbggbpnoaa
namespace Go.Proofs.Ytaebmhbggbpnoaa
open Go.RowKit
def PutPost (w : World) (o : Option (List UInt8)) (e : Ending) (w' : World) : Prop := match o with
  | none => e = .returned (.tuple #[.slice none 0 0, .int .i64 1]) ∧ Below w.heap.size w w'
  | some xs => ∃ A c, e = .returned (.tuple #[.slice A xs.length c, .int .i64 0]) ∧ Bs w' (fun k => w.heap.size ≤ k) A xs.length c xs ∧ xs.length ≤ 70000 ∧ Below w.heap.size w w'
set_option maxRecDepth 10000 in
set_option maxHeartbeats 1000000 in
theorem put_any (v : TV) (q : Quad) (w : World) (S : Nat → Prop) (h : VR w S q v) : Calls Try.prog 45 #[q.agg] w (PutPost w (putT 8 v)) := by
  have HW : Hid (∀ o, Below w.heap.size w (w.alloc o)) := Lib.hid fun o => (Below.refl _ _).alloc (Nat.le_refl _) o
  have K := fun o => right_any v q (w.alloc o) S (h.after (HW.out _))
  have HV := Lib.hid h.old
  cases hi : bodyT 8 v with
  | none =>
    rw [putT_none hi]
    have K2 := K
    unfold rightB at K2
    rw [hi] at K2
    have HK := Lib.hid K2
    clear K K2 hi
    obtain ⟨t, n, b, l, A2, A3, n2, c2, n3, c3, rfl, rfl, -⟩ := h.opens
    dsimp only [Quad.agg] at HK ⊢
    clear h HV
    go_enter Try.func45, Try.ntmps45
    go_wp2_with fail
    refine (HK.out _).mono ?_
    rintro e w1 ⟨rfl, hbw⟩
    go_wp2_with fail
    go_ret2
    exact ⟨rfl, (HW.out _).trans (hbw.mono (by simp))⟩
  | some x =>
    rw [putT_some hi]
    have K2 := K
    unfold rightB at K2
    rw [hi] at K2
    have HK := Lib.hid K2
    have hx := (bodyT_only hi).2
    have KV := fun (w1 : World) (hb : Below w.heap.size w w1) => value_any 8 v q (w1.alloc (.cells #[.slice none 0 0] 177)) w1.heap.size (w1.heap.size + 1) 0 0 none [] x
      ((HV.out.lower (hb.alloc hb.size _)).keep (fun _ _ _ => rfl) (fun k hk _ => by unfold Lo at *; have := hb.size; omega)) hi (Blk.new _ _ _) (World.ownsRow_nil _ _ _ _) (by omega) (by simp) (by omega)
    have HKV := Lib.hid KV
    have HX := Lib.hid (And.intro hx hi)
    clear K K2 hi KV HV hx
    obtain ⟨t, n, b, l, A2, A3, n2, c2, n3, c3, rfl, rfl, -⟩ := h.opens
    dsimp only [Quad.agg] at HK HKV ⊢
    clear h
    go_enter Try.func45, Try.ntmps45
    go_wp2_with fail
    refine (HK.out _).mono ?_
    rintro e w1 ⟨rfl, hbw⟩
    have hX := (Blk.new w 27 #[.int .i64 t, .int .u64 (n : Int), .slice A2 n2 c2, .slice A3 n3 c3]).after hbw
    obtain ⟨z0, z1, z2, z3, f0, f1, f2, f3, hz⟩ := hX.four
    have hb1 := (HW.out _).trans (hbw.mono (by simp))
    go_wp2_with fail
    refine (HKV.out w1 hb1).mono ?_
    rintro e w2 ⟨A', c', rfl, hW⟩
    obtain ⟨y0, y1, y2⟩ := hW.blk.one
    go_wp2_with fail
    go_ret2
    obtain ⟨A7, c7, he, hbs⟩ := own_bs hW.own
    cases he
    have hlen : (headT (TV.mk t n b l).tag x ++ x).length = 0 + 3 + x.length := by simp [headT]; omega
    refine ⟨A', c', by rw [hlen]; rfl, by rw [hlen]; exact hbs.mono (fun k hk => by have := hb1.size; omega), by rw [hlen]; have := HX.out.1; omega, ?_⟩
    have hlo := hW.lo (fun k h => by simp [Value.ownBlock] at h)
    exact (hb1.alloc hb1.size _).trans (hlo.mono hb1.size)
end Go.Proofs.Ytaebmhbggbpnoaa
namespace Go.Proofs.Ytaebmhbggbpnoaa
open Go.RowKit
def FormPost (w : World) (o : Option (List UInt8)) (e : Ending) (w' : World) : Prop := match o with
  | none => e = .returned (.tuple #[.slice none 0 0, .bool false]) ∧ Below w.heap.size w w'
  | some xs => ∃ A c, e = .returned (.tuple #[.slice A xs.length c, .bool true]) ∧ Bs w' (fun k => w.heap.size ≤ k) A xs.length c xs ∧ xs.length ≤ 70000 ∧ Below w.heap.size w w'
def FormSaid (d : Nat) : Prop := ∀ (v : TV) (q : Quad) (w : World) (S : Nat → Prop), VR w S q v → Calls Try.prog 97 #[q.agg, .int .i64 (d : Int)] w (FormPost w (putT d v))
theorem putT_not {d : Nat} {v : TV} (h : onlyT v = false) : putT d v = none := by
  cases hb : bodyT d v with
  | none => exact putT_none hb
  | some x => rw [(bodyT_only hb).1] at h; cases h
theorem bodyT_two {d n : Nat} {b : List UInt8} {l : List TV} (h : onlyT (.mk 2 n b l) = true) : bodyT d (.mk 2 n b l) = fitT b := by
  simp only [onlyT] at h
  simp at h
  obtain ⟨rfl, rfl⟩ := h
  cases d <;> simp [bodyT, onlyT, formsT, numE_zero]
theorem num_body' (d n : Nat) (h : n < 18446744073709551616) : bodyT d (.mk 1 n [] []) = some (numE n) := by
  have := numE_len8 n h
  cases d <;> simp [bodyT, onlyT, formsT, fitT] <;> omega
theorem bodyT_one {d n : Nat} {b : List UInt8} {l : List TV} (h : onlyT (.mk 1 n b l) = true) (hu : n < 18446744073709551616) : bodyT d (.mk 1 n b l) = some (numE n) := by
  simp only [onlyT] at h
  simp at h
  obtain ⟨rfl, rfl⟩ := h
  exact num_body' d n hu
/-- The head that is laid ahead of a body. -/
theorem own_head (w : World) (base : Nat) (hb : base ≤ w.heap.size) {t : Int} {x : List UInt8} {xn : Nat} (hx : x.length = xn) (hle : xn ≤ 65535) (h1 : 1 ≤ t) (h3 : t ≤ 3) :
    (w.alloc (.cells #[.int .u8 t, .int .u8 ((xn : Int) / 256), .int .u8 ((xn : Int) % 256)] 5)).ownsRow base 5 1 (.slice (some ⟨w.heap.size, 0, none⟩) 3 3) 3 (u8s (headT t x)) := by
  have e : u8s (headT t x) = [.int .u8 t, .int .u8 ((xn : Int) / 256), .int .u8 ((xn : Int) % 256)] := by
    simp only [u8s, u8v, headT, List.map_cons, List.map_nil, UInt8.toNat_ofNat', hx]
    have e1 : ((t.toNat % 2 ^ 8 : Nat) : Int) = t := by omega
    have e2 : ((xn / 256 % 2 ^ 8 : Nat) : Int) = (xn : Int) / 256 := by omega
    have e3 : ((xn % 256 % 2 ^ 8 : Nat) : Int) = (xn : Int) % 256 := by omega
    rw [e1, e2, e3]
  rw [e]
  exact World.ownsRow_lit w #[.int .u8 t, .int .u8 ((xn : Int) / 256), .int .u8 ((xn : Int) % 256)] 3 hb (by simp [maxLen]) rfl
theorem below_size {w w1 : World} {o : Obj} {B : Nat} (h : Below B (w.alloc o) w1) : w.heap.size + 1 ≤ w1.heap.size := by have := h.size; simpa using this
set_option maxRecDepth 10000 in
set_option maxHeartbeats 2000000 in
theorem form_other (d : Nat) (v : TV) (q : Quad) (w : World) (S : Nat → Prop) (h : VR w S q v) (h1 : v.tag ≠ 1) (h2 : v.tag ≠ 2) (h3 : v.tag ≠ 3) : Calls Try.prog 97 #[q.agg, .int .i64 (d : Int)] w (FormPost w (putT d v)) := by
  obtain ⟨t, n, b, l, A2, A3, n2, c2, n3, c3, rfl, rfl, hu, hb, hn2, hl⟩ := h.opens
  simp only [TV.tag] at h1 h2 h3
  have ho : onlyT (.mk t n b l) = false := by simp only [onlyT]; rw [if_neg h1, if_neg h2, if_neg h3]
  rw [putT_not ho]
  have T1 : (t == 1) = false := by simpa using h1
  have T2 : (t == 2) = false := by simpa using h2
  have T3 : (t == 3) = false := by simpa using h3
  have HW : Hid (∀ o, Below w.heap.size w (w.alloc o)) := Lib.hid fun o => (Below.refl _ _).alloc (Nat.le_refl _) o
  clear h1 h2 h3 ho hb hl h hu
  dsimp only [Quad.agg]
  go_enter Try.func97, Try.ntmps97
  go_wp2_with fail
  go_ret2
  exact ⟨rfl, HW.out _⟩
set_option maxRecDepth 10000 in
set_option maxHeartbeats 2000000 in
theorem form_two (d : Nat) (n : Nat) (b : List UInt8) (l : List TV) (q : Quad) (w : World) (S : Nat → Prop) (h : VR w S q (.mk 2 n b l)) : Calls Try.prog 97 #[q.agg, .int .i64 (d : Int)] w (FormPost w (putT d (.mk 2 n b l))) := by
  obtain ⟨t, n, b, l, A2, A3, n2, c2, n3, c3, rfl, he, hu, hb, hn2, hl⟩ := h.opens
  cases he
  have HW : Hid (∀ o, Below w.heap.size w (w.alloc o)) := Lib.hid fun o => (Below.refl _ _).alloc (Nat.le_refl _) o
  have HB : Hid (∀ o, Bs (w.alloc o) S A2 n2 c2 b) := Lib.hid fun o => hb.after (HW.out o)
  have hX := fun (w' : World) (hb : Below (w.alloc (.cells #[.int .i64 2, .int .u64 (n : Int), .slice A2 n2 c2, .slice A3 n3 c3] 33)).heap.size (w.alloc (.cells #[.int .i64 2, .int .u64 (n : Int), .slice A2 n2 c2, .slice A3 n3 c3] 33)) w') => ((Blk.new w 33 #[.int .i64 2, .int .u64 (n : Int), .slice A2 n2 c2, .slice A3 n3 c3]).after hb).four
  have HX := Lib.hid hX
  cases ho : onlyT (.mk 2 n b l) with
  | false =>
    rw [putT_not ho]
    have hor : n ≠ 0 ∨ (n = 0 ∧ 0 < n3) := by
      simp only [onlyT] at ho
      have := hl.len
      by_cases h0 : n = 0
      · refine .inr ⟨h0, ?_⟩
        cases l with
        | nil => simp [h0] at ho
        | cons x xs => simp at this; omega
      · exact .inl h0
    clear ho hb hl h hu hX
    dsimp only [Quad.agg]
    rcases hor with h0 | ⟨rfl, h0⟩
    · have h0' : ((n : Int) != 0) = true := by simp; omega
      go_enter Try.func97, Try.ntmps97
      go_wp2_with (at_builtin; go_must ((refine wpList_append_u8 (A := A2) (m := n2) (c := c2) (ys := b) (v := .slice none 0 0) (n := 0) (xs := []) rfl (.tmp 39) (.tmp 41) rfl rfl (World.ownsRow_nil _ (w.heap.size + 1) _ _ : World.ownsRow _ _ _ _ _ _ (u8s [])) rfl (HB.out _) (by omega) (by simp) ?_; intro v1 w1 hown hg hat; obtain ⟨A7, c7, rfl, _⟩ := own_shape hown; have hbb := (Below.refl (w.heap.size + 1) _).grown hg (by simp) (by simp [Value.ownBlock]); obtain ⟨z0, z1, z2, z3, -⟩ := HX.out _ (by simpa using hbb))))
      go_ret2
      exact ⟨rfl, (HW.out _).trans (hbb.mono (by omega))⟩
    · have h0' : (0 : Int) < (n3 : Int) := by omega
      go_enter Try.func97, Try.ntmps97
      go_wp2_with (at_builtin; go_must ((refine wpList_append_u8 (A := A2) (m := n2) (c := c2) (ys := b) (v := .slice none 0 0) (n := 0) (xs := []) rfl (.tmp 39) (.tmp 41) rfl rfl (World.ownsRow_nil _ (w.heap.size + 1) _ _ : World.ownsRow _ _ _ _ _ _ (u8s [])) rfl (HB.out _) (by omega) (by simp) ?_; intro v1 w1 hown hg hat; obtain ⟨A7, c7, rfl, _⟩ := own_shape hown; have hbb := (Below.refl (w.heap.size + 1) _).grown hg (by simp) (by simp [Value.ownBlock]); obtain ⟨z0, z1, z2, z3, -⟩ := HX.out _ (by simpa using hbb))))
      go_ret2
      exact ⟨rfl, (HW.out _).trans (hbb.mono (by omega))⟩
  | true =>
    have hbt := bodyT_two (d := d) ho
    have hor : n = 0 ∧ n3 = 0 := by
      simp only [onlyT] at ho
      have := hl.len
      simp at ho
      obtain ⟨rfl, rfl⟩ := ho
      exact ⟨rfl, this.symm⟩
    obtain ⟨rfl, rfl⟩ := hor
    have hbl := hb.len
    dsimp only [Quad.agg]
    by_cases hbig : n2 ≤ 65535
    · rw [putT_some (by rw [hbt]; unfold fitT; rw [if_pos (by omega)])]
      have hb1 : ¬ (65535 : Int) < (n2 : Int) := by omega
      clear hbt ho hb hl h hu hX
      go_enter Try.func97, Try.ntmps97
      go_wp2_with (at_builtin; first | (have _g := hown; go_must ((refine wpList_append_u8 (A := A7) (m := n2) (c := c7) (ys := b) (v := .slice (some ⟨w1.heap.size, 0, none⟩) 3 3) (n := 3) (xs := headT 2 b) rfl (.tmp 109) (.tmp 110) rfl rfl (own_head w1 (w.heap.size + 1) (below_size hbb) hbl hbig (by omega) (by omega)) rfl (hbs1.after ((Below.refl _ _).alloc (Nat.le_refl _) _)) (by omega) (by have := hbb.size; simp at this ⊢; omega) ?_; intro v2 w2 hown2 hg2 hat2; obtain ⟨A8, c8, rfl, _⟩ := own_shape hown2))) | (refine wpList_append_u8 (A := A2) (m := n2) (c := c2) (ys := b) (v := .slice none 0 0) (n := 0) (xs := []) rfl (.tmp 39) (.tmp 41) rfl rfl (World.ownsRow_nil _ (w.heap.size + 1) _ _ : World.ownsRow _ _ _ _ _ _ (u8s [])) rfl (HB.out _) (by omega) (by simp) ?_; intro v1 w1 hown hg hat; obtain ⟨A7, c7, rfl, _⟩ := own_shape hown; have hbb := (Below.refl (w.heap.size + 1) _).grown hg (by simp) (by simp [Value.ownBlock]); simp only [Nat.zero_add, List.nil_append] at hown ⊢; obtain ⟨z0, z1, z2, z3, -⟩ := HX.out _ (by simpa using hbb); obtain ⟨_, _, he, hbs1⟩ := own_bs hown; cases he))
      go_ret2
      obtain ⟨A9, c9, he, hbs2⟩ := own_bs hown2
      cases he
      have hlen : (headT 2 b ++ b).length = 3 + n2 := by simp [headT]; omega
      refine ⟨A8, c8, by rw [TV.tag, hlen]; rfl, by rw [TV.tag, hlen]; exact hbs2.mono (fun k hk => by omega), by rw [TV.tag, hlen]; omega, ?_⟩
      have hbw1 : Below (w.heap.size + 1) (w.alloc (.cells #[.int .i64 2, .int .u64 0, .slice A2 n2 c2, .slice A3 0 c3] 33)) w2 := (hbb.alloc (below_size hbb) _).grown hg2 (by have := hbb.size; simp at this ⊢; omega) (by intro k hk; simp [Value.ownBlock] at hk; have := hbb.size; simp at this; omega)
      exact (HW.out _).trans (hbw1.mono (by omega))
    · rw [putT_none (by rw [hbt]; unfold fitT; rw [if_neg (by omega)])]
      have hb1 : (65535 : Int) < (n2 : Int) := by omega
      clear hbt ho hb hl h hu hX
      go_enter Try.func97, Try.ntmps97
      go_wp2_with (at_builtin; go_must ((refine wpList_append_u8 (A := A2) (m := n2) (c := c2) (ys := b) (v := .slice none 0 0) (n := 0) (xs := []) rfl (.tmp 39) (.tmp 41) rfl rfl (World.ownsRow_nil _ (w.heap.size + 1) _ _ : World.ownsRow _ _ _ _ _ _ (u8s [])) rfl (HB.out _) (by omega) (by simp) ?_; intro v1 w1 hown hg hat; obtain ⟨A7, c7, rfl, _⟩ := own_shape hown; have hbb := (Below.refl (w.heap.size + 1) _).grown hg (by simp) (by simp [Value.ownBlock]); simp only [Nat.zero_add, List.nil_append] at hown ⊢; obtain ⟨z0, z1, z2, z3, -⟩ := HX.out _ (by simpa using hbb))))
      go_ret2
      exact ⟨rfl, (HW.out _).trans (hbb.mono (by omega))⟩
end Go.Proofs.Ytaebmhbggbpnoaa
namespace Go.Proofs.Ytaebmhbggbpnoaa
open Go.RowKit
theorem one_lit (w : World) (base : Nat) (hb : base ≤ w.heap.size) (n : Nat) : (w.alloc (.cells #[.int .u8 ((n : Int) % 256)] 5)).ownsRow base 5 1 (.slice (some ⟨w.heap.size, 0, none⟩) 1 1) 1 (u8s [UInt8.ofNat (n % 256)]) := by
  have e : u8s [UInt8.ofNat (n % 256)] = [.int .u8 ((n : Int) % 256)] := by
    simp only [u8s, u8v, List.map_cons, List.map_nil, UInt8.toNat_ofNat']
    have : ((n % 256 % 2 ^ 8 : Nat) : Int) = (n : Int) % 256 := by omega
    rw [this]
  rw [e]
  exact World.ownsRow_lit w #[.int .u8 ((n : Int) % 256)] 1 hb (by simp [maxLen]) rfl
set_option maxRecDepth 10000 in
set_option maxHeartbeats 4000000 in
theorem form_one (d : Nat) (n : Nat) (b : List UInt8) (l : List TV) (q : Quad) (w : World) (S : Nat → Prop) (h : VR w S q (.mk 1 n b l)) : Calls Try.prog 97 #[q.agg, .int .i64 (d : Int)] w (FormPost w (putT d (.mk 1 n b l))) := by
  obtain ⟨t, n, b, l, A2, A3, n2, c2, n3, c3, rfl, he, hu, hb, hn2, hl⟩ := h.opens
  cases he
  unfold u64ok at hu
  have HW : Hid (∀ o, Below w.heap.size w (w.alloc o)) := Lib.hid fun o => (Below.refl _ _).alloc (Nat.le_refl _) o
  obtain ⟨W, hW⟩ : ∃ W, W = w.alloc (.cells #[.int .i64 1, .int .u64 (n : Int), .slice A2 n2 c2, .slice A3 n3 c3] 33) := ⟨_, rfl⟩
  have hXW : Blk W w.heap.size 33 #[.int .i64 1, .int .u64 (n : Int), .slice A2 n2 c2, .slice A3 n3 c3] := by rw [hW]; exact Blk.new _ _ _
  have hsz : W.heap.size = w.heap.size + 1 := by rw [hW]; simp
  have hbW : Below w.heap.size w W := by rw [hW]; exact HW.out _
  have HXW := Lib.hid hXW
  have HW' := Lib.hid hW
  obtain ⟨r, hr⟩ : ∃ r, r = putT d (.mk 1 n b l) := ⟨_, rfl⟩
  rw [← hr]
  have hnone : 0 < n2 ∨ 0 < n3 → r = none := fun h => by
    rw [hr]
    refine putT_not ?_
    rw [onlyT_a hb hl]
    rcases h with h | h <;> simp [h]
  have hsome : n2 = 0 → n3 = 0 → r = some (headT 1 (numE n) ++ numE n) := fun h1 h2 => by
    rw [hr]
    have ho : onlyT (.mk 1 n b l) = true := by rw [onlyT_a hb hl]; simp [h1, h2]
    exact putT_some (bodyT_one ho hu)
  have HN := Lib.hid hnone
  have HS := Lib.hid hsome
  have h8 := numE_len8 n hu
  clear hr hnone hsome hXW hb hl h hW
  dsimp only [Quad.agg]
  go_enter Try.func97, Try.ntmps97
  go_wp2_with fail
  have hW := HW'.out
  rw [← hW]
  clear hW HW'
  go_loopw [6, 7] (fun sv nv wr => ∃ (cur : Nat) (A : Option Addr) (c : Nat) (ys : List UInt8), cur < 18446744073709551616 ∧ nv = .int .u64 (cur : Int) ∧ sv = .slice A ys.length c ∧ Hid (numE n = numE cur ++ ys) ∧ Hid (wr.ownsRow (w.heap.size + 1) 5 1 (.slice A ys.length c) ys.length (u8s ys)) ∧ Hid (Below (w.heap.size + 1) W wr)) (fun _ nv _ => (intOf nv).toNat)
  case atStart => exact ⟨n, none, 0, [], hu, rfl, rfl, Lib.hid (by simp), Lib.hid (World.ownsRow_nil _ _ _ _), Lib.hid (Below.refl _ _)⟩
  case round =>
    obtain ⟨cur, A, c, ys, hcu, rfl, rfl, hnn, hown, hbr⟩ := hrel
    obtain ⟨z0, z1, z2, z3, -⟩ := (HXW.out.below hbr.out (by omega)).four
    have hsr : w.heap.size + 1 ≤ wr.heap.size := by have := hbr.out.size; omega
    have hyl : ys.length ≤ 8 := by
      have h1 := congrArg List.length hnn.out
      simp at h1
      omega
    by_cases hc : 0 < cur
    · have hc' : (0 : Int) < (cur : Int) := by omega
      obtain ⟨_, _, he, hbs⟩ := own_bs hown.out
      cases he
      go_wp2_with (at_builtin; go_must ((refine wpList_append_u8 (A := A) (m := ys.length) (c := c) (ys := ys) (v := .slice (some ⟨wr.heap.size, 0, none⟩) 1 1) (n := 1) (xs := [UInt8.ofNat (cur % 256)]) rfl (.tmp 24) (.tmp 25) rfl rfl (one_lit wr (w.heap.size + 1) hsr cur) rfl (hbs.after ((Below.refl _ _).alloc (Nat.le_refl _) _)) (by omega) (by simp; omega) ?_; intro v2 w2 hown2 hg2 hat2; obtain ⟨A8, c8, rfl, _⟩ := own_shape hown2)))
      have hbw2 : Below (w.heap.size + 1) W w2 := (hbr.out.trans ((Below.refl _ wr).alloc hsr _)).grown hg2 (by simp; omega) (by intro k hk; simp [Value.ownBlock] at hk; omega)
      have hlen : ([UInt8.ofNat (cur % 256)] ++ ys).length = 1 + ys.length := by simp; omega
      refine ⟨⟨cur / 256, A8, c8, [UInt8.ofNat (cur % 256)] ++ ys, by omega, by congr 1, by rw [hlen], Lib.hid ?_, by rw [hlen]; exact Lib.hid hown2, Lib.hid hbw2⟩, by simp [intOf]; omega⟩
      rw [hnn.out, numE_pos (show cur ≠ 0 by omega)]
      simp
    · obtain rfl : cur = 0 := by omega
      have hys : numE n = ys := by have := hnn.out; rw [numE_zero] at this; simpa using this
      have HYS := Lib.hid hys
      clear hnn hys
      by_cases hb0 : 0 < n2
      · obtain rfl : r = none := HN.out (.inl hb0)
        have hb0' : (0 : Int) < (n2 : Int) := by omega
        go_wp2_with fail
        go_ret2
        exact ⟨rfl, hbW.trans (hbr.out.mono (by omega))⟩
      by_cases hl0 : 0 < n3
      · obtain rfl : r = none := HN.out (.inr hl0)
        have hb0' : ¬ (0 : Int) < (n2 : Int) := by omega
        have hl0' : (0 : Int) < (n3 : Int) := by omega
        go_wp2_with fail
        go_ret2
        exact ⟨rfl, hbW.trans (hbr.out.mono (by omega))⟩
      · obtain rfl : n2 = 0 := by omega
        obtain rfl : n3 = 0 := by omega
        obtain rfl : r = _ := HS.out rfl rfl
        obtain ⟨xn, hxn⟩ : ∃ xn, ys.length = xn := ⟨_, rfl⟩
        rw [hxn] at hown hyl ⊢
        obtain ⟨_, _, he, hbs1⟩ := own_bs hown.out
        cases he
        have hx1 : ¬ (65535 : Int) < (xn : Int) := by omega
        go_wp2_with (at_builtin; go_must ((refine wpList_append_u8 (A := A) (m := xn) (c := c) (ys := ys) (v := .slice (some ⟨wr.heap.size, 0, none⟩) 3 3) (n := 3) (xs := headT 1 ys) rfl (.tmp 109) (.tmp 110) rfl rfl (own_head wr (w.heap.size + 1) hsr hxn (by omega) (by omega) (by omega)) rfl (hbs1.after ((Below.refl _ _).alloc (Nat.le_refl _) _)) (by omega) (by simp; omega) ?_; intro v2 w2 hown2 hg2 hat2; obtain ⟨A8, c8, rfl, _⟩ := own_shape hown2)))
        go_ret2
        obtain ⟨A9, c9, he, hbs2⟩ := own_bs hown2
        cases he
        rw [HYS.out]
        have hlen : (headT 1 ys ++ ys).length = 3 + xn := by simp [headT]; omega
        have hbw2 : Below (w.heap.size + 1) W w2 := (hbr.out.trans ((Below.refl _ wr).alloc hsr _)).grown hg2 (by simp; omega) (by intro k hk; simp [Value.ownBlock] at hk; omega)
        exact ⟨A8, c8, by rw [hlen]; rfl, by rw [hlen]; exact hbs2.mono (fun k hk => by omega), by rw [hlen]; omega, hbW.trans (hbw2.mono (by omega))⟩
end Go.Proofs.Ytaebmhbggbpnoaa
namespace Go.Proofs.Ytaebmhbggbpnoaa
open Go.RowKit
theorem putT_stop {d k : Nat} {l : List TV} (h : ∀ x, formsT (putT d) (l.take k) = some x → 65535 < x.length) : putT (d + 1) (.mk 3 0 [] l) = none := by
  refine putT_none ?_
  rw [bodyT_succ]
  split
  · cases hf : formsT (putT d) l with
    | none => rfl
    | some y =>
      obtain ⟨x, h1, h2⟩ := formsT_take hf k
      have := h x h1
      simp only [Option.bind_some, fitT]
      rw [if_neg (by simp; omega)]
  · rfl
theorem putT_full {d : Nat} {l : List TV} {x : List UInt8} (h : formsT (putT d) l = some x) (hx : x.length ≤ 65535) : putT (d + 1) (.mk 3 0 [] l) = some (headT 3 x ++ x) := by
  refine putT_some ?_
  rw [bodyT_succ, if_pos (by simp [onlyT]), h]
  simp [fitT, numE_zero, hx]
set_option maxRecDepth 10000 in
set_option maxHeartbeats 2000000 in
theorem form_three_bad (d : Nat) (hd : d ≤ 1000000) (n : Nat) (b : List UInt8) (l : List TV) (q : Quad) (w : World) (S : Nat → Prop) (h : VR w S q (.mk 3 n b l)) (hbad : onlyT (.mk 3 n b l) = false ∨ d = 0) : Calls Try.prog 97 #[q.agg, .int .i64 (d : Int)] w (FormPost w (putT d (.mk 3 n b l))) := by
  obtain ⟨t, n, b, l, A2, A3, n2, c2, n3, c3, rfl, he, hu, hb, hn2, hl⟩ := h.opens
  cases he
  have HW : Hid (∀ o, Below w.heap.size w (w.alloc o)) := Lib.hid fun o => (Below.refl _ _).alloc (Nat.le_refl _) o
  have hr : putT d (.mk 3 n b l) = none := by
    rcases hbad with h | rfl
    · exact putT_not h
    · exact putT_none (by unfold bodyT; rw [if_neg (fun e => e.2 rfl)])
  rw [hr]
  rw [onlyT_a hb hl] at hbad
  clear hb hl h hu hr
  dsimp only [Quad.agg]
  by_cases h1 : n = 0
  · subst h1
    by_cases h2 : 0 < n2
    · have h2' : (0 : Int) < (n2 : Int) := by omega
      clear hbad
      go_enter Try.func97, Try.ntmps97
      go_wp2_with fail
      go_ret2
      exact ⟨rfl, HW.out _⟩
    · have h2' : ¬ (0 : Int) < (n2 : Int) := by omega
      have h3 : d = 0 := by
        rcases hbad with h | h
        · simp at h; omega
        · exact h
      subst h3
      clear hbad
      go_enter Try.func97, Try.ntmps97
      go_wp2_with fail
      go_ret2
      exact ⟨rfl, HW.out _⟩
  · have h1' : ((n : Int) != 0) = true := by simp; omega
    clear hbad
    go_enter Try.func97, Try.ntmps97
    go_wp2_with fail
    go_ret2
    exact ⟨rfl, HW.out _⟩
set_option maxRecDepth 10000 in
set_option maxHeartbeats 4000000 in
theorem form_three (d : Nat) (hd : d ≤ 1000000) (ih : FormSaid d) (l : List TV) (q : Quad) (w : World) (S : Nat → Prop) (h : VR w S q (.mk 3 0 [] l)) : Calls Try.prog 97 #[q.agg, .int .i64 ((d + 1 : Nat) : Int)] w (FormPost w (putT (d + 1) (.mk 3 0 [] l))) := by
  obtain ⟨t, n, b, l, A2, A3, n2, c2, n3, c3, rfl, he, hu, hb, hn2, hl⟩ := h.opens
  cases he
  have IH := Lib.hid ih
  have hb0 : n2 = 0 := hb.len.symm
  subst hb0
  have hf := hl.few
  obtain ⟨W, hW⟩ : ∃ W, W = w.alloc (.cells #[.int .i64 3, .int .u64 0, .slice A2 0 c2, .slice A3 n3 c3] 33) := ⟨_, rfl⟩
  have hXW : Blk W w.heap.size 33 #[.int .i64 3, .int .u64 0, .slice A2 0 c2, .slice A3 n3 c3] := by rw [hW]; exact Blk.new _ _ _
  have hsz : W.heap.size = w.heap.size + 1 := by rw [hW]; simp
  have hbW : Below w.heap.size w W := by rw [hW]; exact (Below.refl _ _).alloc (Nat.le_refl _) _
  have HXW := Lib.hid hXW
  have HW' := Lib.hid hW
  obtain ⟨r, hr⟩ : ∃ r, r = putT (d + 1) (.mk 3 0 [] l) := ⟨_, rfl⟩
  rw [← hr]
  have HS : Hid (∀ k, (∀ x, formsT (putT d) (l.take k) = some x → 65535 < x.length) → r = none) := Lib.hid fun k h => by rw [hr]; exact putT_stop h
  have HF : Hid (∀ x, formsT (putT d) l = some x → x.length ≤ 65535 → r = some (headT 3 x ++ x)) := Lib.hid fun x h hx => by rw [hr]; exact putT_full h hx
  have D0 : (((d + 1 : Nat) : Int) == 0) = false := by simp; omega
  have D1 : ((d + 1 : Nat) : Int) - 1 = (d : Int) := by omega
  have D2 : ((d + 1 : Nat) : Int) ≤ 1000001 := by omega
  have D3 : (0 : Int) ≤ ((d + 1 : Nat) : Int) := by omega
  generalize ((d + 1 : Nat) : Int) = dd at *
  clear hr hXW hb h hW ih hu hn2
  dsimp only [Quad.agg]
  go_enter Try.func97, Try.ntmps97
  go_wp2_with fail
  have hW := HW'.out
  rw [← hW]
  clear hW HW'
  go_loopw [6, 8] (fun sv iv wr => ∃ (k : Nat) (A : Option Addr) (c : Nat) (ys : List UInt8) (yn : Nat), k ≤ n3 ∧ iv = .int .i64 (k : Int) ∧ sv = .slice A yn c ∧ yn ≤ 140000 ∧ Hid (ys.length = yn ∧ formsT (putT d) (l.take k) = some ys) ∧ Hid (wr.ownsRow (w.heap.size + 1) 5 1 (.slice A yn c) yn (u8s ys)) ∧ Hid (Below (w.heap.size + 1) W wr)) (fun _ iv _ => n3 - (intOf iv).toNat)
  case atStart => exact ⟨0, none, 0, [], 0, Nat.zero_le _, rfl, rfl, by omega, Lib.hid ⟨rfl, rfl⟩, Lib.hid (World.ownsRow_nil _ _ _ _), Lib.hid (Below.refl _ _)⟩
  case round =>
    obtain ⟨k, A, c, ys, yn, hk, rfl, rfl, hyn, hfy, hown, hbr⟩ := hrel
    obtain ⟨z0, z1, z2, z3, -⟩ := (HXW.out.below hbr.out (by omega)).four
    have hsr : w.heap.size + 1 ≤ wr.heap.size := by have := hbr.out.size; omega
    have hbw := hbW.trans (hbr.out.mono (by omega))
    by_cases hlt : k < n3
    · have hlt' : (k : Int) < (n3 : Int) := by omega
      obtain ⟨ad1, p1, q1, v1, rfl, hp1, hv1, hr1, a0, a1, a2, a3, -, -⟩ := (hl.oldS.under (fun k h => h.2) hbw).at_ hlt
      have HC0 := IH.out v1 q1 wr _ hr1
      obtain ⟨u1, m1, x1', y1', P1, P2, i1, i2, i3, i4, rfl, rfl, -⟩ := hr1.opens
      dsimp only [Quad.agg] at HC0
      cases hbt : putT d (.mk u1 m1 x1' y1') with
      | none =>
        rw [hbt] at HC0
        have HC := Lib.hid HC0
        have hr : r = none := HS.out (k + 1) (fun x h => by
          rw [take_snoc hv1.out, formsT_snoc, hbt] at h
          simp at h)
        have HR := Lib.hid hr
        clear HC0 hbt hr hr1
        go_wp2_with fail
        refine (HC.out).mono ?_
        rintro e w2 ⟨rfl, hb2⟩
        go_wp2_with fail
        go_ret2
        rw [HR.out]
        exact ⟨rfl, hbw.trans (hb2.mono hbw.size)⟩
      | some x =>
        rw [hbt] at HC0
        have HC := Lib.hid HC0
        have hxs : formsT (putT d) (l.take (k + 1)) = some (ys ++ x) := by
          rw [take_snoc hv1.out, formsT_snoc, hbt, hfy.out.2]; rfl
        have HX := Lib.hid hxs
        clear HC0 hbt hr1 hxs
        by_cases hov : 65535 < yn
        · have hr : r = none := HS.out k (fun x h => by
            rw [hfy.out.2] at h
            injection h with h
            rw [← h, hfy.out.1]; exact hov)
          have HR := Lib.hid hr
          have hov' : (65535 : Int) < (yn : Int) := by omega
          clear hr hov
          go_wp2_with fail
          refine (HC.out).mono ?_
          rintro e w2 ⟨A1, c1, rfl, hbs, hxl, hb2⟩
          go_wp2_with fail
          go_ret2
          rw [HR.out]
          exact ⟨rfl, hbw.trans (hb2.mono hbw.size)⟩
        · have hov' : ¬ (65535 : Int) < (yn : Int) := by omega
          obtain ⟨xn, hxn⟩ : ∃ xn, x.length = xn := ⟨_, rfl⟩
          go_wp2_with fail
          refine (HC.out).mono ?_
          rintro e w2 ⟨A1, c1, rfl, hbs, hxl, hb2⟩
          rw [hxn] at hbs hxl ⊢
          go_wp2_with (at_builtin; go_must ((refine wpList_append_u8 (A := A1) (m := xn) (c := c1) (ys := x) (v := .slice A yn c) (n := yn) (xs := ys) rfl (.tmp 92) (.tmp 93) rfl rfl (own_below hown.out hb2 (Nat.le_refl _)) rfl hbs (by omega) (by have := hb2.size; omega) ?_; intro v3 w3 hown3 hg3 hat3; obtain ⟨A8, c8, rfl, _⟩ := own_shape hown3)))
          have hrow : ∀ j, (Value.slice A yn c).ownBlock = some j → w.heap.size + 1 ≤ j := fun j hj => (hown.out.lt j hj).1
          have hbw3 : Below (w.heap.size + 1) W w3 := (hbr.out.trans (hb2.mono hsr)).grown hg3 (by have := hb2.size; omega) hrow
          go_roundw
          case rel =>
            refine ⟨_, _, _, _, _, _, _, _, _, _, _, _, _, _, _, _, _, _, _, _, _, _, _, _, _, _, _, _, _, _, _, _, _, _, ?_, rfl⟩
            exact ⟨k + 1, A8, c8, ys ++ x, yn + xn, by omega, by go_num, rfl, by omega, Lib.hid ⟨by simp [hfy.out.1, hxn], HX.out⟩, Lib.hid hown3, Lib.hid hbw3⟩
          case measure => simp [intOf]; omega
    · obtain rfl : k = n3 := by omega
      have hfy2 := hfy.out
      rw [List.take_of_length_le (by rw [hl.len]; exact Nat.le_refl _)] at hfy2
      obtain ⟨hyl, hff⟩ := hfy2
      by_cases hov : 65535 < yn
      · have hr : r = none := HS.out k (fun x h => by
          rw [hfy.out.2] at h
          injection h with h
          rw [← h, hyl]; exact hov)
        have HR := Lib.hid hr
        have hov' : (65535 : Int) < (yn : Int) := by omega
        clear hr hov
        go_wp2_with fail
        go_ret2
        rw [HR.out]
        exact ⟨rfl, hbw⟩
      · have hr := HF.out ys hff (by omega)
        have HR := Lib.hid hr
        have hov' : ¬ (65535 : Int) < (yn : Int) := by omega
        have hle : yn ≤ 65535 := by omega
        clear hr hov hff
        obtain ⟨_, _, he, hbs1⟩ := own_bs hown.out
        cases he
        go_wp2_with (at_builtin; go_must ((refine wpList_append_u8 (A := A) (m := yn) (c := c) (ys := ys) (v := .slice (some ⟨wr.heap.size, 0, none⟩) 3 3) (n := 3) (xs := headT 3 ys) rfl (.tmp 109) (.tmp 110) rfl rfl (own_head wr (w.heap.size + 1) hsr hyl hle (by omega) (by omega)) rfl (hbs1.after ((Below.refl _ _).alloc (Nat.le_refl _) _)) (by omega) (by simp; omega) ?_; intro v2 w2 hown2 hg2 hat2; obtain ⟨A8, c8, rfl, _⟩ := own_shape hown2)))
        go_ret2
        obtain ⟨A9, c9, he, hbs2⟩ := own_bs hown2
        cases he
        rw [HR.out]
        have hlen : (headT 3 ys ++ ys).length = 3 + yn := by simp [headT]; omega
        have hbw2 : Below (w.heap.size + 1) W w2 := (hbr.out.trans ((Below.refl _ wr).alloc hsr _)).grown hg2 (by simp; omega) (by intro k hk; simp [Value.ownBlock] at hk; omega)
        exact ⟨A8, c8, by rw [hlen]; rfl, by rw [hlen]; exact hbs2.mono (fun k hk => by omega), by rw [hlen]; omega, hbW.trans (hbw2.mono (by omega))⟩
theorem form_any (d : Nat) (hd : d ≤ 1000000) : FormSaid d := by
  induction d with
  | zero =>
    intro v q w S h
    obtain ⟨t, n, b, l⟩ := v
    by_cases h1 : t = 1
    · subst h1; exact form_one 0 n b l q w S h
    by_cases h2 : t = 2
    · subst h2; exact form_two 0 n b l q w S h
    by_cases h3 : t = 3
    · subst h3; exact form_three_bad 0 (by omega) n b l q w S h (.inr rfl)
    · exact form_other 0 _ q w S h h1 h2 h3
  | succ d ih =>
    intro v q w S h
    obtain ⟨t, n, b, l⟩ := v
    by_cases h1 : t = 1
    · subst h1; exact form_one (d + 1) n b l q w S h
    by_cases h2 : t = 2
    · subst h2; exact form_two (d + 1) n b l q w S h
    by_cases h3 : t = 3
    · subst h3
      cases ho : onlyT (.mk 3 n b l) with
      | false => exact form_three_bad (d + 1) hd n b l q w S h (.inl ho)
      | true =>
        simp only [onlyT] at ho
        simp at ho
        obtain ⟨rfl, rfl⟩ := ho
        exact form_three d (by omega) (ih (by omega)) l q w S h
    · exact form_other (d + 1) _ q w S h h1 h2 h3
set_option maxRecDepth 10000 in
set_option maxHeartbeats 1000000 in
theorem rput_any (v : TV) (q : Quad) (w : World) (S : Nat → Prop) (h : VR w S q v) : Calls Try.prog 46 #[q.agg] w (PutPost w (putT 8 v)) := by
  have HW : Hid (∀ o, Below w.heap.size w (w.alloc o)) := Lib.hid fun o => (Below.refl _ _).alloc (Nat.le_refl _) o
  have K := fun o => form_any 8 (by omega) v q (w.alloc o) S (h.after (HW.out _))
  obtain ⟨t, n, b, l, A2, A3, n2, c2, n3, c3, rfl, rfl, -⟩ := h.opens
  dsimp only [Quad.agg] at K ⊢
  clear h
  cases hi : putT 8 (.mk t n b l) with
  | none =>
    rw [hi] at K
    have HK := Lib.hid K
    clear K hi
    go_enter Try.func46, Try.ntmps46
    go_wp2_with fail
    refine (HK.out _).mono ?_
    rintro e w1 ⟨rfl, hbw⟩
    go_wp2_with fail
    go_ret2
    exact ⟨rfl, (HW.out _).trans (hbw.mono (by simp))⟩
  | some x =>
    rw [hi] at K
    have HK := Lib.hid K
    clear K hi
    go_enter Try.func46, Try.ntmps46
    go_wp2_with fail
    refine (HK.out _).mono ?_
    rintro e w1 ⟨A1, c1, rfl, hbs, hxl, hbw⟩
    go_wp2_with fail
    go_ret2
    exact ⟨A1, c1, rfl, hbs.mono (fun k hk => by simp at hk; omega), hxl, (HW.out _).trans (hbw.mono (by simp))⟩
end Go.Proofs.Ytaebmhbggbpnoaa
