/- The walk of (*writer).value. Conditions: each theorem's premises. -/
import Derived.Test.YtaebmhbggbpnoaaTlv14
import Derived.Deep.RegionLaw
import Derived.Deep.DeepCutAuto
import Derived.BigRegion
namespace Go.Proofs.Ytaebmhbggbpnoaa
open Go.RowKit
def ValueSaid (d : Nat) : Prop := ∀ (v : TV) (q : Quad) (w : World) (g base n c : Nat) (A : Option Addr) (pre x : List UInt8), VR w (Lo g) q v → bodyT d v = some x → Blk w g 177 #[.slice A n c] →
    w.ownsRow base 5 1 (.slice A n c) n (u8s pre) → g < base → base ≤ w.heap.size → n + 3 + x.length ≤ 1000000000 →
    Calls Try.prog 96 #[.pointer (some ⟨g, 0, none⟩), q.agg] w fun e w' => ∃ A' c', e = .returned (.tuple #[]) ∧ Wr w (Value.slice A n c).ownBlock g base (pre ++ (headT v.tag x ++ x)) w' A' (n + 3 + x.length) c'
theorem reads_lit (w : World) (cs : Array Value) (t : TypeId) (n : Nat) (h : cs.size = n) : Reads (w.alloc (.cells cs t)) AnyB 1 (some ⟨w.heap.size, 0, none⟩) n cs.toList :=
  ⟨by simpa using h, fun _ => ⟨_, rfl, trivial, fun j u hu => by rw [add_plain, World.cell?_alloc_new]; simpa using hu⟩⟩
theorem one3 (a b c : Int) : ∀ u ∈ ([.int .u8 a, .int .u8 b, .int .u8 c] : List Value), u.oneCell' = true := by
  intro u hu
  simp at hu
  rcases hu with rfl | rfl | rfl <;> rfl
theorem one1 (a : Int) : ∀ u ∈ ([.int .u8 a] : List Value), u.oneCell' = true := by
  intro u hu
  simp at hu
  rcases hu with rfl
  rfl
theorem own_u8s {w : World} {base n : Nat} {v : Value} {a b : List UInt8} {bs : List Value} (h : w.ownsRow base 5 1 v n (u8s a ++ bs)) (hb : bs = u8s b) : w.ownsRow base 5 1 v n (u8s (a ++ b)) := by rw [u8s_append, ← hb]; exact h
theorem only_tag {t : Int} {n : Nat} {b : List UInt8} {l : List TV} (h : onlyT (.mk t n b l) = true) : 1 ≤ t ∧ t ≤ 3 := by
  simp only [onlyT] at h
  split at h
  · omega
  · split at h
    · omega
    · split at h
      · omega
      · cases h
theorem head_u8s {t : Int} (h1 : 1 ≤ t) (h3 : t ≤ 3) : ([.int .u8 (IntKind.u8.wrap t), .int .u8 0, .int .u8 0] : List Value) = u8s [UInt8.ofNat t.toNat, 0, 0] := by
  have : t = 1 ∨ t = 2 ∨ t = 3 := by omega
  rcases this with rfl | rfl | rfl <;> rfl
theorem byte_shr (m k : Nat) (s : Int) (hs : s = ((8 * k : Nat) : Int)) : ([.int .u8 (IntKind.u8.wrap ((m : Int) / 2 ^ s.toNat))] : List Value) = u8s [UInt8.ofNat (m / 256 ^ k)] := by
  subst hs
  have e : (m : Int) / 2 ^ ((8 * k : Nat) : Int).toNat = ((m / 256 ^ k : Nat) : Int) := by
    have h : (2 : Int) ^ (8 * k) = ((256 ^ k : Nat) : Int) := by rw [show (256 : Nat) = 2 ^ 8 from rfl, ← Nat.pow_mul]; push_cast; rfl
    rw [Int.toNat_natCast, h]
    exact (Int.natCast_ediv _ _).symm
  rw [e]
  simp only [u8s, u8v, List.map_cons, List.map_nil, UInt8.toNat_ofNat', IntKind.wrap_u8]
  congr 2
theorem body_split {d : Nat} {t : Int} {m : Nat} {b x : List UInt8} {l : List TV} (h : bodyT d (.mk t m b l) = some x) : ∃ y d', x = numE m ++ b ++ y ∧ formsT (putT d') l = some y ∧ (l ≠ [] → d = d' + 1) := by
  cases d with
  | zero =>
    unfold bodyT at h
    split at h
    · next h1 =>
      obtain ⟨rfl, _⟩ := fitT_some h
      have := onlyT_list h1.1 h1.2
      subst this
      exact ⟨[], 0, by simp, rfl, fun h => absurd rfl h⟩
    · cases h
  | succ d =>
    rw [bodyT_succ] at h
    split at h
    · rw [Option.bind_eq_some_iff] at h
      obtain ⟨y, h1, h2⟩ := h
      obtain ⟨rfl, _⟩ := fitT_some h2
      exact ⟨y, d, rfl, h1, fun _ => rfl⟩
    · cases h
theorem head_set {pre x : List UInt8} {t : Int} {n : Nat} (h : pre.length = n) : ((pre ++ [UInt8.ofNat t.toNat, 0, 0] ++ x).set (n + 1) (UInt8.ofNat (x.length / 256))).set (n + 2) (UInt8.ofNat (x.length % 256)) = pre ++ (headT t x ++ x) := by
  subst h
  rw [List.append_assoc, List.set_append_right _ _ (by omega), List.set_append_right _ _ (by omega)]
  congr 1
  rw [show pre.length + 1 - pre.length = 1 from by omega, show pre.length + 2 - pre.length = 2 from by omega]
  rfl
set_option maxRecDepth 10000 in
set_option maxHeartbeats 4000000 in
theorem value_step (d : Nat) (IH : ∀ d', d' < d → ValueSaid d') : ValueSaid d := by
  intro v q w g base n c A pre x hv hbd hblk hown hgb hbw hbig
  obtain ⟨t, m, b, l, A2, A3, n2, c2, n3, c3, rfl, rfl, hu, hb, h2, hl⟩ := hv.opens
  have hs0 : Wr w (Value.slice A n c).ownBlock g base pre w A n c := Wr.start hblk hown hgb hbw
  have hs1 := hs0.alloc (.cells #[.int .i64 t, .int .u64 (m : Int), .slice A2 n2 c2, .slice A3 n3 c3] 27)
  have hW0 : Blk (w.alloc (.cells #[.int .i64 t, .int .u64 (m : Int), .slice A2 n2 c2, .slice A3 n3 c3] 27)) w.heap.size 27 #[.int .i64 t, .int .u64 (m : Int), .slice A2 n2 c2, .slice A3 n3 c3] := Blk.new _ _ _
  obtain ⟨W, hW⟩ : ∃ W, W = w.alloc (.cells #[.int .i64 t, .int .u64 (m : Int), .slice A2 n2 c2, .slice A3 n3 c3] 27) := ⟨_, rfl⟩
  rw [← hW] at hs1 hW0
  have hrow : ∀ k, (Value.slice A n c).ownBlock = some k → base ≤ k := fun k h => (hs1.row_lt k h).1
  have hbox : some w.heap.size ≠ (Value.slice A n c).ownBlock := fun e => by have := (hs0.row_lt _ e.symm).2; omega
  have HR := Lib.hid (And.intro hrow hbox)
  have hS0 := Lib.hid hs1
  have hS := Lib.hid (Wr.start hs1.blk hs1.own hgb (Nat.le_trans hs1.bw hs1.size))
  have HW := Lib.hid hW
  have hBox := Lib.hid hW0
  dsimp only [Quad.agg]
  obtain ⟨y0, y1, y2⟩ := hs1.blk.one
  obtain ⟨v0, v1, v2⟩ := hs0.blk.one
  obtain ⟨z0, z1, z2, z3, f0, f1, f2, f3, hz⟩ := hW0.four
  clear hs1 hW hW0 hv hblk hown hs0 hrow hbox
  go_enter Try.func96, Try.ntmps96
  go_wp2_with fail
  have hW := HW.out
  rw [← hW]
  clear hW HW v0 v1 v2
  obtain ⟨i0, hi0, hj0, hj1, hj2⟩ := info_parts Try.info5
  obtain ⟨ht1, ht3⟩ := only_tag (bodyT_only hbd).1
  obtain ⟨y, dd, hxy, hfy, hdd⟩ := body_split hbd
  have hxl : x.length = (numE m).length + n2 + y.length := by rw [hxy]; simp only [List.length_append, hb.len]
  have hx16 := (bodyT_only hbd).2
  have HY := Lib.hid (And.intro hxy (And.intro hfy hdd))
  clear hbd hxy hfy hdd
  have hWs : base ≤ W.heap.size := Nat.le_trans hS.out.bw hS.out.size
  have hne : some g ≠ (Value.slice A n c).ownBlock := fun e => by have := (hS.out.row_lt g e.symm).1; omega
  have HNE := Lib.hid hne
  clear hne
  go_cut [4] (fun at_ wx => at_ = .int .i64 (n : Int) ∧ ∃ (A' : Option Addr) (c' : Nat), Hid (Wr W (Value.slice A n c).ownBlock g base (pre ++ [UInt8.ofNat t.toNat, 0, 0]) wx A' (n + 3) c'))
  case first =>
   go_region_law (first | (refine step_append_any _ rfl (.tmp 19) (.tmp 23) 22 rfl base 5 i0 _ 1 1 Try.underlying22 hi0 hj0 hj1 hj2 rfl (by omega) (.slice A n c) n (u8s pre) rfl (hS.out.drew.alloc _).own AnyB _ 3 3 [.int .u8 (IntKind.u8.wrap t), .int .u8 0, .int .u8 0] rfl (reads_lit W #[.int .u8 (IntKind.u8.wrap t), .int .u8 0, .int .u8 0] 5 3 rfl) (one3 _ _ _) (by simp only [maxLen]; omega) (by omega) (by simp; omega) ?_; intro v4 w4 hown4 hg4 hat4; go_must ((obtain ⟨A7, c7, rfl, hc7⟩ := own_shape hown4; have hB4 := (hS.out.drew.alloc (.cells #[.int .u8 (IntKind.u8.wrap t), .int .u8 0, .int .u8 0] 5)).blk.grown hg4 HNE.out; obtain ⟨k0, s0, hz4⟩ := hB4.one))))
   all_goals
    have hS1 := (hS.out.drew.alloc _).app (own_u8s (b := [UInt8.ofNat t.toNat, 0, 0]) hown4 (head_u8s ht1 ht3)) hg4 hat4
    have HS1 := Lib.hid hS1
    clear hS1
    go_wp2_with fail
    go_meet
    exact ⟨rfl, A7, c7, HS1⟩
  obtain ⟨rfl, A7, c7, HS1⟩ := hcut
  rename World => W2
  have hS1 := HS1.out
  have hB2 := hS1.keeps hBox.out (by omega) HR.out.2
  have HB2 := Lib.hid hB2
  clear hS1 y0 y1 y2 z0 z1 z2 z3 f0 f1 f2 f3 HNE
  obtain ⟨z0, z1, z2, z3, f0, f1, f2, f3, hz5⟩ := hB2.four
  clear hB2
  obtain ⟨L, hL, hL64, KL⟩ := len64_any m hu
  obtain ⟨mm, hmm⟩ : ∃ mm, mm = (numE m).length := ⟨_, rfl⟩
  rw [← hmm] at hL hxl
  have HM := Lib.hid hmm
  have hmm8 : mm ≤ 8 := by omega
  have HL := Lib.hid hL
  clear hL hmm
  go_wp2_with fail
  refine (KL.out _).mono ?_
  rintro e w5 ⟨rfl, rfl⟩
  go_wp2_with fail
  go_loopw [5] (fun s wr => ∃ (i : Nat) (A' : Option Addr) (c' : Nat), i ≤ mm ∧ s = .int .i64 ((8 * (mm - i) : Nat) : Int) ∧ Hid (Wr W (Value.slice A n c).ownBlock g base (pre ++ [UInt8.ofNat t.toNat, 0, 0] ++ (numE m).take i) wr A' (n + 3 + i) c')) (fun s _ => (intOf s).toNat)
  case atStart => exact ⟨0, A7, c7, Nat.zero_le _, by have := HL.out; congr 1; omega, by simpa using HS1⟩
  case round =>
    obtain ⟨i, A', c', him, rfl, hSr⟩ := hrel
    have HBr := hSr.out.keeps hBox.out (by omega) HR.out.2
    have HBR := Lib.hid HBr
    obtain ⟨z0, z1, z2, z3, f0, f1, f2, f3, hz6⟩ := HBr.four
    obtain ⟨y0, y1, y2⟩ := hSr.out.blk.one
    clear HBr
    by_cases hlt : i < mm
    · have hp : (0 : Int) < ((8 * (mm - i) : Nat) : Int) := by omega
      have hp2 : ((8 * (mm - i) : Nat) : Int) ≤ 64 := by omega
      have hp3 : (8 : Int) ≤ ((8 * (mm - i) : Nat) : Int) := by omega
      have hwr : base ≤ wr.heap.size := Nat.le_trans hSr.out.bw hSr.out.size
      have hne : some g ≠ (Value.slice A' (n + 3 + i) c').ownBlock := fun e => by have := (hSr.out.row_lt g e.symm).1; omega
      have HNE := Lib.hid hne
      clear hne
      obtain ⟨s8, hs8⟩ : ∃ s8 : Int, s8 = ((8 * (mm - 1 - i) : Nat) : Int) := ⟨_, rfl⟩
      have hw8 : IntKind.i64.wrap (((8 * (mm - i) : Nat) : Int) - 8) = s8 := by rw [IntKind.wrap_i64]; omega
      have h80 : 0 ≤ s8 := by omega
      have h81 : s8 ≤ 64 := by omega
      obtain ⟨bt, hbt⟩ : ∃ bt : Int, bt = IntKind.u8.wrap ((m : Int) / 2 ^ s8.toNat) := ⟨_, rfl⟩
      have HS8 := Lib.hid (And.intro hs8 hbt)
      clear hs8 
      generalize hsh : ((8 * (mm - i) : Nat) : Int) = sh at hp hp2 hp3 hw8 ⊢
      have HSH := Lib.hid hsh
      clear hsh hbt
      go_wp2_with fail
      go_region_law (first | (refine step_append_any _ rfl (.tmp 41) (.tmp 48) 22 rfl base 5 i0 _ 1 1 Try.underlying22 hi0 hj0 hj1 hj2 rfl (by omega) (.slice A' (n + 3 + i) c') (n + 3 + i) (u8s (pre ++ [UInt8.ofNat t.toNat, 0, 0] ++ (numE m).take i)) rfl (hSr.out.drew.alloc _).own AnyB _ 1 1 [.int .u8 (IntKind.u8.wrap ((m : Int) / 2 ^ s8.toNat))] rfl (reads_lit wr #[.int .u8 (IntKind.u8.wrap ((m : Int) / 2 ^ s8.toNat))] 5 1 rfl) (one1 _) (by simp only [maxLen]; omega) (by omega) (by simp; omega) ?_; intro v4 w4 hown4 hg4 hat4; go_must ((obtain ⟨A7, c7, rfl, _⟩ := own_shape hown4; have hB4 := (hSr.out.drew.alloc (.cells #[.int .u8 (IntKind.u8.wrap ((m : Int) / 2 ^ s8.toNat))] 5)).blk.grown hg4 HNE.out; obtain ⟨k0, s0, hz4⟩ := hB4.one))))
      all_goals
        go_wp2_with fail
        have hSn := (hSr.out.drew.alloc _).app (own_u8s (b := [UInt8.ofNat (m / 256 ^ (mm - 1 - i))]) hown4 (byte_shr m (mm - 1 - i) s8 HS8.out.1)) hg4 hat4
        have hta : (numE m).take (i + 1) = (numE m).take i ++ [UInt8.ofNat (m / 256 ^ (mm - 1 - i))] := by
          have := take_snoc (numE_at m i (by rw [← HM.out]; exact hlt))
          rw [← HM.out] at this
          exact this
        rw [List.append_assoc, ← hta] at hSn
        exact ⟨⟨i + 1, A7, c7, by omega, by rw [HS8.out.1]; congr 2; omega, Lib.hid hSn⟩, by have := HS8.out.1; have := HSH.out; simp [intOf]; omega⟩
    · obtain rfl : i = mm := by omega
      have hnn : (numE m).take i = numE m := List.take_of_length_le (by rw [← HM.out]; exact Nat.le_refl _)
      rw [hnn] at hSr
      clear hnn
      have hx1 : ((8 * (i - i) : Nat) : Int) = 0 := by simp
      rw [hx1]
      go_wp2_with fail
      have hne : some g ≠ (Value.slice A' (n + 3 + i) c').ownBlock := fun e => by have := (hSr.out.row_lt g e.symm).1; omega
      have HNE := Lib.hid hne
      clear hne
      have hrb := hb.below ((hS0.out.trans hSr.out).lo HR.out.1)
      have hwr : base ≤ wr.heap.size := Nat.le_trans hSr.out.bw hSr.out.size
      go_cut [4] (fun at_ wx => at_ = .int .i64 (n : Int) ∧ ∃ (A' : Option Addr) (c' : Nat), Hid (Wr W (Value.slice A n c).ownBlock g base (pre ++ [UInt8.ofNat t.toNat, 0, 0] ++ numE m ++ b) wx A' (n + 3 + i + n2) c'))
      case first =>
       go_region_law (first | (refine step_append_any _ rfl (.tmp 56) (.tmp 58) 22 rfl base 5 i0 _ 1 1 Try.underlying22 hi0 hj0 hj1 hj2 rfl (by omega) (.slice A' (n + 3 + i) c') (n + 3 + i) (u8s (pre ++ [UInt8.ofNat t.toNat, 0, 0] ++ numE m)) rfl hSr.out.drew.own (Lo g) A2 n2 c2 (u8s b) rfl hrb.drew.rd u8s_one (by simp only [maxLen]; omega) (by omega) (by simp; omega) ?_; intro v4 w4 hown4 hg4 hat4; go_must ((obtain ⟨A7, c7, rfl, _⟩ := own_shape hown4; have hB4 := hSr.out.drew.blk.grown hg4 HNE.out; obtain ⟨k0, s0, hz4⟩ := hB4.one))))
       all_goals
        have hS1 := hSr.out.drew.app (own_u8s (b := b) hown4 rfl) hg4 hat4
        have HS1 := Lib.hid hS1
        clear hS1
        go_wp2_with fail
        go_meet
        exact ⟨rfl, A7, c7, HS1⟩
      obtain ⟨rfl, A8, c8, HS8⟩ := hcut
      have hmf : ∀ (fn : Fn) (first cap : Array Value) (w : World), (Instr.makeFunc fn first cap).run Try.prog w = .ok (.func fn first cap) w := fun _ _ _ _ => rfl
      have hBc := HS8.out.keeps hBox.out (by omega) HR.out.2
      obtain ⟨z0, z1, z2, z3, f0, f1, f2, f3, hz6⟩ := hBc.four
      obtain ⟨y0, y1, y2⟩ := HS8.out.blk.one
      have hf := hl.few
      clear hBc hrb hwr HNE hSr
      go_wp2_with fail
      go_loopw [67] (fun s wr => ∃ (k : Nat) (A' : Option Addr) (c' : Nat) (yk : List UInt8), k ≤ n3 ∧ s = .int .i64 (k : Int) ∧ Hid (formsT (putT dd) (l.take k) = some yk) ∧ Hid (Wr W (Value.slice A n c).ownBlock g base (pre ++ [UInt8.ofNat t.toNat, 0, 0] ++ numE m ++ b ++ yk) wr A' (n + 3 + i + n2 + yk.length) c')) (fun s _ => n3 - (intOf s).toNat)
      case atStart => exact ⟨0, A8, c8, [], Nat.zero_le _, rfl, Lib.hid rfl, by simpa using HS8⟩
      case round =>
        obtain ⟨k, A', c', yk, hk, rfl, hfk, hSr⟩ := hrel
        obtain ⟨y0, y1, y2⟩ := hSr.out.blk.one
        have hwr : base ≤ wr.heap.size := Nat.le_trans hSr.out.bw hSr.out.size
        by_cases hlt : k < n3
        · obtain ⟨ad1, p1, q1, v1, rfl, hp1, hv1, hr1, a0, a1, a2, a3, -, -⟩ := (hl.lower ((hS0.out.trans hSr.out).lo HR.out.1)).at_ hlt
          have hlt' : (k : Int) < (n3 : Int) := by omega
          obtain ⟨z, hz1, hz2, hz3⟩ : ∃ z, bodyT dd v1 = some z ∧ formsT (putT dd) (l.take (k + 1)) = some (yk ++ (headT v1.tag z ++ z)) ∧ yk.length + 3 + z.length ≤ y.length := by
            obtain ⟨y', h1, h2⟩ := formsT_take HY.out.2.1 (k + 1)
            have h3 := h1
            rw [take_snoc hv1.out, formsT_snoc, hfk.out, Option.bind_some] at h3
            cases hb1 : bodyT dd v1 with
            | none => rw [putT_none hb1] at h3; cases h3
            | some z =>
              rw [putT_some hb1] at h3
              simp only [Option.map_some, Option.some.injEq] at h3
              subst h3
              exact ⟨z, rfl, h1, by simp [headT] at h2; omega⟩
          have hds : d = dd + 1 := HY.out.2.2 (by rintro rfl; have := hl.len; simp at this; omega)
          have HC0 := IH dd (by omega) v1 q1 (wr.alloc (.cells #[q1.a, q1.b, q1.c, q1.d] 27)) g base (n + 3 + i + n2 + yk.length) c' A' (pre ++ [UInt8.ofNat t.toNat, 0, 0] ++ numE m ++ b ++ yk) z (hr1.lower ((Below.refl _ _).alloc (by omega) _)) hz1 (hSr.out.alloc _).blk (hSr.out.alloc _).own hgb (by simp; omega) (by omega)
          have HC := Lib.hid HC0
          have HZ := Lib.hid hz2
          obtain ⟨u1, m1, x1', y1', P1, P2, i1, i2, i3, i4, rfl, rfl, -⟩ := hr1.opens
          dsimp only [Quad.agg] at HC
          clear HC0 hz1 hz2 hr1
          go_wp2_with fail
          refine (HC.out).mono ?_
          rintro e w2 ⟨A9, c9, rfl, hS9⟩
          have hSn := (hSr.out.alloc _).trans hS9
          rw [List.append_assoc] at hSn
          have HSn := Lib.hid hSn
          clear hSn hS9
          go_wp2_with fail
          refine ⟨⟨k + 1, A9, c9, yk ++ (headT u1 z ++ z), by omega, by go_num, HZ, ?_⟩, by simp [intOf]; omega⟩
          have e : n + 3 + i + n2 + (yk ++ (headT u1 z ++ z)).length = n + 3 + i + n2 + yk.length + 3 + z.length := by simp [headT]; omega
          rw [e]
          exact HSn
        · obtain rfl : k = n3 := by omega
          have hyk : yk = y := by
            have h1 := hfk.out
            rw [List.take_of_length_le (by rw [hl.len]; exact Nat.le_refl _), HY.out.2.1] at h1
            injection h1 with h1
            exact h1.symm
          subst hyk
          have hpl : pre.length = n := by have := hS0.out.own.1; simpa [u8s] using this
          have hn' : n + 3 + i + n2 + yk.length = n + 3 + x.length := by omega
          rw [hn'] at hSr y0
          have hxx : pre ++ [UInt8.ofNat t.toNat, 0, 0] ++ numE m ++ b ++ yk = pre ++ [UInt8.ofNat t.toNat, 0, 0] ++ x := by rw [HY.out.1]; simp
          rw [hxx] at hSr
          obtain ⟨r, c10, he, hrb, hrlt⟩ := hSr.out.own.form (by omega)
          cases he
          have HX := Lib.hid (And.intro hpl hxl)
          clear hpl hxl hxx hn'
          generalize hxn : x.length = xn at *
          have hw1 : IntKind.i64.wrap ((n : Int) + 1) = ((n + 1 : Nat) : Int) := by rw [IntKind.wrap_i64]; omega
          have hw2 : IntKind.i64.wrap ((n : Int) + 2) = ((n + 2 : Nat) : Int) := by rw [IntKind.wrap_i64]; omega
          have hl1 : ((n + 1 : Nat) : Int) < (n : Int) + 3 + (xn : Int) := by omega
          have hl2 : ((n + 2 : Nat) : Int) < (n : Int) + 3 + (xn : Int) := by omega
          have hl3 : (0 : Int) ≤ ((n + 1 : Nat) : Int) := by omega
          have hl4 : (0 : Int) ≤ ((n + 2 : Nat) : Int) := by omega
          have ha1 : ((n + 1 : Nat) : Int).toNat = n + 1 := by omega
          have ha2 : ((n + 2 : Nat) : Int).toNat = n + 2 := by omega
          generalize hg1 : ((n + 1 : Nat) : Int) = N1 at hw1 hl1 hl3 ha1
          generalize hg2 : ((n + 2 : Nat) : Int) = N2 at hw2 hl2 hl4 ha2
          have hz1 := hSr.out.own.frozenAt (n + 1)
          have hz2 := hSr.out.own.frozenAt (n + 2)
          obtain ⟨k1, hk1⟩ : ∃ u, wr.cell? ⟨r, n + 1, none⟩ = some u := by
            rw [hSr.out.own.cellAt (n + 1) (by omega)]
            exact ⟨_, List.getElem?_eq_getElem (by rw [hSr.out.own.1]; omega)⟩
          obtain ⟨k2, hk2⟩ : ∃ u, wr.cell? ⟨r, n + 2, none⟩ = some u := by
            rw [hSr.out.own.cellAt (n + 2) (by omega)]
            exact ⟨_, List.getElem?_eq_getElem (by rw [hSr.out.own.1]; omega)⟩
          clear hg1 hg2
          go_wp2_with fail
          go_region
          go_end0
          have hS1 := (hSr.out.stored (n + 1) (UInt8.ofNat (xn / 256))).stored (n + 2) (UInt8.ofNat (xn % 256))
          have e1 : ((n : Int) + 3 + (xn : Int) - (n : Int) - 3) / 256 = ((UInt8.ofNat (xn / 256)).toNat : Int) := by rw [UInt8.toNat_ofNat']; omega
          have e2 : ((n : Int) + 3 + (xn : Int) - (n : Int) - 3) % 256 = ((UInt8.ofNat (xn % 256)).toNat : Int) := by rw [UInt8.toNat_ofNat']; omega
          rw [e1, e2]
          have hfin := head_set (t := t) (x := x) HX.out.1
          rw [hxn] at hfin
          rw [hfin] at hS1
          exact ⟨_, _, rfl, by rw [hxn]; exact hS0.out.trans hS1.drew⟩
theorem value_any (d : Nat) : ValueSaid d := by
  induction d using Nat.strongRecOn with
  | _ d ih => exact value_step d ih
end Go.Proofs.Ytaebmhbggbpnoaa
