/- Walks of package tlv: reading a value (the head's split, numbers, bytes). Conditions: each theorem's premises. -/
import Derived.Test.YtaebmhbggbpnoaaTlv1
namespace Go.Proofs.Ytaebmhbggbpnoaa
open Go.RowKit
/-- What reading a value leaves. -/
def ReadPost (w : World) (S : Nat → Prop) : Option (TV × List UInt8) → Ending → World → Prop
  | none => fun e w' => e = .returned (.tuple #[.agg #[.int .i64 0, .int .u64 0, .slice none 0 0, .slice none 0 0], .slice none 0 0, .bool false]) ∧ Below w.heap.size w w'
  | some (v, rest) => fun e w' => ∃ q A n c, e = .returned (.tuple #[q.agg, .slice A n c, .bool true]) ∧ VR w' (fun k => w.heap.size ≤ k) q v ∧ Bs w' S A n c rest ∧ n ≤ 1000000000 ∧ Below w.heap.size w w'
def ReadSaid (d : Nat) : Prop := ∀ (w : World) (S : Nat → Prop) (A : Option Addr) (n c : Nat) (bs : List UInt8), Bs w S A n c bs → n ≤ 1000000000 → Calls Try.prog 87 #[.slice A n c, .int .i64 (d : Int)] w (ReadPost w S (readT d bs))
/-- The call of split, where there is no head. -/
theorem split_call_none {bs : List UInt8} (hs : splitT bs = none) (W : World) (S : Nat → Prop) (A : Option Addr) (n c : Nat) (hx : Bs W S A n c bs) (hn : n ≤ 1000000000) :
    Calls Try.prog 123 #[.slice A n c] W fun e w' => e = .returned (.tuple #[.int .i64 0, .slice none 0 0, .slice none 0 0, .bool false]) ∧ Below W.heap.size W w' := by
  have hq : ∀ (e : Ending) (w' : World), (e = .returned (.tuple #[.int .i64 0, .slice none 0 0, .slice none 0 0, .bool false]) ∧ ∃ k, w' = W.drewN k) → e = .returned (.tuple #[.int .i64 0, .slice none 0 0, .slice none 0 0, .bool false]) ∧ Below W.heap.size W w' := by
    rintro e w' ⟨he, k, rfl⟩
    exact ⟨he, below_drewN (Below.refl _ _) _⟩
  have hl := hx.len
  match bs, hs, hl with
  | [], _, hl => exact (split_short W A n c (by simp at hl; omega)).mono hq
  | [_], _, hl => exact (split_short W A n c (by simp at hl; omega)).mono hq
  | [_, _], _, hl => exact (split_short W A n c (by simp at hl; omega)).mono hq
  | t :: h :: l :: xs, hs, _ =>
    refine (split_long W S A n c t h l xs hx hn ?_).mono hq
    simp only [splitT] at hs
    split at hs
    · cases hs
    · omega
/-- The call of split, where there is a head. -/
theorem split_call {bs inn rest : List UInt8} {t : Nat} (hs : splitT bs = some (t, inn, rest)) (W : World) (S : Nat → Prop) (A : Option Addr) (n c : Nat) (hx : Bs W S A n c bs) (hn : n ≤ 1000000000) :
    Calls Try.prog 123 #[.slice A n c] W fun e w' => ∃ A1 n1 c1 A2 n2 c2, e = .returned (.tuple #[.int .i64 (t : Int), .slice A1 n1 c1, .slice A2 n2 c2, .bool true]) ∧
      Bs w' S A1 n1 c1 inn ∧ Bs w' S A2 n2 c2 rest ∧ n1 ≤ 65535 ∧ n2 ≤ 1000000000 ∧ Below W.heap.size W w' := by
  match bs, hs with
  | t' :: h :: l :: xs, hs =>
    have hl := hx.len
    simp only [List.length_cons] at hl
    have b1 := h.toNat_lt
    have b2 := l.toNat_lt
    simp only [splitT] at hs
    split at hs
    · simp only [Option.some.injEq, Prod.mk.injEq] at hs
      obtain ⟨rfl, rfl, rfl⟩ := hs
      refine (split_ok W S A n c t' h l xs hx hn (by omega)).mono ?_
      rintro e w' ⟨A1, c1, A2, c2, he, h1, h2, k, rfl⟩
      have hb : Below W.heap.size W (W.drewN k) := below_drewN (Below.refl _ _) _
      exact ⟨A1, _, c1, A2, _, c2, he, h1.after hb, h2.after hb, by omega, by omega, hb⟩
    · cases hs
theorem splitT_short {bs inn rest : List UInt8} {t : Nat} (hs : splitT bs = some (t, inn, rest)) : t < 256 ∧ rest.length + inn.length + 3 = bs.length := by
  match bs, hs with
  | t' :: h :: l :: xs, hs =>
    have b0 := t'.toNat_lt
    simp only [splitT] at hs
    split at hs
    · simp only [Option.some.injEq, Prod.mk.injEq] at hs
      obtain ⟨rfl, rfl, rfl⟩ := hs
      simp
      omega
    · cases hs
set_option maxRecDepth 10000 in
set_option maxHeartbeats 1000000 in
theorem read_none (d : Nat) (w : World) (S : Nat → Prop) (A : Option Addr) (n c : Nat) (bs : List UInt8) (hx : Bs w S A n c bs) (hn : n ≤ 1000000000) (hs : splitT bs = none) : Calls Try.prog 87 #[.slice A n c, .int .i64 (d : Int)] w (ReadPost w S none) := by
  have K := Lib.hid (split_call_none hs _ _ _ _ _ (hx.after (w' := w.alloc (.cells #[.int .i64 0, .int .u64 0, .slice none 0 0, .slice none 0 0] 27)) ((Below.refl _ _).alloc (Nat.le_refl _) _)) hn)
  clear hs
  go_enter Try.func87, Try.ntmps87
  go_wp2_with fail
  refine (K.out).mono ?_
  rintro e w1 ⟨rfl, hb⟩
  simp only [World.size_alloc] at hb
  obtain ⟨h0, h1, h2, h3, f0, f1, f2, f3, hz⟩ := box4 hb
  go_wp2_with fail
  refine bodyPost_ret (v := .tuple #[.agg #[.int .i64 0, .int .u64 0, .slice none 0 0, .slice none 0 0], .slice none 0 0, .bool false]) (by simp [results, Try.results87, go_sem, h0, h1, h2, h3]) rfl ⟨rfl, ?_⟩
  exact set4_below (((Below.refl _ _).alloc (Nat.le_refl _) _).trans (hb.mono (by omega))) _ (Nat.le_refl _) _ _ _ _
theorem u64_or_nat' (a b : Nat) (ha : a < 18446744073709551616) (hb : b < 18446744073709551616) : bits .or .u64 (a : Int) (b : Int) = ((a ||| b : Nat) : Int) := by
  have hx : a ||| b < 2 ^ 64 := Nat.or_lt_two_pow (by omega) (by omega)
  have o1 : ∀ x : Nat, x < 18446744073709551616 → (BitVec.ofInt 64 (x : Int)).toNat = x := fun x hx => by
    rw [BitVec.ofInt_natCast, BitVec.toNat_ofNat]; exact Nat.mod_eq_of_lt (by omega)
  show IntKind.u64.wrap ((BitVec.ofInt 64 (a : Int) ||| BitVec.ofInt 64 (b : Int)).toNat : Int) = _
  rw [BitVec.toNat_or, o1 a ha, o1 b hb, IntKind.wrap_u64]
  omega
theorem orU64 (a : Nat) (b : UInt8) (ha : a ≤ 72057594037927935) : bits .or .u64 ((a : Int) * 256) (b.toNat : Int) = ((a * 256 + b.toNat : Nat) : Int) := by
  have hb := b.toNat_lt
  have e1 : ((a : Int) * 256) = ((a * 256 : Nat) : Int) := by omega
  rw [e1, u64_or_nat' _ _ (by omega) (by omega), or_add _ _ (by omega)]
theorem bigE_take {inn : List UInt8} {k : Nat} {b : UInt8} (h : inn[k]? = some b) : bigE (inn.take (k + 1)) = bigE (inn.take k) * 256 + b.toNat := by
  rw [take_snoc h, bigE_snoc]
theorem bigE_le {inn : List UInt8} {k : Nat} (h : k ≤ 7) : bigE (inn.take k) ≤ 72057594037927935 := by
  have h1 := bigE_lt (inn.take k)
  have h2 : (inn.take k).length ≤ 7 := Nat.le_trans (List.length_take_le _ _) h
  have h3 : 256 ^ (inn.take k).length ≤ 256 ^ 7 := Nat.pow_le_pow_right (by omega) h2
  omega
theorem bigE_ok {inn : List UInt8} (h : inn.length ≤ 8) : u64ok (bigE inn) := by
  have h1 := bigE_lt inn
  have h3 : 256 ^ inn.length ≤ 256 ^ 8 := Nat.pow_le_pow_right (by omega) h
  unfold u64ok
  omega

/-- The last steps of a value that is read: the box is laid out, and read. -/
theorem read_end {w W : World} {S : Nat → Prop} {q : Quad} {v : TV} {A : Option Addr} {n c : Nat} {rest : List UInt8} (hb : Below w.heap.size w W) (hv : VR W (fun k => w.heap.size < k) q v) (hr : Bs W (fun k => S k ∧ k < w.heap.size) A n c rest) (hn : n ≤ 1000000000) (a b c' d : Value) :
    ReadPost w S (some (v, rest)) (.returned (.tuple #[q.agg, .slice A n c, .bool true])) ((((W.setCell ⟨w.heap.size, 0, none⟩ a).setCell ⟨w.heap.size, 1, none⟩ b).setCell ⟨w.heap.size, 2, none⟩ c').setCell ⟨w.heap.size, 3, none⟩ d) :=
  ⟨q, A, n, c, rfl, hv.keep (fun p hp _ => set4_other _ _ _ _ _ _ p (by omega)) (fun k hk _ => by omega),
    hr.keep (fun p hp _ => set4_other _ _ _ _ _ _ p (by omega)) (fun k hk _ => hk.1), hn, set4_below hb _ (Nat.le_refl _) _ _ _ _⟩
set_option maxRecDepth 10000 in
set_option maxHeartbeats 2000000 in
theorem read_num1 (d : Nat) (w : World) (S : Nat → Prop) (A : Option Addr) (n c : Nat) (bs xs rest : List UInt8) (b : UInt8) (hx : Bs w S A n c bs) (hn : n ≤ 1000000000) (hs : splitT bs = some (1, b :: xs, rest)) (h8 : (b :: xs).length ≤ 8) (h0 : b ≠ 0) :
    Calls Try.prog 87 #[.slice A n c, .int .i64 (d : Int)] w (ReadPost w S (some (.mk 1 (bigE (b :: xs)) [] [], rest))) := by
  have H8 := Lib.hid h8
  have K := Lib.hid (split_call hs _ _ _ _ _ (hx.oldS.after (w' := w.alloc (.cells #[.int .i64 0, .int .u64 0, .slice none 0 0, .slice none 0 0] 27)) ((Below.refl _ _).alloc (Nat.le_refl _) _)) hn)
  have q2 : ((b.toNat : Int) != 0) = true := by simp; exact fun e => h0 (UInt8.toNat_inj.1 (by simpa using e))
  clear h8 hs h0
  obtain ⟨inn, hinn⟩ : ∃ inn, inn = b :: xs := ⟨_, rfl⟩
  rw [← hinn] at K H8 ⊢
  have H0 : Hid (inn[0]? = some b) := Lib.hid (by rw [hinn]; rfl)
  clear hinn
  go_enter Try.func87, Try.ntmps87
  go_wp2_with fail
  refine (K.out).mono ?_
  rintro e w1 ⟨A1, n1, c1, A2, n2, c2, rfl, hi, hr, hn1, hn2, hb⟩
  clear K
  have hp : 0 < n1 := by
    have h1 := H0.out
    have h2 := hi.len
    cases inn with
    | nil => simp at h1
    | cons x xs => simp at h2; omega
  have h8 : n1 ≤ 8 := by have := hi.len; have := H8.out; omega
  obtain ⟨ad, b', rfl, hb0, hc0⟩ := hi.at0 hp
  obtain rfl : b = b' := by have := hb0.out; rw [H0.out] at this; injection this
  have q1 : ((n1 : Int) == 0) = false := by simp; omega
  have q3 : (n1 : Int) ≤ 8 := by omega
  simp only [World.size_alloc] at hb
  have hblk : Blk w1 w.heap.size 27 _ := (Blk.new w 27 _).below hb (by omega)
  obtain ⟨z0, z1, z2, z3, f0, f1, f2, f3, hz⟩ := hblk.four
  have hadb : ad.block < w.heap.size := by
    obtain ⟨ad', he, h', _⟩ := hi.rd.2 hp
    cases he
    exact h'.2
  obtain ⟨x1, x2, x3⟩ := far_of (show ad.block ≠ w.heap.size by omega)
  have hb1 : Below w.heap.size w w1 := ((Below.refl _ _).alloc (Nat.le_refl _) _).trans (hb.mono (by omega))
  clear hb0
  go_wp2_with fail
  go_loopw [10, 46] (fun _ i wr => ∃ k : Nat, k ≤ n1 ∧ i = .int .i64 k ∧ Hid (Blk wr w.heap.size 27 #[.int .i64 1, .int .u64 (bigE (inn.take k) : Int), .slice none 0 0, .slice none 0 0]) ∧ Below w.heap.size w1 wr) (fun _ i _ => n1 - (intOf i).toNat)
  case atStart =>
    refine ⟨0, Nat.zero_le _, rfl, Lib.hid ?_, (Below.refl _ _).setCell (p := ⟨w.heap.size, 0, none⟩) (Nat.le_refl _) _⟩
    exact hblk.set_ 0 (.int .i64 1)
  case round =>
    clear z0 z1 z2 z3 f0 f1 f2 f3 hc0
    obtain ⟨k, hk, rfl, hB, hbr⟩ := hrel
    obtain ⟨z0, z1, z2, z3, f0, f1, f2, f3, hz'⟩ := hB.out.four
    by_cases hlt : k < n1
    · obtain ⟨ad', b', he, hb', hc'⟩ := (hi.under (fun k h => h.2) hbr).at_ hlt
      cases he
      have hu := u8_lt b'
      have hle : bigE (inn.take k) ≤ 72057594037927935 := bigE_le (by omega)
      have hor := orU64 (bigE (inn.take k)) b' hle
      have hsn := Lib.hid (bigE_take hb'.out)
      generalize bigE (inn.take k) = N at hor hle hsn hB z1
      go_wp2_with fail
      refine ⟨⟨k + 1, by omega, by go_num, Lib.hid ?_, hbr.setCell (p := ⟨w.heap.size, 1, none⟩) (Nat.le_refl _) _⟩, by simp [intOf]; omega⟩
      rw [hsn.out]
      exact hB.out.set_ 1 _
    · obtain rfl : k = n1 := by omega
      have e : inn.take k = inn := List.take_of_length_le (by have := hi.len; omega)
      rw [e] at hB z1
      have hok := bigE_ok H8.out
      have hbb := hb1.trans hbr
      have hrr := hr.under (fun k h => h.2) hbr
      generalize hN : bigE inn = N at z1
      have HN := Lib.hid hN
      clear hN hB
      go_wp2_with fail
      refine bodyPost_ret (v := .tuple #[.agg #[.int .i64 1, .int .u64 (N : Int), .slice none 0 0, .slice none 0 0], .slice A2 n2 c2, .bool true]) (by simp [results, Try.results87, go_sem, z0, z1, z2, z3]) rfl ?_
      rw [← HN.out]
      exact read_end hbb (VR.shut (tag := 1) hok (Bs.nil _ _ _) (by omega) (LR.nil _ _ _)) hrr hn2 _ _ _ _
set_option maxRecDepth 10000 in
set_option maxHeartbeats 2000000 in
theorem read_num0 (d : Nat) (w : World) (S : Nat → Prop) (A : Option Addr) (n c : Nat) (bs rest : List UInt8) (hx : Bs w S A n c bs) (hn : n ≤ 1000000000) (hs : splitT bs = some (1, [], rest)) :
    Calls Try.prog 87 #[.slice A n c, .int .i64 (d : Int)] w (ReadPost w S (some (.mk 1 0 [] [], rest))) := by
  have K := Lib.hid (split_call hs _ _ _ _ _ (hx.oldS.after (w' := w.alloc (.cells #[.int .i64 0, .int .u64 0, .slice none 0 0, .slice none 0 0] 27)) ((Below.refl _ _).alloc (Nat.le_refl _) _)) hn)
  clear hs
  go_enter Try.func87, Try.ntmps87
  go_wp2_with fail
  refine (K.out).mono ?_
  rintro e w1 ⟨A1, n1, c1, A2, n2, c2, rfl, hi, hr, hn1, hn2, hb⟩
  clear K
  obtain rfl : n1 = 0 := by have := hi.len; simpa using this.symm
  simp only [World.size_alloc] at hb
  have hblk : Blk w1 w.heap.size 27 _ := (Blk.new w 27 _).below hb (by omega)
  obtain ⟨z0, z1, z2, z3, f0, f1, f2, f3, hz⟩ := hblk.four
  have hb1 : Below w.heap.size w w1 := ((Below.refl _ _).alloc (Nat.le_refl _) _).trans (hb.mono (by omega))
  go_wp2_with fail
  refine wp_loop_rounds 1 ?_
  rw [rounds_succ]
  go_wp2_with fail
  refine bodyPost_ret (v := .tuple #[.agg #[.int .i64 1, .int .u64 ((0 : Nat) : Int), .slice none 0 0, .slice none 0 0], .slice A2 n2 c2, .bool true]) (by simp [results, Try.results87, go_sem, z0, z1, z2, z3]) rfl ?_
  exact read_end (W := w1.setCell ⟨w.heap.size, 0, none⟩ (.int .i64 1)) (hb1.setCell (p := ⟨w.heap.size, 0, none⟩) (Nat.le_refl _) _) (VR.shut (tag := 1) (n := 0) (by simp [u64ok]) (Bs.nil _ _ _) (by omega) (LR.nil _ _ _)) (hr.under (fun k h => h.2) ((Below.refl _ _).setCell (p := ⟨w.heap.size, 0, none⟩) (Nat.le_refl _) _)) hn2 _ _ _ _
set_option maxRecDepth 10000 in
set_option maxHeartbeats 2000000 in
theorem read_bytes (d : Nat) (w : World) (S : Nat → Prop) (A : Option Addr) (n c : Nat) (bs inn rest : List UInt8) (hx : Bs w S A n c bs) (hn : n ≤ 1000000000) (hs : splitT bs = some (2, inn, rest)) :
    Calls Try.prog 87 #[.slice A n c, .int .i64 (d : Int)] w (ReadPost w S (some (.mk 2 0 inn [], rest))) := by
  have K := Lib.hid (split_call hs _ _ _ _ _ (hx.oldS.after (w' := w.alloc (.cells #[.int .i64 0, .int .u64 0, .slice none 0 0, .slice none 0 0] 27)) ((Below.refl _ _).alloc (Nat.le_refl _) _)) hn)
  clear hs
  go_enter Try.func87, Try.ntmps87
  go_wp2_with fail
  refine (K.out).mono ?_
  rintro e w1 ⟨A1, n1, c1, A2, n2, c2, rfl, hi, hr, hn1, hn2, hb⟩
  clear K
  simp only [World.size_alloc] at hb
  have hblk : Blk w1 w.heap.size 27 _ := (Blk.new w 27 _).below hb (by omega)
  obtain ⟨z0, z1, z2, z3, f0, f1, f2, f3, hz⟩ := hblk.four
  have hb1 : Below w.heap.size w w1 := ((Below.refl _ _).alloc (Nat.le_refl _) _).trans (hb.mono (by omega))
  go_wp2_with fail
  have hb2 : Below w.heap.size w1 (w1.setCell ⟨w.heap.size, 0, none⟩ (.int .i64 2)) := (Below.refl _ _).setCell (p := ⟨w.heap.size, 0, none⟩) (Nat.le_refl _) _
  have hbk : Blk (w1.setCell ⟨w.heap.size, 0, none⟩ (.int .i64 2)) w.heap.size 27 #[.int .i64 2, .int .u64 0, .slice none 0 0, .slice none 0 0] := hblk.set_ 0 (.int .i64 2)
  refine (clone_any _ (fun k => S k ∧ k < w.heap.size) _ _ _ _ (hi.under (fun k h => h.2) hb2) (by omega)).mono ?_
  rintro e w2 ⟨A3, c3, rfl, hown, hb3⟩
  have hsz := hbk.lt
  have hbk2 := hbk.after hb3
  have hr2 := (hr.under (fun k h => h.2) hb2).after hb3
  have hbb : Below w.heap.size w w2 := (hb1.trans hb2).trans (hb3.mono (by omega))
  generalize (w1.setCell ⟨w.heap.size, 0, none⟩ (.int .i64 2)).heap.size = m at hown hsz
  clear hb3 hb2 hbk z0 z1 z2 z3 f0 f1 f2 f3 hz hr hi
  obtain ⟨z0, z1, z2, z3, f0, f1, f2, f3, hz⟩ := hbk2.four
  go_wp2_with fail
  refine bodyPost_ret (v := .tuple #[.agg #[.int .i64 2, .int .u64 ((0 : Nat) : Int), .slice A3 n1 c3, .slice none 0 0], .slice A2 n2 c2, .bool true]) (by simp [results, Try.results87, go_sem, z0, z1, z2, z3]) rfl ?_
  obtain ⟨_, _, he, hbs⟩ := own_bs hown
  cases he
  have hb4 : Below w.heap.size w2 (w2.setCell ⟨w.heap.size, 2, none⟩ (.slice A3 n1 c3)) := (Below.refl _ _).setCell (p := ⟨w.heap.size, 2, none⟩) (Nat.le_refl _) _
  refine read_end (W := w2.setCell ⟨w.heap.size, 2, none⟩ (.slice A3 n1 c3)) (hbb.trans hb4) (VR.shut (tag := 2) (n := 0) (by simp [u64ok]) (hbs.keep (fun p hp _ => World.cell?_setCell_other _ _ _ _ (fun e => by subst e; simp at hp; omega)) (fun k hk _ => by omega)) (by omega) (LR.nil _ _ _)) (hr2.under (fun k h => h.2) hb4) hn2 _ _ _ _
end Go.Proofs.Ytaebmhbggbpnoaa
