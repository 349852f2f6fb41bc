/- The walks of Ends (chunker) and of the chapter's alive. Conditions: each theorem's premises. -/
import Derived.Test.YtognkonncfjneaaDoorCh9
import Derived.Laws.IdiomStrings
import Derived.Lib.SlBytesConst
namespace Go.Proofs.YtognkonncfjneaaDoor
open Go.RowKit
/-- Where the chunks end. -/
def endsF (l : List (List UInt8)) (k : Nat) : Nat := (l.take k).flatten.length
def endsV (l : List (List UInt8)) (k : Nat) : List Value := (List.range k).map fun i => .int .i64 ((endsF l (i + 1) : Nat) : Int)
theorem endsF_succ {l : List (List UInt8)} {k : Nat} {x : List UInt8} (h : l[k]? = some x) : endsF l (k + 1) = endsF l k + x.length := by
  unfold endsF
  rw [take_snoc h]
  simp
theorem endsF_le (l : List (List UInt8)) (k : Nat) : endsF l k ≤ l.flatten.length := by
  unfold endsF
  have h : l.flatten = (l.take k).flatten ++ (l.drop k).flatten := by rw [← List.flatten_append, List.take_append_drop]
  rw [h, List.length_append]
  omega
theorem endsV_succ (l : List (List UInt8)) (k : Nat) : endsV l (k + 1) = endsV l k ++ [.int .i64 ((endsF l (k + 1) : Nat) : Int)] := by
  unfold endsV
  rw [List.range_succ, List.map_append]
  rfl
def EndsEnd (w : World) (r : Ch.Rule) (bs : List UInt8) (e : Ending) (w' : World) : Prop :=
  ∃ v l, e = .returned (.tuple #[v, .int .i64 0]) ∧ Ch.SplitS r bs l ∧ w'.ownsRow w.heap.size 3 1 v l.length (endsV l l.length) ∧ Below w.heap.size w w'
theorem Tryd.info3 : (Tryd.prog.info? 3).map (fun i => (i.zero, i.size, i.bytes)) = some (some (.int .i64 0), 1, 8) := by kernel_rfl
theorem reads_one (w : World) (u : Value) (t : TypeId) : Reads (w.alloc (.cells #[u] t)) AnyB 1 (some ⟨w.heap.size, 0, none⟩) 1 [u] :=
  ⟨rfl, fun _ => ⟨_, rfl, trivial, fun j x hx => by rw [add_plain, World.cell?_alloc_new]; simpa using hx⟩⟩
set_option maxHeartbeats 2000000 in
theorem ends_yes (w : World) (r : Ch.Rule) (S : Nat → Prop) (A : Option Addr) (n c : Nat) (bs : List UInt8) (hx : Bs w S A n c bs) (hn : n ≤ 100000000) (hT : Tab64 w) :
    Calls Tryd.prog 25 #[.agg r.v, .slice A n c] w (EndsEnd w r bs) := by
  have HX := Lib.hid hx.old
  have hlen := hx.len
  obtain ⟨av, hav⟩ : ∃ av, av = 2 ^ r.k := ⟨_, rfl⟩
  have HV : Hid (r.v = #[.int .u64 (r.seed : Int), .int .i64 (r.mn : Int), .int .i64 (av : Int), .int .i64 (r.mx : Int)]) := Lib.hid (by rw [hav]; rfl)
  have hb0 : Below w.heap.size w (w.alloc (.cells r.v 46)) := (Below.refl _ w).alloc (Nat.le_refl _) _
  have HC : Hid (Calls Tryd.prog 22 #[.agg r.v, .slice A n c] (w.alloc (.cells r.v 46)) (SplitEnd (w.alloc (.cells r.v 46)) r bs)) := Lib.hid (split_yes _ r _ A n c bs (HX.out.below hb0) hn (Tab64.below hT hb0))
  have HB0 := Lib.hid hb0
  rw [HV.out] at HC HB0 ⊢
  clear hx hT hav hb0
  obtain ⟨i0, hi0, hz0, hz1, hz2⟩ := info_parts Tryd.info3
  go_enter Tryd.func25, Tryd.ntmps25
  go_wp2_with fail
  refine (HC.out).mono ?_
  rintro e w1 ⟨v, l, rfl, hS, hl, hb1⟩
  obtain ⟨A0, c0, rfl, hc0⟩ := hl.shape
  have hbw : Below w.heap.size w w1 := HB0.out.trans (hb1.mono HB0.out.size)
  have HRR := Lib.hid (hl.reads.old)
  have hlf : l.length ≤ 1000000000 := hl.few
  have hfl : l.flatten.length ≤ 100000000 := by rw [hS.flat]; omega
  have HS := Lib.hid hS
  have HBW := Lib.hid hbw
  obtain ⟨N, hN⟩ : ∃ N, N = l.length := ⟨_, rfl⟩
  rw [← hN] at HRR hlf ⊢
  have HN := Lib.hid hN
  clear hS hl hb1 hbw HC HB0 hN hc0
  go_wp2_with fail
  go_loopw [4, 7, 18] (fun v4 v7 v18 wr => ∃ k : Nat, k ≤ N ∧ v7 = .int .i64 ((endsF l k : Nat) : Int) ∧ v18 = .int .i64 (k : Int) ∧ Hid (wr.ownsRow w1.heap.size 3 1 v4 k (endsV l k)) ∧ Hid (Below w1.heap.size w1 wr)) (fun _ _ v18 _ => N - (intOf v18).toNat)
  case atStart => exact ⟨0, Nat.zero_le _, rfl, rfl, Lib.hid (World.ownsRow_nil _ _ _ _), Lib.hid (Below.refl _ _)⟩
  case round =>
    obtain ⟨k, hk, rfl, rfl, HO, HB⟩ := hrel
    by_cases hlt : k < N
    · obtain ⟨ad, A', n', c', x, rfl, -, hx, hcell, hbx⟩ := (HRR.out.below HB.out).at_ k hlt
      have hes := endsF_succ hx.out
      have hel := endsF_le l (k + 1)
      rw [hbx.len] at hes
      obtain ⟨e0, he0⟩ : ∃ e0, e0 = endsF l k := ⟨_, rfl⟩
      have HES : Hid (endsF l (k + 1) = e0 + n') := Lib.hid (by rw [he0]; exact hes)
      have hle : e0 + n' ≤ 100000000 := by rw [HES.out] at hel; omega
      rw [← he0]
      have hlt' : (k : Int) < (N : Int) := by omega
      have hwr := HB.out.size
      obtain ⟨Ae, ce, hv4, hce⟩ := own_shape HO.out
      subst hv4
      have HO2 : Hid ((wr.alloc (.cells #[.int .i64 ((e0 : Int) + (n' : Int))] 3)).ownsRow w1.heap.size 3 1 (.slice Ae k ce) k (endsV l k)) := Lib.hid (HO.out.alloc _)
      have HRD := Lib.hid (reads_one wr (.int .i64 ((e0 : Int) + (n' : Int))) 3)
      clear hbx hes hel he0 hce
      go_wp2_with (at_builtin; go_must ((refine wpList_append_any _ rfl (.tmp 26) (.tmp 28) 49 rfl w1.heap.size 3 i0 _ 1 8 Tryd.underlying49 hi0 hz0 hz1 hz2 rfl (by omega) (.slice Ae k ce) k (endsV l k) rfl HO2.out AnyB _ 1 1 [.int .i64 ((e0 : Int) + (n' : Int))] rfl HRD.out (by intro u hu; simp at hu; subst hu; rfl) (by simp only [maxLen]; omega) (by omega) (by simp; omega) ?_; intro v3 w3 hown3 hg3 hat3)))
      have HO3 : Hid (w3.ownsRow w1.heap.size 3 1 v3 (k + 1) (endsV l (k + 1))) := Lib.hid (by rw [endsV_succ, HES.out]; exact hown3)
      have HB3 : Hid (Below w1.heap.size w1 w3) := Lib.hid (HB.out.trans ((((Below.refl w1.heap.size wr).alloc hwr _)).trans ((Below.refl _ _).grown hg3 (by simp; omega) (fun j e => own_base HO2.out j e))))
      clear hown3 hg3 hat3
      go_roundw
      case rel => exact ⟨k + 1, by omega, by rw [HES.out]; go_num, by go_num, HO3, HB3⟩
      case measure => simp [intOf]; omega
    · obtain rfl : k = N := by omega
      go_wp2_with fail
      go_ret2
      refine ⟨_, l, rfl, HS.out, ?_, HBW.out.trans (HB.out.mono HBW.out.size)⟩
      have := HO.out
      rw [HN.out] at this
      exact ⟨this.1, this.2.imp id fun ⟨g, cap, cur, e, hg, r⟩ => ⟨g, cap, cur, e, Nat.le_trans HBW.out.size hg, r⟩⟩
theorem ends_no (w : World) (seed : Nat) (mn av mx : Int) (hr : ¬ RRight mn av mx) (A : Option Addr) (n c : Nat) :
    Calls Tryd.prog 25 #[.agg #[.int .u64 (seed : Int), .int .i64 mn, .int .i64 av, .int .i64 mx], .slice A n c] w fun e w' => e = .returned (.tuple #[.slice none 0 0, .int .i64 1]) ∧ Below w.heap.size w w' := by
  have HC : Hid (∀ w', Calls Tryd.prog 22 #[.agg #[.int .u64 (seed : Int), .int .i64 mn, .int .i64 av, .int .i64 mx], .slice A n c] w' fun e w'' => e = .returned (.tuple #[.slice none 0 0, .int .i64 1]) ∧ Below w'.heap.size w' w'') := Lib.hid fun w' => split_no w' seed mn av mx hr A n c
  have h0 : Hid (∀ o, Below w.heap.size w (w.alloc o)) := Lib.hid fun o => (Below.refl _ w).alloc (Nat.le_refl _) _
  clear hr
  go_enter Tryd.func25, Tryd.ntmps25
  go_wp2_with fail
  refine (HC.out _).mono ?_
  rintro e w1 ⟨rfl, hb1⟩
  have HB1 := Lib.hid ((h0.out _).trans (hb1.mono (h0.out _).size))
  clear hb1
  go_wp2_with fail
  go_loopw [4, 7, 18] (fun v4 v7 v18 wr => v4 = .slice none 0 0 ∧ v18 = .int .i64 0 ∧ wr = w1) (fun _ _ v18 _ => 0)
  case atStart => exact ⟨rfl, rfl, rfl⟩
  case round =>
    obtain ⟨rfl, rfl, rfl⟩ := hrel
    go_wp2_with fail
    go_ret2
    exact ⟨rfl, HB1.out⟩
/-- The chapter's example. -/
def rule4 : Ch.Rule := ⟨0, 4, 2, 4, by decide, by decide, by decide, by decide, by decide, by decide⟩
theorem stop4 {b : List UInt8} {j : Nat} (h : j < 4) : Ch.stopB rule4 b j = false := by
  have h1 : (j == 4) = false := by simp; omega
  have h2 : decide (4 ≤ j) = false := by simp; omega
  show (j == 4 || (decide (4 ≤ j) && _)) = false
  rw [h1, h2]
  rfl
theorem cut4 {b : List UInt8} (h : 4 ≤ b.length) : Ch.cutS rule4 b = some 4 :=
  Ch.cut_of (by omega) h (by simp [Ch.stopB, rule4]) (fun j _ h2 => stop4 h2)
theorem cut4_none {b : List UInt8} (h : b.length < 4) : Ch.cutS rule4 b = none :=
  Ch.cut_none_of (fun _ _ h2 => stop4 (by omega))
theorem split4 : Ch.SplitS rule4 [48, 49, 50, 51, 52, 53, 54, 55, 56, 57] [[48, 49, 50, 51], [52, 53, 54, 55], [56, 57]] :=
  .more (cut4 (by simp)) (.more (cut4 (by simp)) (.rest (cut4_none (by simp)) (by simp)))
theorem bs_lit (w : World) (cs : Array Value) (t : TypeId) (fz : Nat × Nat) (n : Nat) (bs : List UInt8) (h : cs.toList = u8s bs) (hn : bs.length = n) : Bs (w.alloc (.cells cs t fz)) AnyB (some ⟨w.heap.size, 0, none⟩) n n bs := by
  refine ⟨hn, Nat.le_refl _, by rw [u8s_length, hn, Nat.mul_one], fun _ => ⟨_, rfl, trivial, fun j u hu => ?_⟩⟩
  rw [add_plain, cell_of_row _ _ _ _ _ _ (heap_alloc_new w _)]
  rw [← h] at hu
  simpa using hu
theorem Bs.str {w : World} {S : Nat → Prop} {a : Addr} {n c : Nat} {bs : List UInt8} (h : Bs w S (some a) n c bs) : (convert 23 9 (.slice (some a) n c)).run Tryd.prog w = .ok (.string ⟨bs.toArray⟩) w := by
  have hl := h.len
  subst hl
  refine run_convert_bytes_back w 23 9 5 a c bs Tryd.underlying23 Tryd.underlying5 Tryd.underlying9 (fun j hj => ?_)
  obtain ⟨ad, b, e, hb, hc⟩ := h.at_ hj
  injection e with e
  subst e
  have := hb.out
  rw [List.getElem?_eq_getElem hj] at this
  injection this with this
  rw [hc, this]
set_option maxHeartbeats 1000000 in
theorem chAlive_any (w : World) (hT : Tab64 w) : Calls Tryd.prog 21 #[] w fun e w' => e = .returned (.bool true) ∧ Below w.heap.size w w' := by
  have kc := fun (w : World) (C : Array Value) (n c : Nat) => Lib.run_convert_bytes_const (P := Tryd.prog) w 23 5 C n c Tryd.underlying23 Tryd.underlying5
  have hW : Hid (∀ cs fz, Below w.heap.size w (w.alloc (.cells cs 5 fz))) := Lib.hid fun cs fz => (Below.refl _ w).alloc (Nat.le_refl _) _
  have HC : Hid (∀ fz, Calls Tryd.prog 22 #[.agg #[.int .u64 0, .int .i64 4, .int .i64 4, .int .i64 4], .slice (some ⟨w.heap.size, 0, none⟩) 10 10] (w.alloc (.cells #[.int .u8 48, .int .u8 49, .int .u8 50, .int .u8 51, .int .u8 52, .int .u8 53, .int .u8 54, .int .u8 55, .int .u8 56, .int .u8 57] 5 fz)) (SplitEnd (w.alloc (.cells #[.int .u8 48, .int .u8 49, .int .u8 50, .int .u8 51, .int .u8 52, .int .u8 53, .int .u8 54, .int .u8 55, .int .u8 56, .int .u8 57] 5 fz)) rule4 [48, 49, 50, 51, 52, 53, 54, 55, 56, 57])) :=
    Lib.hid fun fz => split_yes _ rule4 AnyB _ 10 10 _ (bs_lit w _ 5 fz 10 _ rfl rfl) (by omega) (Tab64.below hT (hW.out _ fz))
  clear hT
  go_enter Tryd.func21, Tryd.ntmps21
  go_wp2_with fail
  refine (HC.out _).mono ?_
  rintro e w1 ⟨v, l, rfl, hS, hl, hb1⟩
  have hl3 := hS.uniq split4
  subst hl3
  obtain ⟨A0, c0, rfl, -⟩ := hl.shape
  have hR := hl.reads
  have HB1 := Lib.hid ((hW.out _ _).trans (hb1.mono (hW.out _ _).size))
  obtain ⟨ad, A1, n1, c1, x1, rfl, -, hx1, hc1, hs1⟩ := hR.at_ 0 (by simp)
  obtain ⟨ad', A2, n2, c2, x2, e2, -, hx2, hc2, hs2⟩ := hR.at_ 2 (by simp)
  injection e2 with e2
  subst e2
  obtain rfl : x1 = [48, 49, 50, 51] := by have := hx1.out; simpa using this.symm
  obtain rfl : x2 = [56, 57] := by have := hx2.out; simpa using this.symm
  obtain rfl : n1 = 4 := hs1.len.symm
  obtain rfl : n2 = 2 := hs2.len.symm
  obtain ⟨a1, _, rfl, _, _⟩ := hs1.at_ (k := 0) (by omega)
  obtain ⟨a2, _, rfl, _, _⟩ := hs2.at_ (k := 0) (by omega)
  have s1 := hs1.str
  have s2 := hs2.str
  rw [Addr.add_zero'] at hc1
  rw [Addr.add_succ'] at hc2
  clear hS hl hb1 hR HC hW hx1 hx2 hs1 hs2
  go_wp2_with fail
  go_ret
  exact ⟨rfl, HB1.out⟩
end Go.Proofs.YtognkonncfjneaaDoor
