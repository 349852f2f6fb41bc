/- Appends of values, names, entries to lists of the call's own; the walk of PutFile (node). Conditions: each theorem's premises. -/
import Derived.Test.YtaebmhbggbpnoaaGNd6
namespace Go.Proofs.Ytaebmhbggbpnoaa
open Go.RowKit
section
variable {ops : Array Oper} {rest : List Oper} {o : Oper} {a : Act} {Q : Exit → Act → World → Prop}
theorem wl_appV (hgd : o.guard = none) (s x : Operand) (ho : o.op = .call { callee := .builtin .append, args := #[s, x], argTypes := #[25, 25] }) {w2 : World} {base k : Nat} {v : Value} {l : List TV} {T S : Nat → Prop} {q : Quad} {y : TV}
    (hs : a.eval s = v) (hx : a.eval x = .slice (some ⟨w2.heap.size, 0, none⟩) 1 1) (hlo : LO w2 T base 27 v k l) (hy : VR w2 S q y) (hS : ∀ k, S k → k < w2.heap.size → T k ∧ some k ≠ v.ownBlock) (hk : k + 1 ≤ 1000000) (hbase : base ≤ w2.heap.size)
    (h : ∀ A' c' w', LO w' T base 27 (.slice A' (k + 1) c') (k + 1) (l ++ [y]) → Below base w2 w' → wpList Try.prog ops Q rest (a.put o.dst (.slice A' (k + 1) c')) w') : wpList Try.prog ops Q (o :: rest) a (w2.alloc (.cells #[q.a, q.b, q.c, q.d] 27)) := by
  obtain ⟨i0, hi0, hz0, hz1, hz2⟩ := info_parts Try.info27
  obtain ⟨qs, hq, hown, hch, hvn, hrn⟩ := hlo.ready (e' := 27) (Below.refl _ _) hy hS
  refine wpList_append_any _ hgd s x 25 ho base 27 i0 _ 4 64 Try.underlying25 hi0 hz0 hz1 hz2 rfl (by omega) v k (flat qs) hs hown AnyB _ 1 1 (flat [q]) hx hrn hvn.cells_one' (by simp only [maxLen]; omega) (by omega) (by simp; omega) ?_
  intro v4 w4 hown4 hg4 hat4
  obtain ⟨A7, c7, rfl, hc7⟩ := own_shape hown4
  exact h A7 c7 w4 (LO.snoc hq hlo.len (by omega) hown4 hg4 hat4 hch hvn) (Below.grown ((Below.refl _ _).alloc hbase _) hg4 (by simp; omega) (own_base hown))
theorem wl_appA {α : Type} {enc : α → Array Value} {size bytes : Nat} {sty e : TypeId} {z : Value} (hst : Try.prog.underlying sty = some (.slice e)) (hinfo : (Try.prog.info? e).map (fun i => (i.zero, i.size, i.bytes)) = some (some z, size, bytes)) (hz : z.cells.size = size) (hpos : 0 < size) (hby : bytes ≤ 1000)
    (hgd : o.guard = none) (s x : Operand) (ho : o.op = .call { callee := .builtin .append, args := #[s, x], argTypes := #[sty, sty] }) {w2 : World} {base k g t : Nat} {v : Value} {l : List α} {y : α}
    (hs : a.eval s = v) (hx : a.eval x = .slice (some ⟨g, 0, none⟩) 1 1) (hown : w2.ownsRow base e size v k (l.flatMap fun x => (enc x).toList)) (hb : Blk w2 g t (enc y)) (hy : (enc y).size = size) (h1 : (enc y).all (·.oneCell') = true) (hk : k + 1 ≤ 1000000000) (hbase : base ≤ w2.heap.size)
    (h : ∀ A' c' w', w'.ownsRow base e size (.slice A' (k + 1) c') (k + 1) ((l ++ [y]).flatMap fun x => (enc x).toList) → Below base w2 w' → wpList Try.prog ops Q rest (a.put o.dst (.slice A' (k + 1) c')) w') : wpList Try.prog ops Q (o :: rest) a w2 := by
  obtain ⟨i0, hi0, hz0, hz1, hz2⟩ := info_parts hinfo
  refine wpList_append_any _ hgd s x sty ho base e i0 z size bytes hst hi0 hz0 hz1 hz2 hz hpos v k _ hs hown AnyB (some ⟨g, 0, none⟩) 1 1 (enc y).toList hx ⟨by simp [hy], fun _ => ⟨_, rfl, trivial, fun j u hu => ?_⟩⟩ (fun u hu => (Array.all_eq_true_iff_forall_mem.1 h1) u (by simpa using hu)) (by simp only [maxLen]; omega) (by
      have : (k + 1) * bytes ≤ 1000000000 * 1000 := Nat.mul_le_mul hk hby
      omega) hbase ?_
  · rw [add_plain, hb.cell]
    simpa using hu
  · intro v4 w4 hown4 hg4 hat4
    obtain ⟨A7, c7, rfl, hc7⟩ := own_shape hown4
    exact h A7 c7 w4 (by rw [List.flatMap_append]; simpa using hown4) (Below.grown (Below.refl _ _) hg4 hbase (own_base hown))
end
theorem info107 : (Try.prog.info? 107).map (fun i => (i.zero, i.size, i.bytes)) = some (some (.agg (NC noName)), 32, 32) := by kernel_rfl
def noEnt : EV := ⟨⟨#[]⟩, false, noName⟩
theorem info144 : (Try.prog.info? 144).map (fun i => (i.zero, i.size, i.bytes)) = some (some (.agg (EC noEnt)), 34, 56) := by kernel_rfl
theorem info182 : (Try.prog.info? 182).map (fun i => (i.zero, i.size, i.bytes)) = some (some (.agg (EC noEnt)), 34, 56) := by kernel_rfl
/-- Two values laid one behind the other. -/
theorem lr_pair {w : World} {q1 q2 : Quad} {v1 v2 : TV} (t : TypeId) (S : Nat → Prop) (hS : ∀ k, w.heap.size ≤ k → S k) (h1 : VR w S q1 v1) (h2 : VR w S q2 v2) :
    LR (w.alloc (.cells #[q1.a, q1.b, q1.c, q1.d, q2.a, q2.b, q2.c, q2.d] t)) S (some ⟨w.heap.size, 0, none⟩) 2 2 [v1, v2] := by
  have hb : Below w.heap.size w (w.alloc (.cells #[q1.a, q1.b, q1.c, q1.d, q2.a, q2.b, q2.c, q2.d] t)) := (Below.refl _ _).alloc (Nat.le_refl _) _
  refine ⟨rfl, Nat.le_refl _, by omega, [q1, q2], rfl, reads_litS w _ t 2 rfl S (hS _ (Nat.le_refl _)), fun i q v hq hv => ?_⟩
  match i with
  | 0 => simp at hq hv; subst hq; subst hv; exact h1.after hb
  | 1 => simp at hq hv; subst hq; subst hv; exact h2.after hb
  | i + 2 => simp at hq
theorem rightC_F (s : Int) (hs : List (List UInt8)) (n : Nat) (h : hs.length = n) : rightF ⟨s, hs⟩ = rightC s n := by
  unfold rightF rightC
  simp only [h]
end Go.Proofs.Ytaebmhbggbpnoaa
namespace Go.Proofs.Ytaebmhbggbpnoaa
open Go.RowKit
set_option maxRecDepth 100000 in
theorem nd_putfile (w : World) (S : Nat → Prop) (s : Int) (A : Option Addr) (n c : Nat) (hs : List (List UInt8)) (hx : Hs w S A n c hs) (hn : n ≤ 100000) :
    Calls Try.prog 52 #[.agg #[.int .i64 s, .slice A n c]] w fun e w' => ∃ A' n' c', e = .returned (.tuple #[.agg #[.int .i64 (pfK ⟨s, hs⟩), .slice A' n' c'], .int .i64 (pfF ⟨s, hs⟩)]) ∧ Bs w' (fun j => w.heap.size ≤ j) A' n' c' (pfB ⟨s, hs⟩) ∧ n' ≤ 5000 ∧ Below w.heap.size w w' := by
  obtain ⟨W, hW⟩ : ∃ W, W = (w.alloc (.cells #[.int .i64 s, .slice A n c] 89)).alloc (.cells #[.int .i64 0, .slice none 0 0] 86) := ⟨_, rfl⟩
  have HB : Hid (∀ w', Below W.heap.size W w' → Below w.heap.size w w' ∧ Blk w' w.heap.size 89 #[.int .i64 s, .slice A n c] ∧ Blk w' (w.heap.size + 1) 86 #[.int .i64 0, .slice none 0 0]) := Lib.hid fun w' h => by
    have h0 : Below w.heap.size w W := by rw [hW]; exact ((Below.refl _ _).alloc (Nat.le_refl _) _).alloc (by simp) _
    exact ⟨h0.trans (h.mono h0.size), Blk.below (by rw [hW]; exact (Blk.new w 89 _).alloc _) h (by rw [hW]; simp; omega), Blk.below (by rw [hW]; exact blk_new' (by simp)) h (by rw [hW]; simp)⟩
  have HSZ : Hid (W.heap.size = w.heap.size + 2) := Lib.hid (by rw [hW]; simp)
  have HX := Lib.hid hx
  have HL := Lib.hid hx.len
  have HR := Lib.hid (rightC_F s hs n hx.len)
  have HALL := Lib.hid hx.all
  clear hx
  go_enter Try.func52, Try.ntmps52
  go_wp2_with fail
  rw [← hW]
  clear hW
  obtain ⟨p0, p1, -⟩ := (HB.out W (Below.refl _ _)).2.1.two
  refine (nd_fright W s A n c).mono ?_
  rintro e w1 ⟨rfl, hb1⟩
  have HB1 := Lib.hid hb1
  obtain ⟨hbw1, hk1, hk2⟩ := HB.out w1 hb1
  have HBW1 := Lib.hid hbw1
  have HK2 := Lib.hid hk2
  have HX1 := Lib.hid (HX.out.after (by omega) hbw1)
  obtain ⟨q0, q1, q2, q3, -⟩ := hk2.two
  obtain ⟨p0, p1, -⟩ := hk1.two
  have HZ1 : Hid (w.heap.size + 2 ≤ w1.heap.size) := Lib.hid (by have := HSZ.out; have := hb1.size; omega)
  clear hb1 hbw1 hk1 hk2
  by_cases hr : rightC s n = true
  · have HRT : Hid (rightF ⟨s, hs⟩ = true) := Lib.hid (by rw [HR.out]; exact hr)
    have HS : Hid (0 ≤ s ∧ s ≤ 2000) := Lib.hid (by unfold rightC at hr; simp at hr; omega)
    rw [hr]
    clear hr
    go_wp2_with fail
    go_loopw [4, 14] (fun v4 v14 wr => ∃ (k : Nat) (A4 : Option Addr) (c4 : Nat), k ≤ n ∧ v14 = .int .i64 (k : Int) ∧ v4 = .slice A4 k c4 ∧ Hid (LO wr (fun j => w1.heap.size ≤ j) w1.heap.size 27 (.slice A4 k c4) k ((hs.take k).map hashT)) ∧ Hid (Below w1.heap.size w1 wr)) (fun _ v14 _ => n - (intOf v14).toNat)
    case atStart => exact ⟨0, none, 0, Nat.zero_le _, rfl, rfl, Lib.hid (by simpa using LO.nil _ _ _ _), Lib.hid (Below.refl _ _)⟩
    case round =>
      obtain ⟨k, A4, c4, hk, rfl, rfl, HLO, HBR⟩ := hrel
      by_cases hlt : k < n
      · have hlt' : (k : Int) < (n : Int) := by omega
        obtain ⟨ad, p, x, rfl, hp, hl, hat, hsz, -⟩ := (HX1.out.after (by omega) HBR.out).at_ hlt
        obtain ⟨RV, hRV⟩ : ∃ R, R = NC x := ⟨_, rfl⟩
        have HS := Lib.hid hsz
        have HAT := Lib.hid hat.out
        have HVAL : Hid (∀ W, Calls Try.prog 103 #[.agg RV] W fun e w' => ∃ q, e = .returned q.agg ∧ VR w' (fun j => W.heap.size ≤ j) q (hashT x) ∧ Below W.heap.size W w') := Lib.hid (by rw [hRV]; exact fun W => nd_value W x (by have := hsz; simp [NC, u8s] at this; exact this))
        rw [← hRV] at HS HAT
        have HO : Hid (RV.all (·.oneCell') = true) := Lib.hid (by rw [hRV]; exact NC_one x)
        clear hat hsz hRV
        go_wp2_with (first | (refine wl_ldA (cs := RV) rfl 107 (.tmp 16) rfl (by rw [HS.out]; exact wide107) rfl HAT.out ?_) | (refine wl_stA (cs := RV) rfl 107 (.tmp 6) (.tmp 17) rfl (by rw [HS.out]; exact wide107) rfl rfl (Blk.new wr 107 _) (by rw [HS.out]; rfl) HO.out ?_; intro w2 hb2 hg2 hf2; go_must ((have HBK := Lib.hid hb2))) | (refine wl_ldA (cs := RV) rfl 107 (.tmp 6) rfl (by rw [HS.out]; exact wide107) rfl (At.blk HBK.out) ?_))
        refine (HVAL.out w2).mono ?_
        rintro e w3 ⟨q, rfl, hv, hb3⟩
        have HB2 : Hid (Below wr.heap.size wr w2) := Lib.hid (((Below.refl _ _).alloc (Nat.le_refl _) _).trans (hf2 _ (Nat.le_refl _)))
        have HB3 : Hid (Below wr.heap.size wr w3) := Lib.hid (HB2.out.trans (hb3.mono HB2.out.size))
        obtain ⟨u, m, z1, z2, P1, P2, i1, i2, i3, i4, rfl, -⟩ := hv.opens
        have HV := Lib.hid hv
        have HLO3 := Lib.hid (HLO.out.after HB3.out)
        clear hb2 hg2 hf2 hv hb3
        dsimp only [Quad.agg]
        go_wp2_with (at_builtin; go_must ((refine wl_appV (k := k) (l := (hs.take k).map hashT) (y := hashT x) (base := w1.heap.size) (T := fun j => w1.heap.size ≤ j) (v := .slice A4 k c4) rfl (.tmp 18) (.tmp 21) rfl rfl rfl HLO3.out HV.out ?_ (by omega) (Nat.le_trans HBR.out.size HB3.out.size) ?_)); (intro j hj _; have h1 := HBR.out.size; have h2 := HB2.out.size; refine ⟨by omega, fun e => ?_⟩; obtain ⟨_, _, _, _, ho, _⟩ := HLO.out; have h3 := (ho.lt _ e.symm).2; omega); (intro A7 c7 w4 hlo4 hb4))
        refine ⟨⟨k + 1, A7, c7, by omega, by go_num, rfl, Lib.hid ?_, Lib.hid ((HBR.out.trans (HB3.out.mono HBR.out.size)).trans hb4)⟩, by simp [intOf]; omega⟩
        have hT : (hs.take (k + 1)).map hashT = (hs.take k).map hashT ++ [hashT x] := by
          rw [take_snoc hl.out, List.map_append]
          rfl
        rw [hT]
        exact hlo4
      · obtain rfl : k = n := by omega
        have hT : hs.take k = hs := List.take_of_length_le (by rw [HL.out]; exact Nat.le_refl _)
        have HLR : Hid (LR wr (fun j => w1.heap.size ≤ j) A4 k c4 (hs.map hashT)) := Lib.hid (by
          have h := HLO.out.reads
          rw [hT] at h
          exact h.keep (fun _ _ _ => rfl) (fun j hj _ => by omega))
        have HBWr := Lib.hid (HB1.out.trans (HBR.out.mono HB1.out.size))
        obtain ⟨r0, r1, -⟩ := (HB.out wr HBWr.out).2.1.two
        have HZr := Lib.hid HBR.out.size
        clear p0 p1 q0 q1 q2 q3
        have hws : IntKind.u64.wrap s = s := by
          have h := HS.out
          unfold IntKind.wrap
          simp [IntKind.bits, IntKind.signed]
          omega
        go_wp2_with fail
        refine (number_any _ wr).mono ?_
        rintro e w2 ⟨rfl, hb2⟩
        have HB2 := Lib.hid hb2
        clear hb2
        go_wp2_with fail
        refine (manyS_any w2 (fun j => w1.heap.size ≤ j) A4 k c4 (hs.map hashT) (HLR.out.after HB2.out)).mono ?_
        rintro e w3 ⟨q, rfl, hv, hb3⟩
        have HB3 := Lib.hid hb3
        have HV1 : Hid (VR w3 (fun j => w1.heap.size ≤ j) ⟨.int .i64 1, .int .u64 s, .slice none 0 0, .slice none 0 0⟩ (.mk 1 s.toNat [] [])) := Lib.hid (by
          have h := HS.out
          have e1 : ((s.toNat : Nat) : Int) = s := by omega
          have := VR.shut (w := w3) (S := fun j => w1.heap.size ≤ j) (tag := 1) (n := s.toNat) (by simp [u64ok]; omega) (Bs.nil w3 _ 0) (by omega) (LR.nil w3 _ 0)
          rwa [e1] at this)
        have HZ3 : Hid (w1.heap.size ≤ w3.heap.size) := Lib.hid (by have := HZr.out; have := HB2.out.size; have := hb3.size; omega)
        have HV2 : Hid (VR w3 (fun j => w1.heap.size ≤ j) q (.mk 3 0 [] (hs.map hashT))) := Lib.hid (hv.keep (fun _ _ _ => rfl) (fun j hj _ => by have := HZr.out; have := HB2.out.size; omega))
        obtain ⟨u, m, z1, z2, P1, P2, i1, i2, i3, i4, rfl, -⟩ := hv.opens
        have HLR3 := Lib.hid (lr_pair 27 (fun j => w1.heap.size ≤ j) (fun j hj => Nat.le_trans HZ3.out hj) HV1.out HV2.out)
        clear hv hb3
        dsimp only [Quad.agg]
        go_wp2_with fail
        refine (manyS_any _ (fun j => w1.heap.size ≤ j) _ 2 2 _ HLR3.out).mono ?_
        rintro e w4 ⟨q4, rfl, hv4, hb4⟩
        have HV4 : Hid (VR w4 (fun j => w1.heap.size ≤ j) q4 (fileT ⟨s, hs⟩)) := Lib.hid (hv4.keep (fun _ _ _ => rfl) (fun j hj _ => by have := HZ3.out; rcases hj with h | h; exact h; simp at h; omega))
        have HB4 : Hid (Below w3.heap.size w3 w4) := Lib.hid (((Below.refl _ _).alloc (Nat.le_refl _) _).trans (hb4.mono (by simp)))
        clear hv4 hb4
        go_wp2_with fail
        refine (nd_object w4 _ 2 q4 _ HV4.out).mono ?_
        rintro e w5 ⟨A5, n5, c5, rfl, hbs, hn5, hb5⟩
        have HB5 : Hid (Below wr.heap.size wr w5) := Lib.hid (HB2.out.trans ((HB3.out.trans ((HB4.out.trans (hb5.mono HB4.out.size)).mono HB3.out.size)).mono HB2.out.size))
        have HBS := Lib.hid hbs
        have HBW5 := Lib.hid (HBWr.out.trans (HB5.out.mono HBWr.out.size))
        obtain ⟨hbw, -, hk86⟩ := HB.out w5 HBW5.out
        obtain ⟨r0, r1, r2, r3, -⟩ := hk86.two
        have HK := Lib.hid hk86
        have HBB := Lib.hid hbw
        have HZ5 : Hid (w.heap.size + 2 ≤ w4.heap.size) := Lib.hid (by have := HZ1.out; have := HZ3.out; have := HB4.out.size; omega)
        clear hbs hb5 hk86 hbw
        go_wp2_with fail
        refine bodyPost_ret (results_cell2 rfl rfl (load86 (set2_blk HK.out _ _))) rfl ⟨A5, n5, c5, ?_, ?_, hn5, set2_below HBB.out _ (Nat.le_succ _) _ _⟩
        · unfold pfK pfF
          rw [HRT.out]
          rfl
        · unfold pfB
          rw [HRT.out]
          exact HBS.out.keep (fun p hp _ => set2_other _ _ _ _ p (by have := HZ5.out; omega)) (fun j hj _ => by have := HZ5.out; omega)
  · have HRF : Hid (rightF ⟨s, hs⟩ = false) := Lib.hid (by rw [HR.out]; simpa using hr)
    rw [show rightC s n = false by simpa using hr]
    clear hr
    go_wp2_with fail
    refine bodyPost_ret (results_cell2 rfl rfl (load86 (set2_blk HK2.out _ _))) rfl ⟨none, 0, 0, ?_, ?_, by omega, set2_below HBW1.out _ (Nat.le_succ _) _ _⟩
    · unfold pfK pfF
      rw [HRF.out]
      rfl
    · unfold pfB
      rw [HRF.out]
      exact Bs.nil _ _ _
end Go.Proofs.Ytaebmhbggbpnoaa
