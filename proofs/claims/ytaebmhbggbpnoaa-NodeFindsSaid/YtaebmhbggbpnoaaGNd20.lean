/- The walk of Links (node) at a file. Conditions: each theorem's premises. -/
import Derived.Test.YtaebmhbggbpnoaaGNd19
import Derived.Test.YtaebmhbggbpnoaaGNd14
namespace Go.Proofs.Ytaebmhbggbpnoaa
open Go.RowKit
set_option maxRecDepth 100000 in
theorem nd_links (w : World) (S : Nat → Prop) (A : Option Addr) (n c : Nat) (b : List UInt8) (hx : Bs w S A n c b) (hn : n ≤ 1000000000) :
    Calls Try.prog 101 #[.agg #[.int .i64 2, .slice A n c]] w fun e w' => ∃ A' n' c', e = .returned (.tuple #[.slice A' n' c', .int .i64 (gfF 2 b)]) ∧ Hs w' (fun j => w.heap.size ≤ j) A' n' c' (gfX 2 b).hs ∧ Below w.heap.size w w' := by
  obtain ⟨W, hW⟩ : ∃ W, W = w.alloc (.cells #[.int .i64 2, .slice A n c] 86) := ⟨_, rfl⟩
  have HB : Hid (Below w.heap.size w W) := Lib.hid (by rw [hW]; exact (Below.refl _ _).alloc (Nat.le_refl _) _)
  have HX := Lib.hid (hx.after HB.out)
  clear hx
  go_enter Try.func101, Try.ntmps101
  go_wp2_with fail
  rw [← hW]
  clear hW
  refine (nd_getfile W S 2 A n c b HX.out hn).mono ?_
  rintro e w1 ⟨A1, n1, c1, rfl, hl, hb⟩
  have HL := Lib.hid hl
  have HB1 := Lib.hid (HB.out.trans (hb.mono HB.out.size))
  clear hl hb
  go_wp2_with fail
  go_ret2
  exact ⟨A1, n1, c1, rfl, (HL.out.after (by omega) ((Below.refl _ _).alloc (Nat.le_refl _) _)).mono (fun j hj => Nat.le_trans HB.out.size hj), HB1.out.alloc HB1.out.size _⟩
end Go.Proofs.Ytaebmhbggbpnoaa
namespace Go.Proofs.Ytaebmhbggbpnoaa
open Go.RowKit
def h7 : List UInt8 := 7 :: List.replicate 31 0
theorem h7_len : h7.length = 32 := by simp [h7]
def F7 : FV := ⟨2, [h7]⟩
theorem F7_ok : F7.ok := by
  intro h hh
  simp only [F7, List.mem_singleton] at hh
  subst hh
  exact h7_len
theorem f7_one : bodyT 7 (.mk 1 2 [] []) = some [2] := by
  have e : numE 2 = [2] := by rw [numE_pos (by decide), show 2 / 256 = 0 from rfl, numE_zero]; rfl
  rw [bodyT_succ, if_pos (by decide)]
  simp [formsT, fitT, e]
theorem f7_two : bodyT 6 (hashT h7) = some h7 := by
  unfold hashT
  rw [bodyT_succ, if_pos (by decide)]
  simp [formsT, fitT, numE_zero, h7_len]
theorem f7_three : bodyT 7 (.mk 3 0 [] [hashT h7]) = some (headT 2 h7 ++ h7) := by
  have p := putT_some f7_two
  rw [bodyT_succ, if_pos (by decide)]
  simp only [formsT, p, Option.map_some, Option.bind_some, numE_zero, List.nil_append, List.append_nil]
  exact if_pos (by decide)
theorem f7_body : bodyT 8 (fileT F7) = some ((headT 1 [2] ++ [2]) ++ (headT 3 (headT 2 h7 ++ h7) ++ (headT 2 h7 ++ h7))) := by
  have p1 := putT_some f7_one
  have p3 := putT_some f7_three
  show bodyT 8 (.mk 3 0 [] [.mk 1 2 [] [], .mk 3 0 [] [hashT h7]]) = _
  rw [bodyT_succ, if_pos (by decide)]
  simp only [formsT, p1, p3, Option.map_some, Option.bind_some, numE_zero, List.nil_append, List.append_nil]
  exact if_pos (by decide)
theorem f7_put : pfF F7 = 0 := by
  have p := putT_some f7_body
  have hr : rightF F7 = true := by decide
  unfold pfF
  rw [if_pos hr]
  unfold objF putF putB
  rw [p]
  exact if_pos ⟨rfl, by decide⟩
theorem d0_body : bodyT 8 (dirT []) = some [] := by
  show bodyT 8 (.mk 3 0 [] []) = _
  rw [bodyT_succ, if_pos (by decide)]
  simp [formsT, fitT, numE_zero]
theorem d0_put : pdF partB cmpS [] = 0 ∧ pdB partB cmpS [] = [3, 0, 0] ∧ pdK partB cmpS [] = 3 := by
  have p := putT_some d0_body
  have hr : rightD partB cmpS [] = true := by decide
  have ho : objF (dirT []) = 0 := by
    unfold objF putF putB
    rw [p]
    exact if_pos ⟨rfl, by decide⟩
  have hf : pdF partB cmpS [] = 0 := by unfold pdF; rw [if_pos hr, ho]
  refine ⟨hf, ?_, pdK_ok hf⟩
  rw [pdB_ok hf]
  unfold putB
  rw [p]
  rfl
section
variable {ops : Array Oper} {rest : List Oper} {o : Oper} {a : Act} {Q : Exit → Act → World → Prop} {w : World} {cs : Array Value}
theorem wl_buildG (hw : Region.wanted o (yielded ops a.tmps) = true) (ty : TypeId) (parts : Array (Nat × Operand)) (ho : o.op = .build ty parts) (hb : Try.prog.built ty (parts.map fun (i, x) => (i, a.eval x)).toList = some cs)
    (hk : wpList Try.prog ops Q rest (a.put o.dst (.agg cs)) w) : wpList Try.prog ops Q (o :: rest) a w :=
  BigFrame.wpList_want hw fun _ hK => wp_build ty parts ho (by rw [hb]; rfl) (by rw [hb]; exact hK _ _ hk)
theorem wl_eqN (hw : Region.wanted o (yielded ops a.tmps) = true) (x y : Operand) (t2 : TypeId) (ho : o.op = .binOp .eql 107 x y t2) {nm nm' : List UInt8} (hx : a.eval x = .agg (NC nm)) (hy : a.eval y = .agg (NC nm')) (hn : nm.length = 32) (hn' : nm'.length = 32)
    (hk : wpList Try.prog ops Q rest (a.put o.dst (.bool (decide (nm = nm')))) w) : wpList Try.prog ops Q (o :: rest) a w := by
  refine BigFrame.wpList_want hw fun _ hK => ?_
  unfold Oper.wp execOp
  simp only [ho, hx, hy, Sem.run_bind, guard_nc, eql_nc _ _ _ hn hn', Result.andThen_ok, Sem.run_pure]
  exact hK _ _ hk
end
theorem wl_eqR {ops : Array Oper} {rest : List Oper} {o : Oper} {a : Act} {Q : Exit → Act → World → Prop} {w : World} {R : Array Value} {nm : List UInt8} (hR : R = NC nm) (hn : nm.length = 32) (hw : Region.wanted o (yielded ops a.tmps) = true) (x y : Operand) (t2 : TypeId) (ho : o.op = .binOp .eql 107 x y t2) (hx : a.eval x = .agg R) (hy : a.eval y = .agg R)
    (hk : wpList Try.prog ops Q rest (a.put o.dst (.bool true)) w) : wpList Try.prog ops Q (o :: rest) a w := by
  subst hR
  refine wl_eqN hw x y t2 ho hx hy hn hn ?_
  rw [decide_eq_true rfl]
  exact hk
theorem hs_one {W : World} {g t : Nat} {nm : List UInt8} (h : Blk W g t (NC nm)) (hn : nm.length = 32) : Hs W AnyB (some ⟨g, 0, none⟩) 1 1 [nm] :=
  ⟨rfl, Nat.le_refl _, fun x hx => by simp at hx; subst hx; exact NC_size hn, by simp [NC, u8s, hn], fun _ => ⟨_, rfl, trivial, fun j u hu => by rw [add_plain, h.cell]; simpa using hu⟩⟩
theorem bs_abc {W : World} {g : Nat} {t : Nat} {a b c : UInt8} (h : Blk W g t #[.int .u8 (a.toNat : Int), .int .u8 (b.toNat : Int), .int .u8 (c.toNat : Int)]) : Bs W AnyB (some ⟨g, 0, none⟩) 3 3 [a, b, c] :=
  ⟨rfl, Nat.le_refl _, rfl, fun _ => ⟨_, rfl, trivial, fun j u hu => by rw [add_plain, h.cell]; simpa [u8s, u8v] using hu⟩⟩
theorem built107 : Try.prog.built 107 [(0, .int .u8 7)] = some (NC h7) := by kernel_rfl
set_option maxRecDepth 100000 in
theorem nd_alive (w : World) : Calls Try.prog 51 #[] w fun e w' => e = .returned (.bool true) ∧ Below w.heap.size w w' := by
  obtain ⟨d1, d2, d3⟩ := d0_put
  have HD := Lib.hid (And.intro d1 (And.intro d2 d3))
  clear d1 d2 d3
  obtain ⟨R7, hR7⟩ : ∃ R, R = NC h7 := ⟨_, rfl⟩
  have HR7 := Lib.hid hR7
  have HBT : Hid (Try.prog.built 107 [(0, .int .u8 7)] = some R7) := Lib.hid (by rw [hR7]; exact built107)
  have HS : Hid (R7.size = 32) := Lib.hid (by rw [hR7]; exact NC_size h7_len)
  obtain ⟨ie, zz, hie, hzz, hsz, hfill⟩ := fill_hash h7 h7_len
  rw [← hR7] at hfill
  have HFI := Lib.hid (And.intro hie (And.intro hzz (And.intro hsz hfill)))
  clear hie hzz hsz hfill hR7
  go_enter Try.func51, Try.ntmps51
  go_wp2_with fail
  refine (nd_putdir w AnyB none 0 0 [] (Ls.nil _ _ _) (by omega)).mono ?_
  rintro e w1 ⟨A1, n1, c1, rfl, hb1, hn1, hbe1⟩
  rw [show pdKE [] = 3 from HD.out.2.2, show pdFE [] = 0 from HD.out.1]
  rw [show pdBE [] = [3, 0, 0] from HD.out.2.1] at hb1
  obtain ⟨W2, hW2⟩ : ∃ W2, W2 = w1.alloc (.cells #[.int .i64 3, .slice A1 n1 c1] 86) := ⟨_, rfl⟩
  have HB2 : Hid (Below w.heap.size w W2) := Lib.hid (by rw [hW2]; exact hbe1.alloc hbe1.size _)
  have HX2 : Hid (∀ w', Below W2.heap.size W2 w' → Bs w' (fun j => w.heap.size ≤ j) A1 n1 c1 [3, 0, 0] ∧ Blk w' w1.heap.size 86 #[.int .i64 3, .slice A1 n1 c1]) := Lib.hid fun w' hb => by
    have h0 : Below w1.heap.size w1 W2 := by rw [hW2]; exact (Below.refl _ _).alloc (Nat.le_refl _) _
    exact ⟨hb1.after (h0.trans (hb.mono h0.size)), Blk.below (by rw [hW2]; exact Blk.new w1 86 _) hb (by rw [hW2]; simp)⟩
  have HN1 := Lib.hid hn1
  clear hb1 hbe1 hn1
  go_wp2_with (first | (refine wl_buildA (cs := R7) rfl 107 _ rfl (by simp only [List.map_toArray, List.map_cons, List.map_nil]; exact HBT.out) ?_) | (with_reducible show wpList Try.prog _ _ ({ dst := some 13, op := Op.buildSlice 79 1 _, type := _, pos := _, after := _, guard := none } :: _) _ _; go_must ((simp only [Act.put, List.setIfInBounds_toArray, List.set_cons_zero, List.set_cons_succ]; refine wpList_buildSlice rfl 79 107 1 _ rfl R7 ie zz Try.underlying79 HFI.out.1 HFI.out.2.1 (by rw [HFI.out.2.2.1]; omega) (by rw [HFI.out.2.2.1]; omega) ((congrArg (Instr.fill _ _) (by simp only [List.map_toArray, List.map_cons, List.map_nil]; refine congrArg (fun v => [((0 : Nat), v)]) ?_; first | rfl | (simp [Act.eval]; done) | (go_simp; done))).trans HFI.out.2.2.2) ?_)); simp only [Act.put, List.setIfInBounds_toArray, List.set_cons_zero, List.set_cons_succ]))
  have HH : Hid (Hs ((w1.alloc (.cells #[.int .i64 3, .slice A1 n1 c1] 86)).alloc (.cells R7 107)) AnyB (some ⟨w1.heap.size + 1, 0, none⟩) 1 1 [h7]) := Lib.hid (hs_one (t := 107) (by rw [HR7.out]; exact blk_new' (by simp)) h7_len)
  refine (nd_putfile _ AnyB 2 _ 1 1 [h7] HH.out (by omega)).mono ?_
  rintro e w3 ⟨A3, n3, c3, rfl, hb3, hn3, hbe3⟩
  have e1 : pfK ⟨2, [h7]⟩ = 2 := pfK_ok f7_put
  have e2 : pfF ⟨2, [h7]⟩ = 0 := f7_put
  rw [e1, e2]
  have HG : Hid (gfF 2 (pfB ⟨2, [h7]⟩) = 0 ∧ gfX 2 (pfB ⟨2, [h7]⟩) = ⟨2, [h7]⟩) := Lib.hid (by
    have h := file_got F7_ok f7_put
    rw [show pfK F7 = 2 from e1] at h
    exact gfF_some h)
  have HB3 : Hid (Below W2.heap.size W2 w3) := Lib.hid (by rw [hW2]; exact ((Below.refl _ _).alloc (Nat.le_refl _) _).trans (hbe3.mono (by simp)))
  have HBS3 := Lib.hid hb3
  have HN3 := Lib.hid hn3
  clear hb3 hbe3 hn3 e1 e2 hW2
  go_wp2_with fail
  obtain ⟨W4, hW4⟩ : ∃ W4, W4 = w3.alloc (.cells #[.int .i64 2, .slice A3 n3 c3] 86) := ⟨_, rfl⟩
  have HB4 : Hid (Below w3.heap.size w3 W4) := Lib.hid (by rw [hW4]; exact (Below.refl _ _).alloc (Nat.le_refl _) _)
  rw [← hW4]
  clear hW4
  refine (nd_links W4 _ A3 n3 c3 _ (HBS3.out.after HB4.out) (by have := HN3.out; omega)).mono ?_
  rintro e w5 ⟨A5, n5, c5, rfl, hl5, hbe5⟩
  rw [HG.out.1]
  rw [HG.out.2] at hl5
  have hn5 : n5 = 1 := by have := hl5.len; simp at this; omega
  subst hn5
  have HB5 : Hid (Below W2.heap.size W2 w5) := Lib.hid (HB3.out.trans ((HB4.out.trans (hbe5.mono HB4.out.size)).mono HB3.out.size))
  obtain ⟨ad, p, x, rfl, hp, hl, hat, hsz, -⟩ := hl5.at_ (k := 0) (by omega)
  have hx7 : x = h7 := by have := hl.out; simp at this; exact this.symm
  subst hx7
  have HAT : Hid (∀ w', Below w5.heap.size w5 w' → At w' p R7) := Lib.hid fun w' hb => by rw [HR7.out]; exact hat.out.after hb (hat.out.lt (by rw [hsz]; omega))
  obtain ⟨k1, k2⟩ := HX2.out w5 HB5.out
  have HK1 := Lib.hid k1
  obtain ⟨p0, p1, -⟩ := k2.two
  have HBW5 := Lib.hid (HB2.out.trans (HB5.out.mono HB2.out.size))
  clear k1 k2 hl5 hat hsz hl hbe5
  go_wp2_with (first | (go_at_call 26; refine (bytes_any _ _ _ A1 _ n1 3 c1 3 [3, 0, 0] [3, 0, 0] (HK1.out.after ((Below.refl _ _).alloc (Nat.le_refl _) _)) (bs_abc (t := 5) (blk_new' rfl)) (by have := HN1.out; omega) (by omega)).mono ?_; rintro e w6 ⟨rfl, j6, rfl⟩; rw [decide_eq_true rfl]) | (refine wl_ldA (cs := R7) rfl 107 _ rfl (by rw [HS.out]; exact wide107) rfl (HAT.out _ (below_drewN ((Below.refl _ _).alloc (Nat.le_refl _) _) _)) ?_) | (refine wl_buildG (cs := R7) rfl 107 _ rfl (by simp only [List.map_toArray, List.map_cons, List.map_nil]; exact HBT.out) ?_) | (refine wl_eqR HR7.out h7_len rfl _ _ _ rfl rfl rfl ?_))
  go_ret
  exact ⟨rfl, below_drewN (HBW5.out.alloc HBW5.out.size _) _⟩
end Go.Proofs.Ytaebmhbggbpnoaa
