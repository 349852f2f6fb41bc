/- The walk of asFile (node). Conditions: each theorem's premises. -/
import Derived.Test.YtaebmhbggbpnoaaGNd10
namespace Go.Proofs.Ytaebmhbggbpnoaa
open Go.RowKit
theorem load89 {W : World} {g t : Nat} {a b : Value} (hB : Blk W g t #[a, b]) : (loadVar 89 ⟨g, 0, none⟩).run Try.prog W = .ok (.agg #[a, b]) W := by
  have z0 := hB.cell 0
  have z1 := hB.cell 1
  simp at z0 z1
  simp [loadVar, go_sem, z0, z1]
/-- What asFile's answer says of a value. -/
def AsFile (w : World) (v : TV) (e : Ending) (w' : World) : Prop := ∃ A n c sz, e = .returned (.tuple #[.agg #[.int .i64 sz, .slice A n c], .bool (asFileT v).isSome]) ∧ (∀ x, asFileT v = some x → sz = x.size ∧ Hs w' (fun k => w.heap.size ≤ k) A n c x.hs) ∧ Below w.heap.size w w'
theorem AsFile.no {w w' : World} {v : TV} {A : Option Addr} {n c : Nat} {sz : Int} (h : asFileT v = none) (hb : Below w.heap.size w w') : AsFile w v (.returned (.tuple #[.agg #[.int .i64 sz, .slice A n c], .bool false])) w' :=
  ⟨A, n, c, sz, by rw [h]; rfl, (fun x hx => by rw [h] at hx; cases hx), hb⟩
theorem asFile_no {v : TV} (h : ¬ fileShape v) : asFileT v = none := if_neg h
theorem sub_of {t : Int} {N : Nat} {b : List UInt8} {l : List TV} {i : Nat} {x : TV} (h : l[i]? = some x) : (TV.mk t N b l).sub i = x := by
  unfold TV.sub TV.list
  rw [List.getD_eq_getElem?_getD, h]
  rfl
theorem at_quad {w : World} {p : Addr} {a b c d : Value} (h0 : w.cell? p = some a) (h1 : w.cell? ⟨p.block, p.off + 1, none⟩ = some b) (h2 : w.cell? ⟨p.block, p.off + 2, none⟩ = some c) (h3 : w.cell? ⟨p.block, p.off + 3, none⟩ = some d) : At w p #[a, b, c, d] := fun j v hv => by
  match j, hv with
  | 0, hv => rw [show p.add 0 = p by simp [Addr.add], h0]; simpa using hv
  | 1, hv => rw [Addr.add_succ', h1]; simpa using hv
  | 2, hv => rw [Addr.add_succ', h2]; simpa using hv
  | 3, hv => rw [Addr.add_succ', h3]; simpa using hv
  | j + 4, hv => simp at hv
theorem At.far {w : World} {p : Addr} {cs : Array Value} (h : At w p cs) {q : Addr} (hq : p.block ≠ q.block) (u : Value) : At (w.setCell q u) p cs := h.keep (fun r hr _ => World.cell?_setCell_other _ _ _ _ (fun e => hq (by rw [← hr, e])))
theorem wide27 : Wide 27 4 := ⟨⟨_, Try.underlying27, rfl⟩, by kernel_rfl⟩
theorem results_89_4 {fn : Func} {p q : Tmp} (h : fn.results = #[.cell p 89, .tmp q]) (tmps : Array Value) (w : World) (g t : Nat) (a b : Value) (hp : tmps.getD p undef = .pointer (some ⟨g, 0, none⟩)) (hg : Blk w g t #[a, b]) : (results fn tmps).run Try.prog w = .ok (.tuple #[.agg #[a, b], tmps.getD q undef]) w := results_cell2 h hp (load89 hg)
theorem asHash_of {tg : Int} {m n : Nat} {b : List UInt8} {l : List TV} (h : tg = 2 ∧ n = 32) (hb : b.length = n) : asHash (.mk tg m b l) = some b := by
  obtain ⟨rfl, rfl⟩ := h
  exact if_pos ⟨rfl, hb⟩
theorem asHash_not {tg : Int} {m n : Nat} {b : List UInt8} {l : List TV} (h : ¬ (tg = 2 ∧ n = 32)) (hb : b.length = n) : asHash (.mk tg m b l) = none := if_neg (fun e => h ⟨e.1, by
  have h2 : b.length = 32 := e.2
  omega⟩)
/-- What the last step keeps: the file's box, the names. -/
structure FE (w w2 wr : World) (cs : Array Value) (A : Option Addr) (n c : Nat) (hs : List (List UInt8)) (w' : World) : Prop where
  b : Below (w.heap.size + 1) wr w'
  k : Blk w' (w.heap.size + 1) 89 cs
  l : Hs w' (fun j => w2.heap.size ≤ j) A n c hs
theorem FE.after {w w2 wr w' w'' : World} {cs : Array Value} {A : Option Addr} {n c : Nat} {hs : List (List UInt8)} (h : FE w w2 wr cs A n c hs w') (hz : w.heap.size + 1 ≤ wr.heap.size) (hb : Below w'.heap.size w' w'') : FE w w2 wr cs A n c hs w'' :=
  ⟨h.b.trans (hb.mono (Nat.le_trans hz h.b.size)), h.k.after hb, h.l.after (by omega) hb⟩
theorem FE.put {w w2 wr w' : World} {a b : Value} {A : Option Addr} {n c : Nat} {hs : List (List UInt8)} (h : FE w w2 wr #[a, b] A n c hs w') (hz : w.heap.size + 2 ≤ w2.heap.size) : FE w w2 wr #[a, b] A n c hs ((w'.setCell ⟨w.heap.size + 1, 0, none⟩ a).setCell ⟨w.heap.size + 1, 1, none⟩ b) :=
  ⟨set2_below h.b _ (Nat.le_refl _) _ _, set2_blk h.k _ _, h.l.keep (by omega) (fun p hp _ => set2_other _ _ _ _ p (by omega)) (fun _ h _ => h)⟩
theorem grown_set' (W : World) (p : Addr) (u : Value) : W.grownBy (W.setCell p u) (some p.block) := ⟨rfl, rfl, rfl, by simp, fun k _ hk => Below.heap_setCell _ _ _ _ (fun e => hk (by rw [e]))⟩
set_option maxRecDepth 100000 in
set_option maxHeartbeats 4000000 in
theorem nd_asfile (w : World) (S : Nat → Prop) (q : Quad) (v : TV) (h : VR w S q v) : Calls Try.prog 105 #[q.agg] w (AsFile w v) := by
  obtain ⟨tag, N, b, l, A2, A3, n2, c2, n3, c3, rfl, rfl, hu, -, -, hl⟩ := h.opens
  clear h
  dsimp only [Quad.agg]
  obtain ⟨W, hW⟩ : ∃ W, W = (w.alloc (.cells #[.int .i64 tag, .int .u64 (N : Int), .slice A2 n2 c2, .slice A3 n3 c3] 27)).alloc (.cells #[.int .i64 0, .slice none 0 0] 89) := ⟨_, rfl⟩
  have HB : Hid (∀ w', Below W.heap.size W w' → Below w.heap.size w w' ∧ Blk w' w.heap.size 27 #[.int .i64 tag, .int .u64 (N : Int), .slice A2 n2 c2, .slice A3 n3 c3] ∧ Blk w' (w.heap.size + 1) 89 #[.int .i64 0, .slice none 0 0]) := Lib.hid fun w' h => by
    have h0 : Below w.heap.size w W := by rw [hW]; exact ((Below.refl _ _).alloc (Nat.le_refl _) _).alloc (by simp) _
    exact ⟨h0.trans (h.mono h0.size), Blk.below (by rw [hW]; exact (Blk.new w 27 _).alloc _) h (by rw [hW]; simp; omega), Blk.below (by rw [hW]; exact blk_new' (by simp)) h (by rw [hW]; simp)⟩
  have HSZ : Hid (W.heap.size = w.heap.size + 2) := Lib.hid (by rw [hW]; simp)
  have HL := Lib.hid hl.oldS
  have HLN := Lib.hid hl.len
  clear hl
  go_enter Try.func105, Try.ntmps105
  go_wp2_with fail
  rw [← hW]
  clear hW
  obtain ⟨p0, p1, p2, p3, -⟩ := (HB.out W (Below.refl _ _)).2.1.four
  go_wp2_with fail
  refine (nd_parts_n W tag N A2 A3 n2 c2 n3 c3 2).mono ?_
  rintro e w1 ⟨rfl, hb1⟩
  have HB1 := Lib.hid hb1
  obtain ⟨hbw1, hk1, hk2⟩ := HB.out w1 hb1
  have HBW1 := Lib.hid hbw1
  have HK2 := Lib.hid hk2
  have HL1 := Lib.hid (HL.out.under (fun k h => h.2) hbw1)
  obtain ⟨q0, q1, q2, q3, -⟩ := hk2.two
  have HZ1 : Hid (w.heap.size + 2 ≤ w1.heap.size) := Lib.hid (by have := HSZ.out; have := hb1.size; omega)
  clear hb1 hbw1 hk1 hk2 p0 p1 p2 p3
  by_cases hp : tag = 3 ∧ n3 = 2
  · obtain ⟨rfl, rfl⟩ := hp
    rw [decide_eq_true ⟨rfl, rfl⟩]
    obtain ⟨ad, x0, qx, tx, ea, ex, hx, hvx, x00, x01, x02, x03, hxS, hxl⟩ := HL1.out.at_ (k := 0) (by omega)
    subst ea
    obtain ⟨ad', x1, qy, ty, ea, ey, hy, hvy, y00, y01, y02, y03, hyS, hyl⟩ := HL1.out.at_ (k := 1) (by omega)
    injection ea with ea
    subst ea
    obtain ⟨tg1, N1, b1, l1, A12, A13, n12, c12, n13, c13, rfl, rfl, hu1, -⟩ := hvx.opens
    have HSX := Lib.hid (sub_of (t := 3) (N := N) (b := b) hx.out)
    have HSY := Lib.hid (sub_of (t := 3) (N := N) (b := b) hy.out)
    dsimp only at x00 x01
    have HSH : Hid (fileShape (.mk 3 N b l) ↔ tg1 = 1 ∧ N1 ≤ 2000 ∧ ty.tag = 3) := Lib.hid (by
      unfold fileShape
      rw [HSX.out, HSY.out]
      simp only [TV.tag, TV.num, TV.list, HLN.out, true_and])
    have HU1 := Lib.hid hu1
    obtain ⟨tg2, N2, b2, l2, A22, A23, n22, c22, n23, c23, rfl, rfl, -, -, -, hl2⟩ := hvy.opens
    have HL2 := Lib.hid hl2.oldS
    have HL2N := Lib.hid hl2.len
    dsimp only at y00 y01 y02 y03
    have hyb : x1.block ≠ w.heap.size + 1 := by have := hyS.2; omega
    have hyc : ∀ i, ¬ x1 = (⟨w.heap.size + 1, i, none⟩ : Addr) := fun i e => hyb (by rw [e])
    clear hx hy hvx hvy x02 x03 hxS hxl hyS hyl hu1 hl2
    by_cases ht : tg1 = 1 ∧ N1 ≤ 2000
    · obtain ⟨rfl, hN⟩ := ht
      have HN := Lib.hid hN
      have hd : decide ((2000 : Int) < (N1 : Int)) = false := by simp; omega
      have hwr : IntKind.i64.wrap (N1 : Int) = (N1 : Int) := by unfold IntKind.wrap; simp [IntKind.bits, IntKind.signed]; omega
      obtain ⟨W1, hW1⟩ : ∃ W1, W1 = w1.setCell ⟨w.heap.size + 1, 0, none⟩ (.int .i64 (N1 : Int)) := ⟨_, rfl⟩
      have hkW : Blk W1 (w.heap.size + 1) 89 #[.int .i64 (N1 : Int), .slice none 0 0] := by rw [hW1]; have := HK2.out.set_ 0 (.int .i64 (N1 : Int)); simpa using this
      have hbW : Below (w.heap.size + 1) w1 W1 := by rw [hW1]; exact (Below.refl _ _).setCell (p := ⟨w.heap.size + 1, 0, none⟩) (Nat.le_refl _) _
      have HKW := Lib.hid hkW
      have HBW := Lib.hid hbW
      have HZW : Hid (W1.heap.size = w1.heap.size) := Lib.hid (by rw [hW1]; simp)
      clear hkW hbW
      have far : ∀ {p : Addr} {u : Value}, p.block ≠ w.heap.size + 1 → w1.cell? p = some u → W1.cell? p = some u := fun hp hu => by rw [hW1]; exact (World.cell?_setCell_other _ _ _ _ (fun e => hp (by rw [← e]))).trans hu
      have HAY := Lib.hid ((at_quad y00 y01 y02 y03).far (q := ⟨w.heap.size + 1, 0, none⟩) hyb (.int .i64 (N1 : Int)))
      have HL2W : Hid (LR W1 (fun k => S k ∧ k < w.heap.size) A23 n23 c23 l2) := Lib.hid (by rw [hW1]; exact HL2.out.keep (fun p hp _ => World.cell?_setCell_other _ _ _ _ (fun e => by have := hp.1.2; rw [← e] at this; simp at this; omega)) (fun k hk _ => hk.1))
      clear y00 y01 y02 y03 far
      go_wp2_with (refine wl_ldA (cs := #[.int .i64 tg2, .int .u64 (N2 : Int), .slice A22 n22 c22, .slice A23 n23 c23]) rfl 27 (.tmp 40) rfl wide27 rfl HAY.out ?_)
      rw [← hW1]
      clear hW1 HAY q0 q1 q2 q3 x00 x01
      refine (nd_parts_any W1 tg2 N2 A22 A23 n22 c22 n23 c23).mono ?_
      rintro e w2 ⟨rfl, hb2⟩
      have HB2 := Lib.hid hb2
      have HK3 := Lib.hid (HKW.out.after hb2)
      have HL3 := Lib.hid (HL2W.out.after hb2)
      have HBW2 : Hid (Below w.heap.size w w2) := Lib.hid (HBW1.out.trans ((HBW.out.mono (Nat.le_succ _)).trans (hb2.mono (by have := HZ1.out; have := HZW.out; omega))))
      have HZ2 : Hid (w.heap.size + 2 ≤ w2.heap.size) := Lib.hid (by have := HZ1.out; have := HZW.out; have := hb2.size; omega)
      clear hb2
      have hn23 := HL3.out.few
      obtain ⟨F, hF⟩ : ∃ F, F = decide (tg2 = 3) := ⟨_, rfl⟩
      rw [← hF]
      have HF := Lib.hid hF
      clear hF
      have HSH' : Hid (fileShape (.mk 3 N b l) ↔ tg2 = 3) := Lib.hid (by rw [HSH.out]; simp only [TV.tag]; exact ⟨fun h => h.2.2, fun h => ⟨trivial, HN.out, h⟩⟩)
      have HSOME : Hid (tg2 = 3 → asFileT (.mk 3 N b l) = (allT asHash l2).bind fun hs => if rightF ⟨(N1 : Int), hs⟩ = true then some ⟨(N1 : Int), hs⟩ else none) := Lib.hid fun h3 => by
        unfold asFileT
        rw [if_pos (HSH'.out.2 h3), HSX.out, HSY.out]
        rfl
      have HNONE : Hid (allT asHash l2 = none → asFileT (.mk 3 N b l) = none) := Lib.hid fun hn => by
        by_cases h3 : tg2 = 3
        · rw [HSOME.out h3, hn]; rfl
        · exact asFile_no (fun e => h3 (HSH'.out.1 e))
      clear HSH
      go_wp2_with fail
      go_loopw [3, 47] (fun v3 v47 wr => v3 = .bool F ∧ ∃ (k : Nat) (A4 : Option Addr) (c4 : Nat) (hs : List (List UInt8)), k ≤ n23 ∧ v47 = .int .i64 (k : Int) ∧ Hid (Blk wr (w.heap.size + 1) 89 #[.int .i64 (N1 : Int), .slice A4 k c4]) ∧ Hid (allT asHash (l2.take k) = some hs) ∧ Hid (wr.ownsRow w2.heap.size 107 32 (.slice A4 k c4) k (hs.flatMap fun x => (NC x).toList)) ∧ Hid (Below (w.heap.size + 1) w2 wr)) (fun _ v47 _ => n23 - (intOf v47).toNat)
      case atStart => exact ⟨rfl, 0, none, 0, [], Nat.zero_le _, rfl, HK3, Lib.hid rfl, Lib.hid (World.ownsRow_nil _ _ _ _), Lib.hid (Below.refl _ _)⟩
      case round =>
        obtain ⟨rfl, k, A4, c4, hs, hk, rfl, HBK, HAL, HOW, HBR⟩ := hrel
        by_cases hlt : k < n23
        · have hlt' : (k : Int) < (n23 : Int) := by omega
          obtain ⟨ad3, x3, q3, v3, rfl, hx3, hv3, hr3, z0, z1, z2, z3, -, -⟩ := (HL3.out.under (B := w.heap.size + 1) (fun j h => by omega) HBR.out).at_ hlt
          obtain ⟨tg3, N3, b3, l3, A32, A33, n32, c32, n33, c33, rfl, rfl, -, hb3, -⟩ := hr3.opens
          dsimp only at z0 z1 z2 z3
          have HB3 := Lib.hid hb3
          have HV3 := Lib.hid hv3.out
          clear hv3 hr3 hb3
          go_wp2_with fail
          refine (nd_hash _ _ tg3 N3 A32 A33 n32 c32 n33 c33 b3 (HB3.out.after ((Below.refl _ _).alloc (Nat.le_refl _) _))).mono ?_
          rintro e w3 ⟨rfl, hb4⟩
          have HB4 : Hid (Below wr.heap.size wr w3) := Lib.hid (((Below.refl _ _).alloc (Nat.le_refl _) _).trans (hb4.mono (by simp)))
          have HBK3 := Lib.hid (HBK.out.after HB4.out)
          have HOW3 := Lib.hid (own_below HOW.out HB4.out (Nat.le_refl _))
          have HBR3 : Hid (Below (w.heap.size + 1) w2 w3) := Lib.hid (HBR.out.trans (HB4.out.mono (by have := HZ2.out; have := HBR.out.size; omega)))
          have HZ3 : Hid (w2.heap.size ≤ w3.heap.size) := Lib.hid HBR3.out.size
          clear hb4
          obtain ⟨RV, hRV⟩ : ∃ R, R = NC (hashX tg3 n32 b3) := ⟨_, rfl⟩
          have HRV := Lib.hid hRV
          have HS : Hid (RV.size = 32) := Lib.hid (by
            rw [hRV]
            refine NC_size ?_
            unfold hashX
            split
            · next h => rw [HB3.out.len]; exact h.2
            · exact noName_len)
          have HO : Hid (RV.all (·.oneCell') = true) := Lib.hid (by rw [hRV]; exact NC_one _)
          rw [← hRV]
          clear hRV
          by_cases hok : tg3 = 2 ∧ n32 = 32
          · rw [decide_eq_true hok]
            have HAS := Lib.hid (asHash_of (m := N3) (l := l3) hok HB3.out.len)
            have HRV' : Hid (RV = NC b3) := Lib.hid (by rw [HRV.out]; unfold hashX; rw [if_pos hok])
            have HLB : Hid (b3.length = 32) := Lib.hid (by rw [HB3.out.len]; exact hok.2)
            have HNX : Hid (allT asHash (l2.take (k + 1)) = some (hs ++ [b3])) := Lib.hid (allT_next HAL.out HV3.out HAS.out)
            obtain ⟨ie, zz, hie, hzz, hsz, hfill⟩ := fill_hash b3 HLB.out
            rw [← HRV'.out] at hfill
            have HFI := Lib.hid (And.intro hie (And.intro hzz (And.intro hsz hfill)))
            clear hie hzz hsz hfill hok
            go_wp2_with (first | (refine wl_stA (cs := RV) rfl 107 (.tmp 8) (.tmp 54) rfl (by rw [HS.out]; exact wide107) rfl rfl (Blk.new w3 107 _) (by rw [HS.out]; rfl) HO.out ?_; intro w4 hb4 hg4 hf4; go_must ((have HBH := Lib.hid hb4; have HF4 := Lib.hid (((Below.refl w3.heap.size w3).alloc (Nat.le_refl _) _).trans (hf4 _ (Nat.le_refl _))); have hk4 := HBK3.out.after HF4.out; have HK4 := Lib.hid hk4; obtain ⟨g0, g1, g2, g3, -⟩ := hk4.two; clear hb4 hg4 hf4 hk4))) | (refine wl_ldA (cs := RV) rfl 107 (.tmp 8) rfl (by rw [HS.out]; exact wide107) rfl (At.blk HBH.out) ?_) | (with_reducible show wpList Try.prog _ _ ({ dst := some 62, op := Op.buildSlice 79 1 _, type := _, pos := _, after := _, guard := none } :: _) _ _; go_must ((simp only [Act.put, List.setIfInBounds_toArray, List.set_cons_zero, List.set_cons_succ]; refine wpList_buildSlice rfl 79 107 1 _ rfl RV ie zz Try.underlying79 HFI.out.1 HFI.out.2.1 (by rw [HFI.out.2.2.1]; omega) (by rw [HFI.out.2.2.1]; omega) ((congrArg (Instr.fill _ _) (by simp only [List.map_toArray, List.map_cons, List.map_nil]; refine congrArg (fun v => [((0 : Nat), v)]) ?_; first | rfl | (simp [Act.eval]; done) | (go_simp; done))).trans HFI.out.2.2.2) ?_)); simp only [Act.put, List.setIfInBounds_toArray, List.set_cons_zero, List.set_cons_succ]) | (at_builtin; go_must ((refine wl_appA (enc := NC) (l := hs) (y := b3) (base := w2.heap.size) (v := .slice A4 k c4) (k := k) (g := w4.heap.size) (t := 107) Try.underlying79 info107 (by rw [Value.cells]; exact NC_size noName_len) (by omega) (by omega) rfl (.tmp 60) (.tmp 62) rfl (by first | rfl | (simp [Act.eval]; done)) (by first | rfl | (simp [Act.eval]; done)) (own_below HOW3.out (HF4.out.alloc HF4.out.size _) (Nat.le_refl _)) (by rw [← HRV'.out]; exact Blk.new w4 107 RV) (NC_size HLB.out) (NC_one b3) (by omega) (by have := HZ3.out; have := HF4.out.size; simp; omega) ?_)); (intro A7 c7 w5 hown5 hb5; have hk5 := HK4.out.below ((((Below.refl _ _).alloc (by have := HZ3.out; have := HF4.out.size; omega) _).trans hb5)) (by have := HZ2.out; omega); have HK5 := Lib.hid hk5; obtain ⟨k0, k1, k2, k3, -⟩ := hk5.two)))
            exact ⟨⟨rfl, k + 1, A7, c7, hs ++ [b3], by omega, by go_num, Lib.hid (by have := HK5.out.set_ 1 (.slice A7 (k + 1) c7); simpa using this), HNX, Lib.hid (hown5.kept (row := some (w.heap.size + 1)) (grown_set' _ _ _) (.inr (fun e => by have := (own_base hown5) _ e; have := HZ2.out; omega))), Lib.hid ((HBR3.out.trans ((HF4.out.mono (by have := HZ2.out; have := HZ3.out; omega)).trans (((Below.refl _ _).alloc (by have := HZ2.out; have := HZ3.out; have := HF4.out.size; omega) _).trans (hb5.mono (by have := HZ2.out; omega))))).setCell (p := ⟨w.heap.size + 1, 1, none⟩) (Nat.le_refl _) _)⟩, by simp [intOf]; omega⟩
          · rw [decide_eq_false hok]
            have HAS := Lib.hid (asHash_not (m := N3) (l := l3) hok HB3.out.len)
            have HNO : Hid (asFileT (.mk 3 N b l) = none) := Lib.hid (HNONE.out (allT_none HV3.out HAS.out))
            clear hok
            go_wp2_with (refine wl_stA (cs := RV) rfl 107 (.tmp 8) (.tmp 54) rfl (by rw [HS.out]; exact wide107) rfl rfl (Blk.new w3 107 _) (by rw [HS.out]; rfl) HO.out ?_; intro w4 hb4 hg4 hf4; go_must ((have HBH := Lib.hid hb4; have HF4 := Lib.hid (((Below.refl w3.heap.size w3).alloc (Nat.le_refl _) _).trans (hf4 _ (Nat.le_refl _))); have hk4 := HBK3.out.after HF4.out; have HK4 := Lib.hid hk4; obtain ⟨g0, g1, g2, g3, -⟩ := hk4.two; clear hb4 hg4 hf4 hk4)))
            exact bodyPost_ret (results_cell2 rfl rfl (load89 (set2_blk HK4.out _ _))) rfl (AsFile.no HNO.out (set2_below (HBW2.out.trans ((HBR3.out.mono (by omega)).trans (HF4.out.mono (by have := HZ2.out; have := HZ3.out; omega)))) _ (Nat.le_succ _) _ _))
        · obtain rfl : k = n23 := by omega
          have hT : l2.take k = l2 := List.take_of_length_le (by rw [HL2N.out]; exact Nat.le_refl _)
          have HAL2 : Hid (allT asHash l2 = some hs) := Lib.hid (by rw [← hT]; exact HAL.out)
          have HHL : Hid (hs.length = k) := Lib.hid (by rw [allT_len HAL2.out]; exact HL2N.out)
          have HLS : Hid (Hs wr (fun j => w2.heap.size ≤ j) A4 k c4 hs) := Lib.hid (Ls.of_own HOW.out HHL.out (fun x hx => NC_size (allT_all (p := fun h => h.length = 32) HAL2.out (fun v x hv => asHash_len hv) x hx)))
          have HFE : Hid (FE w w2 wr #[.int .i64 (N1 : Int), .slice A4 k c4] A4 k c4 hs wr) := Lib.hid ⟨Below.refl _ _, HBK.out, HLS.out⟩
          have HZr : Hid (w.heap.size + 1 ≤ wr.heap.size) := Lib.hid (by have := HZ2.out; have := HBR.out.size; omega)
          have HBWr : Hid (Below w.heap.size w wr) := Lib.hid (HBW2.out.trans (HBR.out.mono (Nat.le_succ _)))
          clear hT hlt
          cases F with
          | true =>
            have HE : Hid (asFileT (.mk 3 N b l) = if rightC (N1 : Int) k = true then some ⟨(N1 : Int), hs⟩ else none) := Lib.hid (by rw [HSOME.out (by have := HF.out; simpa using this.symm), HAL2.out, Option.bind_some, rightC_F _ _ _ HHL.out])
            go_wp2_with fail
            refine wp_region_held_drew (S := fun w' => Hid (FE w w2 wr #[.int .i64 (N1 : Int), .slice A4 k c4] A4 k c4 hs w')) (by kernel_rfl) (Lib.hid (HFE.out.after HZr.out ((Below.refl _ _).drew))) (fun hHeld => ?_)
            refine wpAnyH_take (i := 0) (oi := { dst := some 66, op := Op.load 89 (Operand.tmp 2), type := 89, pos := "node.go:138", after := #[], guard := none }) (v := ?vT0) rfl (by kernel_rfl) (by kernel_rfl) (by kernel_rfl) (fun _ _ _ h => h) (Or.inl ⟨by rfl, ?hyT0⟩) hHeld ?restT0
            case hyT0 => (intro w hSw; obtain ⟨c0, c1, -⟩ := (FE.k hSw).two; go_simp; try with_reducible rfl)
            try simp only [Act.put, List.setIfInBounds_toArray, List.set_cons_zero, List.set_cons_succ]
            refine wpAnyH_take (i := 1) (oi := { dst := some 67, op := Op.move (Operand.tmp 3), type := 4, pos := "node.go:138", after := #[], guard := none }) (v := ?vT1) rfl (by kernel_rfl) (by kernel_rfl) (by kernel_rfl) (fun _ _ _ h => h) (Or.inl ⟨by rfl, ?hyT1⟩) hHeld ?restT1
            case hyT1 => (intro w hSw; go_simp; try with_reducible rfl)
            try simp only [Act.put, List.setIfInBounds_toArray, List.set_cons_zero, List.set_cons_succ]
            refine wpAnyH_take (i := 2) (oi := { dst := some 68, op := Op.move (Operand.tmp 67), type := 4, pos := "node.go:138", after := #[{ on := 1, ground := Ground.data }], guard := none }) (v := ?vT2) rfl (by kernel_rfl) (by kernel_rfl) (by kernel_rfl) (fun _ _ _ h => h) (Or.inl ⟨by rfl, ?hyT2⟩) hHeld ?restT2
            case hyT2 => (intro w hSw; go_simp; try with_reducible rfl)
            try simp only [Act.put, List.setIfInBounds_toArray, List.set_cons_zero, List.set_cons_succ]
            refine wpAnyH_take (i := 3) (oi := { dst := some 69, op := Op.load 89 (Operand.tmp 2), type := 89, pos := "node.go:138", after := #[{ on := 2, ground := Ground.guard }], guard := some (2, true) }) (v := ?vT3) rfl (by kernel_rfl) (by kernel_rfl) (by kernel_rfl) (fun _ _ _ h => h) (Or.inl ⟨by rfl, ?hyT3⟩) hHeld ?restT3
            case hyT3 => (intro w hSw; obtain ⟨c0, c1, -⟩ := (FE.k hSw).two; go_simp; try with_reducible rfl)
            try simp only [Act.put, List.setIfInBounds_toArray, List.set_cons_zero, List.set_cons_succ]
            refine wpAnyH_ready (rs := [4]) (by kernel_rfl) (by simp) ?_
            refine AllReadyH.cons (o := { dst := some 70, op := Op.call { callee := Callee.value (Operand.func 102), args := #[Operand.tmp 69], argTypes := #[89] }, type := 4, pos := "node.go:138", after := #[{ on := 3, ground := Ground.data }, { on := 2, ground := Ground.chain }, { on := 2, ground := Ground.guard }], guard := some (2, true) }) rfl (fun K hK => ?_) AllReadyH.nil
            go_simp
            refine (nd_fright _ (N1 : Int) A4 k c4).mono ?_; rintro e wq4 ⟨rfl, hq4⟩; have HQ4 := Lib.hid hq4; clear hq4
            refine hK.out _ _ ((Lib.hid ((Hid.out hHeld).after HZr.out HQ4.out))) (fun hHeld => ?_)
            clear hK K
            try simp only [Act.put, List.setIfInBounds_toArray, List.set_cons_zero, List.set_cons_succ]
            refine wpAnyH_take (i := 5) (oi := { dst := some 71, op := Op.pick (Operand.tmp 68) (Operand.tmp 70) (Operand.const (Value.bool false)), type := 4, pos := "node.go:138", after := #[{ on := 2, ground := Ground.data }, { on := 4, ground := Ground.data }, { on := 6, ground := Ground.gcOnly Departure.lateStores }], guard := none }) (v := ?vT5) rfl (by kernel_rfl) (by kernel_rfl) (by kernel_rfl) (fun _ _ _ h => h) (Or.inl ⟨by rfl, ?hyT5⟩) hHeld ?restT5
            case hyT5 => (intro w hSw; go_simp; try with_reducible rfl)
            try simp only [Act.put, List.setIfInBounds_toArray, List.set_cons_zero, List.set_cons_succ]
            refine wpAnyH_ready (rs := [6]) (by kernel_rfl) (by simp) ?_
            refine AllReadyH.cons (o := { dst := none, op := Op.store 89 (Operand.tmp 2) (Operand.tmp 66), type := 0, pos := "node.go:138", after := #[{ on := 0, ground := Ground.data }, { on := 4, ground := Ground.chain }, { on := 0, ground := Ground.phase }, { on := 1, ground := Ground.textOnly Departure.lateStores }, { on := 2, ground := Ground.textOnly Departure.lateStores }, { on := 3, ground := Ground.phase }, { on := 4, ground := Ground.textOnly Departure.lateStoresUnsure }, { on := 5, ground := Ground.textOnly Departure.lateStores }], guard := none }) rfl (fun K hK => ?_) AllReadyH.nil
            (obtain ⟨s0, s1, f0, f1, -⟩ := (FE.k (Hid.out hHeld)).two; go_simp)
            refine hK.out _ _ ((Lib.hid ((Hid.out hHeld).put HZ2.out))) (fun hHeld => ?_)
            clear hK K
            try simp only [Act.put]
            refine wpAnyH_take (i := 7) (oi := { dst := some 3, op := Op.assign (Operand.tmp 71), type := 4, pos := "node.go:138", after := #[{ on := 5, ground := Ground.data }, { on := 6, ground := Ground.chain }, { on := 0, ground := Ground.phase }, { on := 1, ground := Ground.phase }, { on := 2, ground := Ground.phase }, { on := 3, ground := Ground.phase }, { on := 4, ground := Ground.phase }, { on := 5, ground := Ground.phase }, { on := 6, ground := Ground.phase }], guard := none }) (v := ?vT7) rfl (by kernel_rfl) (by kernel_rfl) (by kernel_rfl) (fun _ _ _ h => h) (Or.inl ⟨by rfl, ?hyT7⟩) hHeld ?restT7
            case hyT7 => (intro w hSw; go_simp; try with_reducible rfl)
            try simp only [Act.put, List.setIfInBounds_toArray, List.set_cons_zero, List.set_cons_succ]
            refine wpAnyH_done (by kernel_rfl) ?_ _
            go_wp2_with fail
            refine bodyPost_ret (results_89_4 rfl _ _ _ 89 _ _ rfl (FE.k (Hid.out hHeld))) rfl ⟨A4, k, c4, (N1 : Int), ?_, fun x hx => ?_, HBWr.out.trans ((FE.b (Hid.out hHeld)).mono (Nat.le_succ _))⟩
            · rw [HE.out]
              cases rightC (N1 : Int) k <;> rfl
            · rw [HE.out] at hx
              split at hx
              · injection hx with hx
                subst hx
                exact ⟨rfl, (FE.l (Hid.out hHeld)).mono (fun j hj => by have := HZ2.out; omega)⟩
              · cases hx
          | false =>
            have HE : Hid (asFileT (.mk 3 N b l) = none) := Lib.hid (asFile_no (fun e => by have h := HSH'.out.1 e; have h2 := HF.out; rw [decide_eq_true h] at h2; cases h2))
            go_wp2_with fail
            refine wp_region_held_drew (S := fun w' => Hid (FE w w2 wr #[.int .i64 (N1 : Int), .slice A4 k c4] A4 k c4 hs w')) (by kernel_rfl) (Lib.hid (HFE.out.after HZr.out ((Below.refl _ _).drew))) (fun hHeld => ?_)
            refine wpAnyH_take (i := 0) (oi := { dst := some 66, op := Op.load 89 (Operand.tmp 2), type := 89, pos := "node.go:138", after := #[], guard := none }) (v := ?vF0) rfl (by kernel_rfl) (by kernel_rfl) (by kernel_rfl) (fun _ _ _ h => h) (Or.inl ⟨by rfl, ?hyF0⟩) hHeld ?restF0
            case hyF0 => (intro w hSw; obtain ⟨c0, c1, -⟩ := (FE.k hSw).two; go_simp; try with_reducible rfl)
            try simp only [Act.put, List.setIfInBounds_toArray, List.set_cons_zero, List.set_cons_succ]
            refine wpAnyH_take (i := 1) (oi := { dst := some 67, op := Op.move (Operand.tmp 3), type := 4, pos := "node.go:138", after := #[], guard := none }) (v := ?vF1) rfl (by kernel_rfl) (by kernel_rfl) (by kernel_rfl) (fun _ _ _ h => h) (Or.inl ⟨by rfl, ?hyF1⟩) hHeld ?restF1
            case hyF1 => (intro w hSw; go_simp; try with_reducible rfl)
            try simp only [Act.put, List.setIfInBounds_toArray, List.set_cons_zero, List.set_cons_succ]
            refine wpAnyH_take (i := 2) (oi := { dst := some 68, op := Op.move (Operand.tmp 67), type := 4, pos := "node.go:138", after := #[{ on := 1, ground := Ground.data }], guard := none }) (v := ?vF2) rfl (by kernel_rfl) (by kernel_rfl) (by kernel_rfl) (fun _ _ _ h => h) (Or.inl ⟨by rfl, ?hyF2⟩) hHeld ?restF2
            case hyF2 => (intro w hSw; go_simp; try with_reducible rfl)
            try simp only [Act.put, List.setIfInBounds_toArray, List.set_cons_zero, List.set_cons_succ]
            refine wpAnyH_take (i := 3) (oi := { dst := some 69, op := Op.load 89 (Operand.tmp 2), type := 89, pos := "node.go:138", after := #[{ on := 2, ground := Ground.guard }], guard := some (2, true) }) (v := undef) rfl (by kernel_rfl) (by kernel_rfl) (by kernel_rfl) (fun _ _ _ h => h) (Or.inr ⟨by rfl, rfl⟩) hHeld ?_
            try simp only [Act.put, List.setIfInBounds_toArray, List.set_cons_zero, List.set_cons_succ]
            refine wpAnyH_ready (rs := [4]) (by kernel_rfl) (by simp) ?_
            refine AllReadyH.cons (o := { dst := some 70, op := Op.call { callee := Callee.value (Operand.func 102), args := #[Operand.tmp 69], argTypes := #[89] }, type := 4, pos := "node.go:138", after := #[{ on := 3, ground := Ground.data }, { on := 2, ground := Ground.chain }, { on := 2, ground := Ground.guard }], guard := some (2, true) }) rfl (fun K hK => ?_) AllReadyH.nil
            go_simp
            refine hK.out _ _ hHeld (fun hHeld => ?_)
            clear hK K
            try simp only [Act.put, List.setIfInBounds_toArray, List.set_cons_zero, List.set_cons_succ]
            refine wpAnyH_take (i := 5) (oi := { dst := some 71, op := Op.pick (Operand.tmp 68) (Operand.tmp 70) (Operand.const (Value.bool false)), type := 4, pos := "node.go:138", after := #[{ on := 2, ground := Ground.data }, { on := 4, ground := Ground.data }, { on := 6, ground := Ground.gcOnly Departure.lateStores }], guard := none }) (v := ?vF5) rfl (by kernel_rfl) (by kernel_rfl) (by kernel_rfl) (fun _ _ _ h => h) (Or.inl ⟨by rfl, ?hyF5⟩) hHeld ?restF5
            case hyF5 => (intro w hSw; go_simp; try with_reducible rfl)
            try simp only [Act.put, List.setIfInBounds_toArray, List.set_cons_zero, List.set_cons_succ]
            refine wpAnyH_ready (rs := [6]) (by kernel_rfl) (by simp) ?_
            refine AllReadyH.cons (o := { dst := none, op := Op.store 89 (Operand.tmp 2) (Operand.tmp 66), type := 0, pos := "node.go:138", after := #[{ on := 0, ground := Ground.data }, { on := 4, ground := Ground.chain }, { on := 0, ground := Ground.phase }, { on := 1, ground := Ground.textOnly Departure.lateStores }, { on := 2, ground := Ground.textOnly Departure.lateStores }, { on := 3, ground := Ground.phase }, { on := 4, ground := Ground.textOnly Departure.lateStoresUnsure }, { on := 5, ground := Ground.textOnly Departure.lateStores }], guard := none }) rfl (fun K hK => ?_) AllReadyH.nil
            (obtain ⟨s0, s1, f0, f1, -⟩ := HBK.out.two; go_simp)
            refine hK.out _ _ ((Lib.hid ((Hid.out hHeld).put HZ2.out))) (fun hHeld => ?_)
            clear hK K
            try simp only [Act.put]
            refine wpAnyH_take (i := 7) (oi := { dst := some 3, op := Op.assign (Operand.tmp 71), type := 4, pos := "node.go:138", after := #[{ on := 5, ground := Ground.data }, { on := 6, ground := Ground.chain }, { on := 0, ground := Ground.phase }, { on := 1, ground := Ground.phase }, { on := 2, ground := Ground.phase }, { on := 3, ground := Ground.phase }, { on := 4, ground := Ground.phase }, { on := 5, ground := Ground.phase }, { on := 6, ground := Ground.phase }], guard := none }) (v := ?vF7) rfl (by kernel_rfl) (by kernel_rfl) (by kernel_rfl) (fun _ _ _ h => h) (Or.inl ⟨by rfl, ?hyF7⟩) hHeld ?restF7
            case hyF7 => (intro w hSw; go_simp; try with_reducible rfl)
            try simp only [Act.put, List.setIfInBounds_toArray, List.set_cons_zero, List.set_cons_succ]
            refine wpAnyH_done (by kernel_rfl) ?_ _
            go_wp2_with fail
            exact bodyPost_ret (results_89_4 rfl _ _ _ 89 _ _ rfl (FE.k (Hid.out hHeld))) rfl (AsFile.no HE.out (HBWr.out.trans ((FE.b (Hid.out hHeld)).mono (Nat.le_succ _))))
    · have HNO : Hid (asFileT (.mk 3 N b l) = none) := Lib.hid (asFile_no (fun e => ht ⟨(HSH.out.1 e).1, (HSH.out.1 e).2.1⟩))
      rcases (show tg1 ≠ 1 ∨ (tg1 = 1 ∧ 2000 < N1) by omega) with h1 | ⟨h1, h2⟩
      · have d1 : (tg1 != 1) = true := by simpa using h1
        clear ht h1
        go_wp2_with fail
        exact bodyPost_ret (results_cell2 rfl rfl (load89 (set2_blk HK2.out _ _))) rfl (AsFile.no HNO.out (set2_below HBW1.out _ (Nat.le_succ _) _ _))
      · subst h1
        have d2 : (2000 : Int) < (N1 : Int) := by omega
        clear ht h2
        go_wp2_with fail
        exact bodyPost_ret (results_cell2 rfl rfl (load89 (set2_blk HK2.out _ _))) rfl (AsFile.no HNO.out (set2_below HBW1.out _ (Nat.le_succ _) _ _))
  · rw [decide_eq_false hp]
    have HNO : Hid (asFileT (.mk tag N b l) = none) := Lib.hid (asFile_no (fun e => hp ⟨e.1, by have := e.2.1; simp only [TV.list] at this; rw [HLN.out] at this; exact this⟩))
    clear hp
    go_wp2_with fail
    exact bodyPost_ret (results_cell2 rfl rfl (load89 (set2_blk HK2.out _ _))) rfl (AsFile.no HNO.out (set2_below HBW1.out _ (Nat.le_succ _) _ _))
end Go.Proofs.Ytaebmhbggbpnoaa
