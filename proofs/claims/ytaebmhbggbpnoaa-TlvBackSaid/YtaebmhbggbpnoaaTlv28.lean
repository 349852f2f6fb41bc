/- The walk of build (hayloftlaw01), its loop. Conditions: each theorem's premises. -/
import Derived.Test.YtaebmhbggbpnoaaTlv27
namespace Go.Proofs.Ytaebmhbggbpnoaa
open Go.RowKit
set_option maxRecDepth 10000 in
set_option maxHeartbeats 8000000 in
theorem build_in (d : Nat) (hd : d ≤ 1000000) (ih : BuildSaid d) (w : World) (S : Nat → Prop) (A : Option Addr) (n c : Nat) (l : List ND) (h : NR w S A n c l) (hn : n ≤ 40) (hsh : ∀ x ∈ l, x.bytes.length ≤ 3000) (hpos : 0 < n) :
    Calls Try.prog 44 #[.slice A n c, .int .i64 ((d + 1 : Nat) : Int)] w fun e w' => ∃ qa qb v m, e = .returned (.tuple #[qa.agg, qb.agg, .int .i64 ((m : Nat) : Int)]) ∧ VR w' (fun k => (S k ∧ k < w.heap.size) ∨ w.heap.size ≤ k) qa v ∧ VR w' (fun k => (S k ∧ k < w.heap.size) ∨ w.heap.size ≤ k) qb v ∧ m ≤ n ∧ Below w.heap.size w w' := by
  have IH := Lib.hid ih
  have HSH := Lib.hid hsh
  obtain ⟨W, hW⟩ : ∃ W, W = (w.alloc (.cells #[.int .i64 0, .int .u64 0, .slice none 0 0, .slice none 0 0] 27)).alloc (.cells #[.int .i64 0, .int .u64 0, .slice none 0 0, .slice none 0 0] 33) := ⟨_, rfl⟩
  have hbW : Below w.heap.size w W := by rw [hW]; exact ((Below.refl _ _).alloc (Nat.le_refl _) _).alloc (by simp) _
  have hsz : W.heap.size = w.heap.size + 2 := by rw [hW]; simp
  have hX1 : Blk W w.heap.size 27 #[.int .i64 0, .int .u64 0, .slice none 0 0, .slice none 0 0] := by rw [hW]; exact (Blk.new w 27 _).alloc _
  have hX2 : Blk W (w.heap.size + 1) 33 #[.int .i64 0, .int .u64 0, .slice none 0 0, .slice none 0 0] := by
    rw [hW]
    have := Blk.new (w.alloc (.cells #[.int .i64 0, .int .u64 0, .slice none 0 0, .slice none 0 0] 27)) 33 #[.int .i64 0, .int .u64 0, .slice none 0 0, .slice none 0 0]
    simpa only [World.size_alloc] using this
  have D0 : (((d + 1 : Nat) : Int) == 0) = false := by simp; omega
  have D1 : ((d + 1 : Nat) : Int) - 1 = (d : Int) := by omega
  have D2 : ((d + 1 : Nat) : Int) ≤ 1000001 := by omega
  have D3 : (0 : Int) ≤ ((d + 1 : Nat) : Int) := by omega
  generalize ((d + 1 : Nat) : Int) = dd at *
  have N0 : ((n : Int) == 0) = false := by simp; omega
  have hpos' : (0 : Int) < (n : Int) := by omega
  obtain ⟨ad, px, A2, n2, c2, y, rfl, hpx, hy, hu, hm, hbs, hn2, x0, x1, x2, x3⟩ := h.at_ (k := 0) hpos
  obtain rfl : px = ad := by rw [← hpx]; simp [Addr.add]
  have hplw := World.block_lt_of_cell? w _ x0
  have y0 := (hbW.cell hplw).trans x0
  have y1 := (hbW.cell (p := ⟨px.block, px.off + 1, none⟩) hplw).trans x1
  have y2 := (hbW.cell (p := ⟨px.block, px.off + 2, none⟩) hplw).trans x2
  have y3 := (hbW.cell (p := ⟨px.block, px.off + 3, none⟩) hplw).trans x3
  have hy2 : n2 ≤ 3000 := by rw [← hbs.len]; exact HSH.out y (List.mem_of_getElem? hy.out)
  have hHX1 := Lib.hid hX1
  have hHX2 := Lib.hid hX2
  have HW := Lib.hid hW
  clear ih hW hX1 hX2
  go_enter Try.func44, Try.ntmps44
  go_wp2_with fail
  have hW := HW.out
  rw [← hW]
  clear hW HW
  have hpl := World.block_lt_of_cell? W _ y0
  have p0 : ∀ o, (W.alloc o).cell? px = some (.int .i64 y.tag) := fun o => (World.cell?_alloc_lt _ _ _ hpl).trans y0
  have p2 : ∀ o, (W.alloc o).cell? ⟨px.block, px.off + 2, none⟩ = some (.int .u64 (y.num : Int)) := fun o => (World.cell?_alloc_lt W o ⟨px.block, px.off + 2, none⟩ hpl).trans y2
  have p3 : ∀ o, (W.alloc o).cell? ⟨px.block, px.off + 3, none⟩ = some (.slice A2 n2 c2) := fun o => (World.cell?_alloc_lt W o ⟨px.block, px.off + 3, none⟩ hpl).trans y3
  go_region
  go_wp2_with fail
  obtain ⟨W3, hW3⟩ : ∃ W3, W3 = (W.alloc (.cells #[.int .i64 y.tag, .int .u64 (y.num : Int), .slice A2 n2 c2, .slice none 0 0] 27)).drew := ⟨_, rfl⟩
  have hb3 : Below W.heap.size W W3 := by rw [hW3]; exact ((Below.refl _ _).alloc (Nat.le_refl _) _).drew
  have hs3 : W3.heap.size = w.heap.size + 3 := by rw [hW3]; simp; omega
  have hBa3 : Blk W3 (w.heap.size + 2) 27 #[.int .i64 y.tag, .int .u64 (y.num : Int), .slice A2 n2 c2, .slice none 0 0] := by rw [hW3, ← hsz]; exact (Blk.new W 27 _).drew
  rw [← hW3]
  have q0 := (hb3.cell hpl).trans y0
  have q1 := (hb3.cell (p := ⟨px.block, px.off + 1, none⟩) hpl).trans y1
  have q2 := (hb3.cell (p := ⟨px.block, px.off + 2, none⟩) hpl).trans y2
  have q3 := (hb3.cell (p := ⟨px.block, px.off + 3, none⟩) hpl).trans y3
  have hpl3 := World.block_lt_of_cell? W3 _ q0
  have p0' : ∀ o, (W3.alloc o).cell? px = some (.int .i64 y.tag) := fun o => (World.cell?_alloc_lt _ _ _ hpl3).trans q0
  have p2' : ∀ o, (W3.alloc o).cell? ⟨px.block, px.off + 2, none⟩ = some (.int .u64 (y.num : Int)) := fun o => (World.cell?_alloc_lt W3 o ⟨px.block, px.off + 2, none⟩ hpl3).trans q2
  have p3' : ∀ o, (W3.alloc o).cell? ⟨px.block, px.off + 3, none⟩ = some (.slice A2 n2 c2) := fun o => (World.cell?_alloc_lt W3 o ⟨px.block, px.off + 3, none⟩ hpl3).trans q3
  clear p0 p2 p3 hW3
  go_cut [8] (fun s8 wx => s8 = .pointer (some ⟨w.heap.size + 3, 0, none⟩) ∧ Hid (Below W3.heap.size W3 wx ∧ wx.heap.size = w.heap.size + 4 ∧ Blk wx (w.heap.size + 3) 33 #[.int .i64 y.tag, .int .u64 (y.num : Int), .slice A2 n2 c2, .slice none 0 0]))
  case first =>
    go_region
    go_wp2_with fail
    go_meet
    refine ⟨rfl, Lib.hid ⟨((Below.refl _ _).alloc (Nat.le_refl _) _).drew, by simp; omega, ?_⟩⟩
    rw [← hs3]; exact (Blk.new W3 33 _).drew
  obtain ⟨rfl, hcc⟩ := hcut
  rename World => W4
  have hb4 := hcc.out.1
  have hs4 := hcc.out.2.1
  have hBb4 := hcc.out.2.2
  have hBa4 := hBa3.after hb4
  have hb24 : Below W.heap.size W W4 := hb3.trans (hb4.mono hb3.size)
  have hbl4 : Below w.heap.size w W4 := hbW.trans (hb24.mono hbW.size)
  clear p0' p2' p3' q0 q1 q2 q3 hb3 hb4 hBa3 hcc
  have HNR := Lib.hid h.oldS
  have HBS := Lib.hid (And.intro hu (hbs.oldS))
  clear h hbs y0 y1 y2 y3 x0 x2 x3 hsh hpl hpl3
  go_wp2_with fail
  have hst : BInv w W4 S y.tag y.num A2 n2 c2 0 W4 := ⟨none, none, 0, 0, [], hBa4, hBb4, LO.nil _ _ _ _, LO.nil _ _ _ _, .inl rfl, Below.refl _ _⟩
  have HST := Lib.hid hst
  clear hst hBa4 hBb4
  go_loopw [9, 10] (fun av iv wr => ∃ a i k : Nat, 1 ≤ a ∧ a ≤ n ∧ i + 1 ≤ a ∧ k + 1 ≤ a ∧ av = .int .i64 (a : Int) ∧ iv = .int .i64 (i : Int) ∧ Hid (BInv w W4 S y.tag y.num A2 n2 c2 k wr)) (fun av _ _ => n - (intOf av).toNat)
  case atStart => exact ⟨1, 0, 0, by omega, by omega, by omega, by omega, rfl, rfl, HST⟩
  case round =>
    obtain ⟨a, i, k, ha1, han, hia, hka, rfl, rfl, HI⟩ := hrel
    clear HST
    have hbr : Below (w.heap.size + 2) W4 wr := by obtain ⟨_, _, _, _, _, _, _, _, _, _, h⟩ := HI.out; exact h
    have hbw : Below w.heap.size w wr := hbl4.trans (hbr.mono (by omega))
    have hsr : w.heap.size + 4 ≤ wr.heap.size := by have := hbr.size; omega
    have r1 : wr.cell? ⟨px.block, px.off + 1, none⟩ = some (.int .i64 y.many) := (hbw.cell (p := ⟨px.block, px.off + 1, none⟩) hplw).trans x1
    have HBR := Lib.hid hbr
    clear hs3 hs4 hbr
    by_cases h1 : (i : Int) < y.many
    · by_cases h2 : a < n
      · have h2' : (a : Int) < (n : Int) := by omega
        obtain ⟨A', c', hsl, hNs⟩ := HNR.out.from_ (a : Int) a (n - a) rfl (by omega)
        have HC := Lib.hid (IH.out wr _ A' (n - a) c' (l.drop a) (hNs.after hbw) (by omega) (fun x hx => HSH.out x (List.mem_of_mem_drop hx)))
        clear hNs
        go_wp2_with fail
        refine (HC.out).mono ?_
        rintro e w1 ⟨qa, qb, v, m, rfl, hva, hvb, hmn, hb1⟩
        obtain ⟨t1, m1, bb1, ll1, E2, E3, e2, f2, e3, f3, rfl, hvv1, -⟩ := hva.opens
        obtain ⟨t2, m2, bb2, ll2, G2, G3, g2, k2, g3, k3, rfl, hvv2, -⟩ := hvb.opens
        dsimp only [Quad.agg]
        obtain ⟨W5, hW5⟩ : ∃ W5, W5 = (w1.alloc (.cells #[.int .i64 t1, .int .u64 (m1 : Int), .slice E2 e2 f2, .slice E3 e3 f3] 27)).alloc (.cells #[.int .i64 t2, .int .u64 (m2 : Int), .slice G2 g2 k2, .slice G3 g3 k3] 33) := ⟨_, rfl⟩
        have hb5 : Below wr.heap.size wr W5 := by rw [hW5]; exact (hb1.alloc hb1.size _).alloc (by have := hb1.size; simp; omega) _
        have hb15 : Below w1.heap.size w1 W5 := by rw [hW5]; exact ((Below.refl _ _).alloc (Nat.le_refl _) _).alloc (by simp) _
        have hX5 : Blk W5 w1.heap.size 27 #[.int .i64 t1, .int .u64 (m1 : Int), .slice E2 e2 f2, .slice E3 e3 f3] := by rw [hW5]; exact (Blk.new w1 27 _).alloc _
        have hY5 : Blk W5 (w1.heap.size + 1) 33 #[.int .i64 t2, .int .u64 (m2 : Int), .slice G2 g2 k2, .slice G3 g3 k3] := by
          rw [hW5]
          have := Blk.new (w1.alloc (.cells #[.int .i64 t1, .int .u64 (m1 : Int), .slice E2 e2 f2, .slice E3 e3 f3] 27)) 33 #[.int .i64 t2, .int .u64 (m2 : Int), .slice G2 g2 k2, .slice G3 g3 k3]
          simpa only [World.size_alloc] using this
        have HV := Lib.hid (And.intro (hva.after hb15) (And.intro (hvb.after hb15) (And.intro hvv1 hvv2)))
        have HI5 := Lib.hid (HI.out.after hb5)
        have HX5 := Lib.hid hX5
        have HY5 := Lib.hid hY5
        have HB5 := Lib.hid hb5
        have HW5 := Lib.hid hW5
        have hs1 := hb1.size
        have HI0 := HI
        clear hva hvb hb1 hvv1 hvv2 hX5 hY5 hb5 hb15 hW5 HI HC
        have HI := HI5
        clear HI5
        by_cases hm0 : m = 0
        · have m0 : ((m : Int) == 0) = true := by simp [hm0]
          clear hm0
          obtain ⟨Ya, Yb, ya, yb, ms, yBa, yBb, yLa, yLb, -, ybr⟩ := HI.out
          have HYa := Lib.hid yLa
          have HYb := Lib.hid yLb
          obtain ⟨za0, za1, za2, za3, fa0, fa1, fa2, fa3, hza⟩ := yBa.four
          obtain ⟨zb0, zb1, zb2, zb3, fb0, fb1, fb2, fb3, hzb⟩ := yBb.four
          have HO1 := Lib.hid ((hHX1.out.below hb24 (by omega)).below ybr (by omega))
          have HO2 := Lib.hid ((hHX2.out.below hb24 (by omega)).below ybr (by omega))
          obtain ⟨g0, g1, g2, g3, e0, e1, e2, e3, hg⟩ := HO1.out.four
          obtain ⟨k0, k1, k2, k3, d0, d1, d2, d3, hk⟩ := HO2.out.four
          have HBW := Lib.hid (hbw.trans (HB5.out.mono (by omega)))
          clear yLa yLb yBa yBb ybr
          go_wp2_with fail
          rw [← HW5.out]
          clear HW5
          go_region
          go_wp2_with fail
          obtain ⟨f1, f2, f3, f4, f5⟩ := build_fin (S := S) (T := fun j => (S j ∧ j < w.heap.size) ∨ w.heap.size + 4 ≤ j) HBW.out HO1.out HO2.out HBS.out.1 HBS.out.2 (by omega) (fun j h => h) (HYa.out.reads.keep (fun _ _ _ => rfl) (fun j hj _ => by rcases hj with hj | hj; exact hj.1; exact .inr hj)) (HYb.out.reads.keep (fun _ _ _ => rfl) (fun j hj _ => by rcases hj with hj | hj; exact hj.1; exact .inr hj))
          refine bodyPost_ret (results_cct rfl rfl rfl (load27 f1) (load33 f2)) rfl ?_
          exact ⟨⟨.int .i64 y.tag, .int .u64 (y.num : Int), .slice A2 n2 c2, .slice Ya k ya⟩, ⟨.int .i64 y.tag, .int .u64 (y.num : Int), .slice A2 n2 c2, .slice Yb k yb⟩, _, a, rfl, f3, f4, han, f5⟩
        · have m0 : ((m : Int) == 0) = false := by simp [hm0]
          have hm1 : 1 ≤ m := by omega
          clear hm0
          obtain ⟨Ya, Yb, ya, yb, ms, yBa, yBb, yLa, yLb, yD, ybr⟩ := HI0.out
          clear HI HI0
          have hla := yLa.base_lt
          have hlb := yLb.base_lt
          have yBa := yBa.after HB5.out
          have yBb := yBb.after HB5.out
          have yLa := yLa.after HB5.out
          have yLb := yLb.after HB5.out
          have ybr := ybr.trans (HB5.out.mono (by omega))
          have hkl := yLa.len
          have HVQ := Lib.hid (And.intro (HV.out.1.keep (w' := W5) (S' := fun j => (((S j ∧ j < w.heap.size) ∨ w.heap.size + 4 ≤ j) ∧ some j ≠ (Value.slice Yb k yb).ownBlock) ∧ some j ≠ (Value.slice Ya k ya).ownBlock) (fun _ _ _ => rfl) (fun j hj _ => in_both hla hlb hsr hj)) (HV.out.2.1.keep (w' := W5) (S' := fun j => (((S j ∧ j < w.heap.size) ∨ w.heap.size + 4 ≤ j) ∧ some j ≠ (Value.slice Yb k yb).ownBlock) ∧ some j ≠ (Value.slice Ya k ya).ownBlock) (fun _ _ _ => rfl) (fun j hj _ => in_both hla hlb hsr hj)))
          obtain ⟨qs, hq, hown, hch, hvn, hrn⟩ := yLa.ready (e' := 27) (Below.refl _ W5) HVQ.out.1 (fun j hj _ => hj)
          obtain ⟨i0, hi0, hj0, hj1, hj2⟩ := info_parts Try.info27
          obtain ⟨za0, za1, za2, za3, fa0, fa1, fa2, fa3, hza⟩ := yBa.four
          obtain ⟨x0, x1', x2, x3, fx0, fx1, fx2, fx3, hzx⟩ := HX5.out.four
          have HA := Lib.hid (And.intro yLa (And.intro yLb (And.intro yD (And.intro ybr (And.intro yBa (And.intro yBb (And.intro hq (And.intro hch hvn))))))))
          have HLB := Lib.hid (And.intro hla hlb)
          clear yLa yLb yD ybr yBa yBb hla hlb hq hch
          have hsz5 : wr.heap.size ≤ W5.heap.size := HB5.out.size
          have e1 : ¬ W5.heap.size = w.heap.size + 2 := by omega
          have hkn : k + 1 ≤ 1000000000 := by omega
          go_upto_region 11 with (fail)
          rw [← HW5.out]
          clear HW5
          go_upto_region 12 with (at_builtin; go_must (refine wpList_append_any _ rfl (.tmp 76) (.tmp 78) 25 rfl (w.heap.size + 4) 27 i0 _ 4 64 Try.underlying25 hi0 hj0 hj1 hj2 rfl (by omega) (.slice Ya k ya) k (flat qs) rfl hown AnyB _ 1 1 (flat [⟨.int .i64 t1, .int .u64 (m1 : Int), .slice E2 e2 f2, .slice E3 e3 f3⟩]) rfl hrn hvn.cells_one' (by simp only [maxLen]; omega) (by omega) (by simp; omega) ?_); intro v6 w6 hown6 hg6 hat6; obtain ⟨Pa, pa, rfl, hpa⟩ := own_shape hown6; have hB6 := (HA.out.2.2.2.2.1.alloc (.cells #[.int .i64 t1, .int .u64 (m1 : Int), .slice E2 e2 f2, .slice E3 e3 f3] 27)).grown hg6 (fun e => by have := (HLB.out.1 _ e.symm).1; omega); obtain ⟨k0, k1', k2', k3', l0, l1, l2, l3, hz6⟩ := hB6.four)
          have hT2 : ∀ j, ((S j ∧ j < w.heap.size) ∨ w.heap.size + 4 ≤ j) → j ≠ w.heap.size + 2 := fun j hj => by rcases hj with hj | hj <;> omega
          have hT3 : ∀ j, ((S j ∧ j < w.heap.size) ∨ w.heap.size + 4 ≤ j) → j ≠ w.heap.size + 3 := fun j hj => by rcases hj with hj | hj <;> omega
          obtain ⟨nLa, nLb, nD⟩ := two_grow HA.out.1 HA.out.2.1 HA.out.2.2.1 hkn HA.out.2.2.2.2.2.2.1 HA.out.2.2.2.2.2.2.2.1 HA.out.2.2.2.2.2.2.2.2 hown6 hg6 hat6
          have nVb := vr_aside (ga := w.heap.size + 2) HVQ.out.2 hg6 hat6 hT2 3 (.slice Pa (k + 1) pa)
          have nBb : Blk (w6.setCell ⟨w.heap.size + 2, 3, none⟩ (.slice Pa (k + 1) pa)) (w.heap.size + 3) 33 #[.int .i64 y.tag, .int .u64 (y.num : Int), .slice A2 n2 c2, .slice Yb k yb] := ((HA.out.2.2.2.2.2.1.alloc _).grown hg6 (fun e => by have := (HLB.out.1 _ e.symm).1; omega)).far (p := ⟨w.heap.size + 2, 3, none⟩) (by simp) _
          have nBa : Blk (w6.setCell ⟨w.heap.size + 2, 3, none⟩ (.slice Pa (k + 1) pa)) (w.heap.size + 2) 27 #[.int .i64 y.tag, .int .u64 (y.num : Int), .slice A2 n2 c2, .slice Pa (k + 1) pa] := by simpa using hB6.set_ 3 (.slice Pa (k + 1) pa)
          have nY : Blk (w6.setCell ⟨w.heap.size + 2, 3, none⟩ (.slice Pa (k + 1) pa)) (w1.heap.size + 1) 33 #[.int .i64 t2, .int .u64 (m2 : Int), .slice G2 g2 k2, .slice G3 g3 k3] := ((HY5.out.alloc _).grown hg6 (fun e => by have := (HLB.out.1 _ e.symm).2; omega)).far (p := ⟨w.heap.size + 2, 3, none⟩) (by simp; omega) _
          have nbr : Below (w.heap.size + 2) W4 (w6.setCell ⟨w.heap.size + 2, 3, none⟩ (.slice Pa (k + 1) pa)) := ((HA.out.2.2.2.1.alloc (by omega) _).grown hg6 (by simp; omega) (fun j e => by have := (HLB.out.1 _ e).1; omega)).setCell (p := ⟨w.heap.size + 2, 3, none⟩) (Nat.le_refl _) _
          have hsz7 : W5.heap.size < (w6.setCell ⟨w.heap.size + 2, 3, none⟩ (.slice Pa (k + 1) pa)).heap.size := by have := hg6.size; simp at this ⊢; omega
          have HLa := Lib.hid (nLa.store hT2 (by omega) 3 (.slice Pa (k + 1) pa))
          have HLb := Lib.hid (nLb.store hT2 (by omega) 3 (.slice Pa (k + 1) pa))
          clear nLa nLb hB6 hown6 hg6 hat6 k0 k1' k2' k3' l0 l1 l2 l3 hz6 za0 za1 za2 za3 fa0 fa1 fa2 fa3 hza x0 x1' x2 x3 fx0 fx1 fx2 fx3 hzx hown hrn hvn
          obtain ⟨W7, hW7⟩ : ∃ W7, W7 = w6.setCell ⟨w.heap.size + 2, 3, none⟩ (.slice Pa (k + 1) pa) := ⟨_, rfl⟩
          rw [← hW7] at HLa HLb nVb nBb nBa nY nbr hsz7 ⊢
          clear hW7
          obtain ⟨rs, hq', hown', hch', hvn', hrn'⟩ := HLb.out.ready (e' := 33) (Below.refl _ W7) nVb (fun j hj _ => hj)
          obtain ⟨i1, hi1, hj3, hj4, hj5⟩ := info_parts Try.info33
          have HLB7 := Lib.hid (And.intro HLa.out.base_lt HLb.out.base_lt)
          have HA7 := Lib.hid (And.intro nD (And.intro nbr (And.intro nBa (And.intro nBb (And.intro hq' (And.intro hch' hvn'))))))
          obtain ⟨zb0, zb1, zb2, zb3, fb0, fb1, fb2, fb3, hzb⟩ := nBb.four
          obtain ⟨x0, x1', x2, x3, fx0, fx1, fx2, fx3, hzx⟩ := nY.four
          clear nD nbr nBa nBb nY hq' hch' nVb
          have e2' : ¬ W7.heap.size = w.heap.size + 3 := by omega
          go_upto_region 13 with (at_builtin; go_must (refine wpList_append_any _ rfl (.tmp 82) (.tmp 84) 31 rfl (w.heap.size + 4) 33 i1 _ 4 64 Try.underlying31 hi1 hj3 hj4 hj5 rfl (by omega) (.slice Yb k yb) k (flat rs) rfl hown' AnyB _ 1 1 (flat [⟨.int .i64 t2, .int .u64 (m2 : Int), .slice G2 g2 k2, .slice G3 g3 k3⟩]) rfl hrn' hvn'.cells_one' (by simp only [maxLen]; omega) (by omega) (by simp; omega) ?_); intro v8 w8 hown8 hg8 hat8; obtain ⟨Pb, pb, rfl, hpb⟩ := own_shape hown8; have hB8 := (HA7.out.2.2.2.1.alloc (.cells #[.int .i64 t2, .int .u64 (m2 : Int), .slice G2 g2 k2, .slice G3 g3 k3] 33)).grown hg8 (fun e => by have := (HLB7.out.2 _ e.symm).1; omega); obtain ⟨k0, k1', k2', k3', l0, l1, l2, l3, hz6⟩ := hB8.four)
          obtain ⟨oLb, oLa, oD⟩ := two_grow HLb.out HLa.out HA7.out.1.symm hkn HA7.out.2.2.2.2.1 HA7.out.2.2.2.2.2.1 HA7.out.2.2.2.2.2.2 hown8 hg8 hat8
          have oBa : Blk (w8.setCell ⟨w.heap.size + 3, 3, none⟩ (.slice Pb (k + 1) pb)) (w.heap.size + 2) 27 #[.int .i64 y.tag, .int .u64 (y.num : Int), .slice A2 n2 c2, .slice Pa (k + 1) pa] := ((HA7.out.2.2.1.alloc _).grown hg8 (fun e => by have := (HLB7.out.2 _ e.symm).1; omega)).far (p := ⟨w.heap.size + 3, 3, none⟩) (by simp) _
          have oBb : Blk (w8.setCell ⟨w.heap.size + 3, 3, none⟩ (.slice Pb (k + 1) pb)) (w.heap.size + 3) 33 #[.int .i64 y.tag, .int .u64 (y.num : Int), .slice A2 n2 c2, .slice Pb (k + 1) pb] := by simpa using hB8.set_ 3 (.slice Pb (k + 1) pb)
          have obr : Below (w.heap.size + 2) W4 (w8.setCell ⟨w.heap.size + 3, 3, none⟩ (.slice Pb (k + 1) pb)) := ((HA7.out.2.1.alloc (by omega) _).grown hg8 (by simp; omega) (fun j e => by have := (HLB7.out.2 _ e).1; omega)).setCell (p := ⟨w.heap.size + 3, 3, none⟩) (by simp) _
          have HEND : Hid (BInv w W4 S y.tag y.num A2 n2 c2 (k + 1) (w8.setCell ⟨w.heap.size + 3, 3, none⟩ (.slice Pb (k + 1) pb))) := Lib.hid ⟨Pa, Pb, pa, pb, ms ++ [v], oBa, oBb, oLa.store hT3 (by omega) 3 _, oLb.store hT3 (by omega) 3 _, oD.symm, obr⟩
          clear oLb oLa oD oBa oBb obr hB8 hown8 hg8 hat8 hown' hrn' hvn' HLa HLb HA7 HLB7
          go_wp2_with fail
          go_roundw
          case rel => exact ⟨a + m, i + 1, k + 1, by omega, by omega, by omega, by omega, by go_num, by go_num, HEND⟩
          case measure => simp [intOf]; omega
      · have h2' : ¬ (a : Int) < (n : Int) := by omega
        obtain ⟨Ya, Yb, ya, yb, ms, yBa, yBb, yLa, yLb, -, ybr⟩ := HI.out
        have HYa := Lib.hid yLa
        have HYb := Lib.hid yLb
        obtain ⟨za0, za1, za2, za3, fa0, fa1, fa2, fa3, hza⟩ := yBa.four
        obtain ⟨zb0, zb1, zb2, zb3, fb0, fb1, fb2, fb3, hzb⟩ := yBb.four
        have HO1 := Lib.hid ((hHX1.out.below hb24 (by omega)).below ybr (by omega))
        have HO2 := Lib.hid ((hHX2.out.below hb24 (by omega)).below ybr (by omega))
        obtain ⟨g0, g1, g2, g3, e0, e1, e2, e3, hg⟩ := HO1.out.four
        obtain ⟨k0, k1, k2, k3, d0, d1, d2, d3, hk⟩ := HO2.out.four
        have HBW := Lib.hid (hbw)
        clear yLa yLb yBa yBb ybr
        go_wp2_with fail
        go_region
        go_wp2_with fail
        obtain ⟨f1, f2, f3, f4, f5⟩ := build_fin (S := S) (T := fun j => (S j ∧ j < w.heap.size) ∨ w.heap.size + 4 ≤ j) HBW.out HO1.out HO2.out HBS.out.1 HBS.out.2 (by omega) (fun j h => h) (HYa.out.reads.keep (fun _ _ _ => rfl) (fun j hj _ => by rcases hj with hj | hj; exact hj.1; exact .inr hj)) (HYb.out.reads.keep (fun _ _ _ => rfl) (fun j hj _ => by rcases hj with hj | hj; exact hj.1; exact .inr hj))
        refine bodyPost_ret (results_cct rfl rfl rfl (load27 f1) (load33 f2)) rfl ?_
        exact ⟨⟨.int .i64 y.tag, .int .u64 (y.num : Int), .slice A2 n2 c2, .slice Ya k ya⟩, ⟨.int .i64 y.tag, .int .u64 (y.num : Int), .slice A2 n2 c2, .slice Yb k yb⟩, _, a, rfl, f3, f4, han, f5⟩
    · have h1' : ¬ (i : Int) < y.many := h1
      obtain ⟨Ya, Yb, ya, yb, ms, yBa, yBb, yLa, yLb, -, ybr⟩ := HI.out
      have HYa := Lib.hid yLa
      have HYb := Lib.hid yLb
      obtain ⟨za0, za1, za2, za3, fa0, fa1, fa2, fa3, hza⟩ := yBa.four
      obtain ⟨zb0, zb1, zb2, zb3, fb0, fb1, fb2, fb3, hzb⟩ := yBb.four
      have HO1 := Lib.hid ((hHX1.out.below hb24 (by omega)).below ybr (by omega))
      have HO2 := Lib.hid ((hHX2.out.below hb24 (by omega)).below ybr (by omega))
      obtain ⟨g0, g1, g2, g3, e0, e1, e2, e3, hg⟩ := HO1.out.four
      obtain ⟨k0, k1, k2, k3, d0, d1, d2, d3, hk⟩ := HO2.out.four
      have HBW := Lib.hid (hbw)
      clear yLa yLb yBa yBb ybr
      go_wp2_with fail
      go_region
      go_wp2_with fail
      obtain ⟨f1, f2, f3, f4, f5⟩ := build_fin (S := S) (T := fun j => (S j ∧ j < w.heap.size) ∨ w.heap.size + 4 ≤ j) HBW.out HO1.out HO2.out HBS.out.1 HBS.out.2 (by omega) (fun j h => h) (HYa.out.reads.keep (fun _ _ _ => rfl) (fun j hj _ => by rcases hj with hj | hj; exact hj.1; exact .inr hj)) (HYb.out.reads.keep (fun _ _ _ => rfl) (fun j hj _ => by rcases hj with hj | hj; exact hj.1; exact .inr hj))
      refine bodyPost_ret (results_cct rfl rfl rfl (load27 f1) (load33 f2)) rfl ?_
      exact ⟨⟨.int .i64 y.tag, .int .u64 (y.num : Int), .slice A2 n2 c2, .slice Ya k ya⟩, ⟨.int .i64 y.tag, .int .u64 (y.num : Int), .slice A2 n2 c2, .slice Yb k yb⟩, _, a, rfl, f3, f4, han, f5⟩
end Go.Proofs.Ytaebmhbggbpnoaa
