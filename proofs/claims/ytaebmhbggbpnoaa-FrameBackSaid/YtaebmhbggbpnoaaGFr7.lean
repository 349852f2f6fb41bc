/- The walk of record (frame). Conditions: each theorem's premises. -/
import Derived.Test.YtaebmhbggbpnoaaGFr8
import Derived.Deep.DeepCutAuto
namespace Go.Proofs.Ytaebmhbggbpnoaa
open Go.RowKit
theorem zero_rec : #[Value.int .i64 0, .int .u8 0, .int .u8 0, .int .u8 0, .int .u8 0, .int .u8 0, .int .u8 0, .int .u8 0, .int .u8 0, .int .u8 0, .int .u8 0, .int .u8 0, .int .u8 0, .int .u8 0, .int .u8 0, .int .u8 0, .int .u8 0, .int .u8 0, .int .u8 0, .int .u8 0, .int .u8 0, .int .u8 0, .int .u8 0, .int .u8 0, .int .u8 0, .int .u8 0, .int .u8 0, .int .u8 0, .int .u8 0, .int .u8 0, .int .u8 0, .int .u8 0, .int .u8 0, .slice none 0 0] = RC 0 noName (.slice none 0 0) := rfl
/-- Three boxes more. -/
theorem alloc3 (W : World) (t : TypeId) (X Y Z : Array Value) : Blk ((((W.alloc (.cells X t)).alloc (.cells Y t)).alloc (.cells Z t)).drew) W.heap.size t X ∧ Blk ((((W.alloc (.cells X t)).alloc (.cells Y t)).alloc (.cells Z t)).drew) (W.heap.size + 1) t Y ∧ Blk ((((W.alloc (.cells X t)).alloc (.cells Y t)).alloc (.cells Z t)).drew) (W.heap.size + 2) t Z ∧ Below W.heap.size W ((((W.alloc (.cells X t)).alloc (.cells Y t)).alloc (.cells Z t)).drew) :=
  ⟨(((Blk.new W t X).alloc _).alloc _).drew, ((blk_new (by simp)).alloc _).drew, (blk_new (by simp)).drew, ((((Below.refl _ W).alloc (Nat.le_refl _) _).alloc (by simp) _).alloc (by simp; omega) _).drew⟩
def RecEnd (w : World) (v : TV) (S : Nat → Prop) (e : Ending) (w' : World) : Prop :=
  match recOf v with
  | none => ∃ k nm b, e = .returned (.tuple #[.agg (RC k nm b), .bool false]) ∧ nm.length = 32 ∧ b.oneCell' = true ∧ Below w.heap.size w w'
  | some (k, nm, bs) => ∃ A n c, e = .returned (.tuple #[.agg (RC (k : Int) nm (.slice A n c)), .bool true]) ∧ Bs w' S A n c bs ∧ Below w.heap.size w w'
set_option maxRecDepth 100000 in
theorem record_short (w : World) (tag : Int) (N : Nat) (A2 A3 : Option Addr) (n2 c2 n3 c3 : Nat) (h : tag ≠ 3 ∨ n3 ≠ 3) :
    Calls Try.prog 111 #[.agg #[.int .i64 tag, .int .u64 (N : Int), .slice A2 n2 c2, .slice A3 n3 c3]] w fun e w' => e = .returned (.tuple #[.agg (RC 0 noName (.slice none 0 0)), .bool false]) ∧ Below w.heap.size w w' := by
  have HB : Hid (∀ q, Blk ((w.alloc (.cells q 27)).alloc (.cells #[.int .i64 0, .int .u8 0, .int .u8 0, .int .u8 0, .int .u8 0, .int .u8 0, .int .u8 0, .int .u8 0, .int .u8 0, .int .u8 0, .int .u8 0, .int .u8 0, .int .u8 0, .int .u8 0, .int .u8 0, .int .u8 0, .int .u8 0, .int .u8 0, .int .u8 0, .int .u8 0, .int .u8 0, .int .u8 0, .int .u8 0, .int .u8 0, .int .u8 0, .int .u8 0, .int .u8 0, .int .u8 0, .int .u8 0, .int .u8 0, .int .u8 0, .int .u8 0, .int .u8 0, .slice none 0 0] 109)) (w.heap.size + 1) 109 (RC 0 noName (.slice none 0 0))) := Lib.hid fun q => by
    rw [← zero_rec]
    exact blk_new (by simp)
  rcases (show tag ≠ 3 ∨ (tag = 3 ∧ n3 ≠ 3) by omega) with h1 | ⟨h1, h2⟩
  · have d1 : (tag != 3) = true := by simpa using h1
    clear h h1
    go_enter Try.func111, Try.ntmps111
    go_wp2_with (first | (refine wl_rec rfl (.tmp 2) 109 rfl (.inl rfl) rfl (HB.out _) noName_len ?_) | (refine wl_store rfl (.tmp 2) (.tmp 16) 109 rfl (.inl rfl) rfl rfl (HB.out _) rfl noName_len rfl ?_; intro w2 hb2 hf2))
    exact bodyPost_ret (results_cell2 rfl rfl (run_loadVar_row w2 _ 109 109 _ (0, 0) _ hb2 Try.underlying109 rfl (by rw [size109, RC.size noName_len]))) rfl ⟨rfl, (((Below.refl _ w).alloc (Nat.le_refl _) _).alloc (by simp) _).trans (hf2 _ (by simp))⟩
  · subst h1
    have d1 : ((n3 : Int) != 3) = true := by simp; omega
    clear h
    go_enter Try.func111, Try.ntmps111
    go_wp2_with (first | (refine wl_rec rfl (.tmp 2) 109 rfl (.inl rfl) rfl (HB.out _) noName_len ?_) | (refine wl_store rfl (.tmp 2) (.tmp 16) 109 rfl (.inl rfl) rfl rfl (HB.out _) rfl noName_len rfl ?_; intro w2 hb2 hf2))
    exact bodyPost_ret (results_cell2 rfl rfl (run_loadVar_row w2 _ 109 109 _ (0, 0) _ hb2 Try.underlying109 rfl (by rw [size109, RC.size noName_len]))) rfl ⟨rfl, (((Below.refl _ w).alloc (Nat.le_refl _) _).alloc (by simp) _).trans (hf2 _ (by simp))⟩
theorem cell_al {W : World} {p : Addr} {v : Value} (h : W.cell? p = some v) : (∀ o, (W.alloc o).cell? p = some v) ∧ (∀ o o', ((W.alloc o).alloc o').cell? p = some v) ∧ (∀ o o' o'', (((W.alloc o).alloc o').alloc o'').cell? p = some v) := by
  have h1 : ∀ o, (W.alloc o).cell? p = some v := fun o => (World.cell?_alloc_lt _ _ _ (World.block_lt_of_cell? _ _ h)).trans h
  have h2 : ∀ o o', ((W.alloc o).alloc o').cell? p = some v := fun o o' => (World.cell?_alloc_lt _ _ _ (World.block_lt_of_cell? _ _ (h1 o))).trans (h1 o)
  exact ⟨h1, h2, fun o o' o'' => (World.cell?_alloc_lt _ _ _ (World.block_lt_of_cell? _ _ (h2 o o'))).trans (h2 o o')⟩
theorem rc_splice (k : Int) (nm nm' : List UInt8) (b : Value) (h : nm.length = 32) (h' : nm'.length = 32) : (splice (RC k nm b).toList 1 (u8s nm')).toArray = RC k nm' b := by
  simp only [splice, RC, List.toList_toArray, List.take_succ_cons, List.take_zero]
  rw [show 1 + (u8s nm').length = (u8s nm).length + 1 by simp [u8s, h, h'], List.drop_succ_cons, List.drop_append, List.drop_length, Nat.sub_self]
  simp
section
variable {ops : Array Oper} {rest : List Oper} {o : Oper} {a : Act} {Q : Exit → Act → World → Prop} {w : World}
/-- A whole record is stored; what else is as it was. -/
theorem wl_storeK (hw : Region.wanted o (yielded ops a.tmps) = true) (x y : Operand) (ty : TypeId) (ho : o.op = .store ty x y) (hty : ty = 109 ∨ ty = 112) {g t : Nat} (hx : a.eval x = .pointer (some ⟨g, 0, none⟩)) {k : Int} {nm : List UInt8} {b : Value} (hy : a.eval y = .agg (RC k nm b)) {old : Array Value} (h : Blk w g t old) (hold : old.size = 34) (hn : nm.length = 32) (hb : b.oneCell' = true)
    (hk : ∀ w', Blk w' g t (RC k nm b) → (∀ B, B ≤ g → Below B w w') → (∀ k, k ≠ g → w'.heap[k]? = w.heap[k]?) → wpList Try.prog ops Q rest (a.put o.dst undef) w') : wpList Try.prog ops Q (o :: rest) a w := by
  have hi : (Try.prog.info? ty).map (·.size) = some (RC k nm b).size := by
    rw [RC.size hn]
    rcases hty with e | e
    · subst e; exact size109
    · subst e; exact size112
  exact BigFrame.wpList_want hw fun _ hK => wp_store_row ty x y ho g _ hx hy t old h hi (by rw [hold, RC.size hn]) (RC.one hb) (hK _ _ (hk _ (setRow_heap w g old _ t (0, 0) h) (fun B hB => below_setRow (Below.refl _ _) hB _) (fun k hk => setRow_other w g k _ hk)))
end
theorem hid_alloc {W w' : World} (h : Hid (Below W.heap.size W w')) (o : Obj) : Hid (Below W.heap.size W (w'.alloc o)) := Lib.hid (h.out.alloc h.out.size o)
set_option maxRecDepth 100000 in
set_option maxHeartbeats 4000000 in
theorem record_long (w : World) (S : Nat → Prop) (N : Nat) (A2 A3 : Option Addr) (n2 c2 c3 : Nat) (b : List UInt8) (l : List TV) (hl : LR w S A3 3 c3 l) :
    Calls Try.prog 111 #[.agg #[.int .i64 3, .int .u64 (N : Int), .slice A2 n2 c2, .slice A3 3 c3]] w (RecEnd w (.mk 3 N b l) S) := by
  obtain ⟨W, hW⟩ : ∃ W, W = (w.alloc (.cells #[.int .i64 3, .int .u64 (N : Int), .slice A2 n2 c2, .slice A3 3 c3] 27)).alloc (.cells #[.int .i64 0, .int .u8 0, .int .u8 0, .int .u8 0, .int .u8 0, .int .u8 0, .int .u8 0, .int .u8 0, .int .u8 0, .int .u8 0, .int .u8 0, .int .u8 0, .int .u8 0, .int .u8 0, .int .u8 0, .int .u8 0, .int .u8 0, .int .u8 0, .int .u8 0, .int .u8 0, .int .u8 0, .int .u8 0, .int .u8 0, .int .u8 0, .int .u8 0, .int .u8 0, .int .u8 0, .int .u8 0, .int .u8 0, .int .u8 0, .int .u8 0, .int .u8 0, .int .u8 0, .slice none 0 0] 109) := ⟨_, rfl⟩
  have hbW : Below w.heap.size w W := by rw [hW]; exact ((Below.refl _ w).alloc (Nat.le_refl _) _).alloc (by simp) _
  have hsW : W.heap.size = w.heap.size + 2 := by rw [hW]; simp
  have HB : Hid (Blk W (w.heap.size + 1) 109 (RC 0 noName (.slice none 0 0))) := Lib.hid (by rw [hW, ← zero_rec]; exact blk_new (by simp))
  have hbv : Blk W w.heap.size 27 #[.int .i64 3, .int .u64 (N : Int), .slice A2 n2 c2, .slice A3 3 c3] := by rw [hW]; exact (Blk.new _ _ _).alloc _
  obtain ⟨v0, v1, v2, v3, -, -, -, -, hvl⟩ := hbv.four
  have hlW := hl.oldS.after hbW
  obtain ⟨ad, x0, qx, tx, ea, ex, hx, hvx, x00, x01, x02, x03, hxS, hxl⟩ := hlW.at_ (k := 0) (by omega)
  subst ea
  obtain ⟨ad', x1, qy, ty, ea, ey, hy, hvy, y00, y01, y02, y03, hyS, hyl⟩ := hlW.at_ (k := 1) (by omega)
  injection ea with ea
  subst ea
  obtain ⟨ad', x2, qz, tz, ea, ez, hz, hvz, z00, z01, z02, z03, hzS, hzl⟩ := hlW.at_ (k := 2) (by omega)
  injection ea with ea
  subst ea
  obtain ⟨tg1, N1, b1, l1, A12, A13, n12, c12, n13, c13, rfl, rfl, -⟩ := hvx.opens
  obtain ⟨tg2, N2, b2, l2, A22, A23, n22, c22, n23, c23, rfl, rfl, hu2, hb2, hn22, -⟩ := hvy.opens
  obtain ⟨tg3, N3, b3, l3, A32, A33, n32, c32, n33, c33, rfl, rfl, hu3, hb3, hn32, -⟩ := hvz.opens
  have HLL := Lib.hid (And.intro hl.len (And.intro hx (And.intro hy hz)))
  have HB2 := Lib.hid hb2
  have HB3 := Lib.hid hb3
  have HBW := Lib.hid hbW
  have HBS := Lib.hid hbW
  dsimp only at x00 x01 x02 x03 y00 y01 y02 y03 z00 z01 z02 z03
  clear hlW hx hy hz hvx hvy hvz hb2 hb3 hxS hyS hzS hu2 hu3 hl hbv
  go_enter Try.func111, Try.ntmps111
  go_wp2_with fail
  rw [← hW]
  clear hW hbW
  go_cut [4, 5, 6] (fun s4 s5 s6 wx => ∃ g4 g5 g6, s4 = .pointer (some ⟨g4, 0, none⟩) ∧ s5 = .pointer (some ⟨g5, 0, none⟩) ∧ s6 = .pointer (some ⟨g6, 0, none⟩) ∧ Hid (W.heap.size ≤ g4 ∧ W.heap.size ≤ g5 ∧ W.heap.size ≤ g6 ∧ Blk wx g4 27 #[.int .i64 tg1, .int .u64 (N1 : Int), .slice A12 n12 c12, .slice A13 n13 c13] ∧ Blk wx g5 27 #[.int .i64 tg2, .int .u64 (N2 : Int), .slice A22 n22 c22, .slice A23 n23 c23] ∧ Blk wx g6 27 #[.int .i64 tg3, .int .u64 (N3 : Int), .slice A32 n32 c32, .slice A33 n33 c33] ∧ Below W.heap.size W wx))
  case first =>
    have hS : Hid (∀ w', Hid (Below W.heap.size W w') → w'.cell? ⟨w.heap.size, 3, none⟩ = some (.slice (some ad) 3 c3) ∧ w'.cell? x0 = some (.int .i64 tg1) ∧ w'.cell? ⟨x0.block, x0.off + 1, none⟩ = some (.int .u64 (N1 : Int)) ∧ w'.cell? ⟨x0.block, x0.off + 2, none⟩ = some (.slice A12 n12 c12) ∧ w'.cell? ⟨x0.block, x0.off + 3, none⟩ = some (.slice A13 n13 c13) ∧ w'.cell? x1 = some (.int .i64 tg2) ∧ w'.cell? ⟨x1.block, x1.off + 1, none⟩ = some (.int .u64 (N2 : Int)) ∧ w'.cell? ⟨x1.block, x1.off + 2, none⟩ = some (.slice A22 n22 c22) ∧ w'.cell? ⟨x1.block, x1.off + 3, none⟩ = some (.slice A23 n23 c23) ∧ w'.cell? x2 = some (.int .i64 tg3) ∧ w'.cell? ⟨x2.block, x2.off + 1, none⟩ = some (.int .u64 (N3 : Int)) ∧ w'.cell? ⟨x2.block, x2.off + 2, none⟩ = some (.slice A32 n32 c32) ∧ w'.cell? ⟨x2.block, x2.off + 3, none⟩ = some (.slice A33 n33 c33) ∧ Hid (Below W.heap.size W w')) := Lib.hid fun w' hb => ⟨(hb.out.cell (World.block_lt_of_cell? _ _ v3)).trans v3, (hb.out.cell (World.block_lt_of_cell? _ _ x00)).trans x00, (hb.out.cell (World.block_lt_of_cell? _ _ x01)).trans x01, (hb.out.cell (World.block_lt_of_cell? _ _ x02)).trans x02, (hb.out.cell (World.block_lt_of_cell? _ _ x03)).trans x03, (hb.out.cell (World.block_lt_of_cell? _ _ y00)).trans y00, (hb.out.cell (World.block_lt_of_cell? _ _ y01)).trans y01, (hb.out.cell (World.block_lt_of_cell? _ _ y02)).trans y02, (hb.out.cell (World.block_lt_of_cell? _ _ y03)).trans y03, (hb.out.cell (World.block_lt_of_cell? _ _ z00)).trans z00, (hb.out.cell (World.block_lt_of_cell? _ _ z01)).trans z01, (hb.out.cell (World.block_lt_of_cell? _ _ z02)).trans z02, (hb.out.cell (World.block_lt_of_cell? _ _ z03)).trans z03, hb⟩
    have hB0 : Hid (Below W.heap.size W W.drew) := Lib.hid (Below.refl _ _).drew
    go_region_held3 (fun w' => w'.cell? ⟨w.heap.size, 3, none⟩ = some (.slice (some ad) 3 c3) ∧ w'.cell? x0 = some (.int .i64 tg1) ∧ w'.cell? ⟨x0.block, x0.off + 1, none⟩ = some (.int .u64 (N1 : Int)) ∧ w'.cell? ⟨x0.block, x0.off + 2, none⟩ = some (.slice A12 n12 c12) ∧ w'.cell? ⟨x0.block, x0.off + 3, none⟩ = some (.slice A13 n13 c13) ∧ w'.cell? x1 = some (.int .i64 tg2) ∧ w'.cell? ⟨x1.block, x1.off + 1, none⟩ = some (.int .u64 (N2 : Int)) ∧ w'.cell? ⟨x1.block, x1.off + 2, none⟩ = some (.slice A22 n22 c22) ∧ w'.cell? ⟨x1.block, x1.off + 3, none⟩ = some (.slice A23 n23 c23) ∧ w'.cell? x2 = some (.int .i64 tg3) ∧ w'.cell? ⟨x2.block, x2.off + 1, none⟩ = some (.int .u64 (N3 : Int)) ∧ w'.cell? ⟨x2.block, x2.off + 2, none⟩ = some (.slice A32 n32 c32) ∧ w'.cell? ⟨x2.block, x2.off + 3, none⟩ = some (.slice A33 n33 c33) ∧ Hid (Below W.heap.size W w')) (first | (with_reducible exact hS.out _ (by assumption)) | (with_reducible exact hS.out _ (hid_alloc (by assumption) _)) | (with_reducible exact hS.out _ (hid_alloc (hid_alloc (by assumption) _) _)) | (with_reducible exact hS.out _ (hid_alloc (hid_alloc (hid_alloc (by assumption) _) _) _))) (first | fail)
    all_goals
      go_wp2_with fail
      go_meet
      refine ⟨_, _, _, rfl, rfl, rfl, Lib.hid ?_⟩
      rw [← hsW]
      first | exact ⟨by omega, by omega, by omega, (alloc3 W 27 _ _ _).1, (alloc3 W 27 _ _ _).2.1, (alloc3 W 27 _ _ _).2.2.1, (alloc3 W 27 _ _ _).2.2.2⟩ | exact ⟨by omega, by omega, by omega, (alloc3 W 27 _ _ _).1, (alloc3 W 27 _ _ _).2.2.1, (alloc3 W 27 _ _ _).2.1, (alloc3 W 27 _ _ _).2.2.2⟩ | exact ⟨by omega, by omega, by omega, (alloc3 W 27 _ _ _).2.1, (alloc3 W 27 _ _ _).1, (alloc3 W 27 _ _ _).2.2.1, (alloc3 W 27 _ _ _).2.2.2⟩ | exact ⟨by omega, by omega, by omega, (alloc3 W 27 _ _ _).2.1, (alloc3 W 27 _ _ _).2.2.1, (alloc3 W 27 _ _ _).1, (alloc3 W 27 _ _ _).2.2.2⟩ | exact ⟨by omega, by omega, by omega, (alloc3 W 27 _ _ _).2.2.1, (alloc3 W 27 _ _ _).1, (alloc3 W 27 _ _ _).2.1, (alloc3 W 27 _ _ _).2.2.2⟩ | exact ⟨by omega, by omega, by omega, (alloc3 W 27 _ _ _).2.2.1, (alloc3 W 27 _ _ _).2.1, (alloc3 W 27 _ _ _).1, (alloc3 W 27 _ _ _).2.2.2⟩
  obtain ⟨g4, g5, g6, rfl, rfl, rfl, HC⟩ := hcut
  rename World => W1
  obtain ⟨hg4, hg5, hg6, hb4, hb5, hb6, hbe⟩ := HC.out
  have HBR : Hid (Blk W1 (w.heap.size + 1) 109 (RC 0 noName (.slice none 0 0))) := Lib.hid (HB.out.below hbe (by omega))
  have HB1 : Hid (Below w.heap.size w W1) := Lib.hid (HBW.out.trans (hbe.mono (by omega)))
  have HBE := Lib.hid hbe
  obtain ⟨p0, p1, p2, p3, -⟩ := hb4.four
  obtain ⟨q0, q1, q2, q3, -⟩ := hb5.four
  obtain ⟨r0, r1, r2, r3, -⟩ := hb6.four
  have HL2 := Lib.hid (HB2.out.after hbe)
  have HL3 := Lib.hid (HB3.out.after hbe)
  have HX : Hid (recX_ (.mk 3 N b l) = .mk tg1 N1 b1 l1 ∧ recY_ (.mk 3 N b l) = .mk tg2 N2 b2 l2 ∧ recZ_ (.mk 3 N b l) = .mk tg3 N3 b3 l3) := Lib.hid (by
    refine ⟨?_, ?_, ?_⟩
    · unfold recX_ TV.list; rw [List.getD_eq_getElem?_getD, HLL.out.2.1.out]; rfl
    · unfold recY_ TV.list; rw [List.getD_eq_getElem?_getD, HLL.out.2.2.1.out]; rfl
    · unfold recZ_ TV.list; rw [List.getD_eq_getElem?_getD, HLL.out.2.2.2.out]; rfl)
  have HI : Hid (recIs (.mk 3 N b l) ↔ (tg1 = 1 ∧ N1 ≤ 9 ∧ tg2 = 2 ∧ n22 = 32 ∧ tg3 = 2) ∧ 0 < N1 ∧ n32 ≤ 5000) := Lib.hid (by
    unfold recIs
    rw [HX.out.1, HX.out.2.1, HX.out.2.2]
    simp only [TV.tag, TV.num, TV.bytes, TV.list, HLL.out.1, HL2.out.len, HL3.out.len, and_self, true_and])
  have HG5 : Hid (w.heap.size + 1 < g5) := Lib.hid (by omega)
  clear hg4 hg5 hg6 hb4 hb5 hb6 hbe HC HB HBW x00 x01 x02 x03 y00 y01 y02 y03 z00 z01 z02 z03 v0 v1 v2 v3 ex ey ez hxl hyl hzl
  by_cases hok : tg1 = 1 ∧ N1 ≤ 9 ∧ tg2 = 2 ∧ n22 = 32 ∧ tg3 = 2
  · obtain ⟨rfl, hN9, rfl, rfl, rfl⟩ := hok
    have hwr : IntKind.i64.wrap (N1 : Int) = (N1 : Int) := by unfold IntKind.wrap; simp [IntKind.bits, IntKind.signed]; omega
    have HQ2 := Lib.hid (And.intro HG5.out q2)
    go_wp2_with (first | (refine wl_build rfl 109 _ rfl (cs := RC (N1 : Int) noName (.slice A32 n32 c32)) (by simp only [List.map_toArray, List.map_cons, List.map_nil]; exact built109s (N1 : Int) A32 n32 c32) ?_) | (refine wl_storeK rfl (.tmp 2) (.tmp 59) 109 rfl (.inl rfl) rfl rfl HBR.out rfl noName_len rfl ?_; intro w2 hb2 hf2 hk2))
    have q2' : w2.cell? ⟨g5, 2, none⟩ = some (.slice A22 32 c22) := (World.cell?_of_block (a := ⟨g5, 2, none⟩) (hk2 g5 (by have := HG5.out; omega))).trans HQ2.out.2
    have HF2 : Hid (Below w.heap.size W w2) := Lib.hid ((HBE.out.mono (by omega)).trans (hf2 _ (by omega)))
    have HB2' : Hid (Blk w2 (w.heap.size + 1) 109 (RC (N1 : Int) noName (.slice A32 n32 c32))) := Lib.hid hb2
    have HL2' : Hid (Bs w2 (fun k => S k ∧ k < w.heap.size) A22 32 c22 b2) := Lib.hid (HB2.out.under (fun k hk => hk.2) HF2.out)
    have hz5 : (Try.prog.info? 5).map (·.size) = some 1 := by kernel_rfl
    have HZ5 := Lib.hid hz5
    have HCP : Hid (0 < (u8s b2).length → ∃ ad, A22 = some ad ∧ ∀ j v, (u8s b2)[j]? = some v → w2.cell? (ad.add j) = some v) := Lib.hid fun _ => by
      obtain ⟨ad', e, _, hc⟩ := HL2'.out.rd.2 (by omega)
      exact ⟨ad', e, hc⟩
    have HU2 : Hid ((u8s b2).length = 32) := Lib.hid (by rw [u8s_length]; exact HL2'.out.len)
    clear hb2 hf2 hk2 hz5
    go_region_law (first | (refine step_copy_splice rfl (.tmp 61) (.tmp 63) 22 22 rfl 5 Try.underlying22 HZ5.out (some ⟨w.heap.size + 1, 1, none⟩) A22 32 32 32 c22 rfl rfl (w.heap.size + 1) 1 (RC (N1 : Int) noName (.slice A32 n32 c32)).toList 109 HB2'.out (u8s b2) HU2.out (fun hp => ⟨rfl, HCP.out hp⟩) (by rw [HU2.out]; simp [RC.size noName_len]) (u8s_one) w.heap.size W HF2.out.drew (Nat.le_succ _) ?_; intro w3 hh3 hbe3))
    all_goals
      have hb3 : Blk w3 (w.heap.size + 1) 109 (RC (N1 : Int) b2 (.slice A32 n32 c32)) := by have h := hh3.out; rw [rc_splice _ _ _ _ noName_len HL2'.out.len] at h; exact h
      go_wp2_with fail
      refine region8 _ w3 (w.heap.size + 1) (N1 : Int) b2 A32 n32 c32 _ rfl rfl hb3 HL2'.out.len (fun _ _ _ _ _ h => h) ?_
      intro a' w' e2 e3 ed hb' hbel
      have hbF : Below w.heap.size W w' := hbe3.trans (hbel _ (by omega) (by have := hbe3.size; omega))
      have hbb := HB3.out.under (fun k hk => hk.2) hbF
      have hcase : RecEnd w (.mk 3 N b l) S (.returned (.tuple #[.agg (RC (N1 : Int) b2 (.slice A32 n32 c32)), .bool (rcRight (N1 : Int) n32)])) w' := by
        unfold RecEnd recOf
        by_cases hlast : 0 < N1 ∧ n32 ≤ 5000
        · rw [if_pos (HI.out.2 (by refine ⟨⟨?_, hN9, ?_, ?_, ?_⟩, hlast⟩ <;> trivial)), HX.out.1, HX.out.2.1, HX.out.2.2]
          refine ⟨A32, n32, c32, ?_, hbb.mono (fun k hk => hk.1), HBS.out.trans hbF⟩
          rw [show rcRight (N1 : Int) n32 = true by unfold rcRight; simp; omega]
          rfl
        · rw [if_neg (fun e => hlast (HI.out.1 e).2)]
          refine ⟨(N1 : Int), b2, .slice A32 n32 c32, ?_, HL2'.out.len, rfl, HBS.out.trans hbF⟩
          rw [show rcRight (N1 : Int) n32 = false by unfold rcRight; simp; omega]
      have hret : bodyPost Try.prog Try.f111 (RecEnd w (.mk 3 N b l) S) .ret a' w' := bodyPost_ret (results_cell2 rfl e2 (run_loadVar_row w' _ 109 109 _ (0, 0) _ hb' Try.underlying109 rfl (by rw [size109, RC.size HL2'.out.len]))) ed (by rw [e3]; exact hcase)
      go_wp2_with fail
  · have HN : Hid (recOf (.mk 3 N b l) = none) := Lib.hid (by unfold recOf; rw [if_neg (fun e => hok (HI.out.1 e).1)])
    rcases (show tg1 ≠ 1 ∨ (tg1 = 1 ∧ 9 < N1) ∨ (tg1 = 1 ∧ N1 ≤ 9 ∧ tg2 ≠ 2) ∨ (tg1 = 1 ∧ N1 ≤ 9 ∧ tg2 = 2 ∧ n22 ≠ 32) ∨ (tg1 = 1 ∧ N1 ≤ 9 ∧ tg2 = 2 ∧ n22 = 32 ∧ tg3 ≠ 2) by omega) with h1 | ⟨h1, h2⟩ | ⟨h1, h2, h3⟩ | ⟨h1, h2, h3, h4⟩ | ⟨h1, h2, h3, h4, h5⟩
    · have d1 : (tg1 != 1) = true := by simpa using h1
      clear hok h1
      go_wp2_with (first | (refine wl_rec rfl (.tmp 2) 109 rfl (.inl rfl) rfl HBR.out noName_len ?_) | (refine wl_store rfl (.tmp 2) (.tmp 53) 109 rfl (.inl rfl) rfl rfl HBR.out rfl noName_len rfl ?_; intro w2 hb2 hf2))
      refine bodyPost_ret (results_cell2 rfl rfl (run_loadVar_row w2 _ 109 109 _ (0, 0) _ hb2 Try.underlying109 rfl (by rw [size109, RC.size noName_len]))) rfl ?_
      unfold RecEnd
      rw [HN.out]
      exact ⟨_, _, _, rfl, noName_len, rfl, HB1.out.trans (hf2 _ (by omega))⟩
    · subst h1
      clear hok
      go_wp2_with (first | (refine wl_rec rfl (.tmp 2) 109 rfl (.inl rfl) rfl HBR.out noName_len ?_) | (refine wl_store rfl (.tmp 2) (.tmp 53) 109 rfl (.inl rfl) rfl rfl HBR.out rfl noName_len rfl ?_; intro w2 hb2 hf2))
      refine bodyPost_ret (results_cell2 rfl rfl (run_loadVar_row w2 _ 109 109 _ (0, 0) _ hb2 Try.underlying109 rfl (by rw [size109, RC.size noName_len]))) rfl ?_
      unfold RecEnd
      rw [HN.out]
      exact ⟨_, _, _, rfl, noName_len, rfl, HB1.out.trans (hf2 _ (by omega))⟩
    · subst h1
      have d3 : (tg2 != 2) = true := by simpa using h3
      clear hok h3
      go_wp2_with (first | (refine wl_rec rfl (.tmp 2) 109 rfl (.inl rfl) rfl HBR.out noName_len ?_) | (refine wl_store rfl (.tmp 2) (.tmp 53) 109 rfl (.inl rfl) rfl rfl HBR.out rfl noName_len rfl ?_; intro w2 hb2 hf2))
      refine bodyPost_ret (results_cell2 rfl rfl (run_loadVar_row w2 _ 109 109 _ (0, 0) _ hb2 Try.underlying109 rfl (by rw [size109, RC.size noName_len]))) rfl ?_
      unfold RecEnd
      rw [HN.out]
      exact ⟨_, _, _, rfl, noName_len, rfl, HB1.out.trans (hf2 _ (by omega))⟩
    · subst h1 h3
      have d4 : ((n22 : Int) != 32) = true := by simp; omega
      clear hok
      go_wp2_with (first | (refine wl_rec rfl (.tmp 2) 109 rfl (.inl rfl) rfl HBR.out noName_len ?_) | (refine wl_store rfl (.tmp 2) (.tmp 53) 109 rfl (.inl rfl) rfl rfl HBR.out rfl noName_len rfl ?_; intro w2 hb2 hf2))
      refine bodyPost_ret (results_cell2 rfl rfl (run_loadVar_row w2 _ 109 109 _ (0, 0) _ hb2 Try.underlying109 rfl (by rw [size109, RC.size noName_len]))) rfl ?_
      unfold RecEnd
      rw [HN.out]
      exact ⟨_, _, _, rfl, noName_len, rfl, HB1.out.trans (hf2 _ (by omega))⟩
    · subst h1 h3 h4
      have d5 : (tg3 != 2) = true := by simpa using h5
      clear hok h5
      go_wp2_with (first | (refine wl_rec rfl (.tmp 2) 109 rfl (.inl rfl) rfl HBR.out noName_len ?_) | (refine wl_store rfl (.tmp 2) (.tmp 53) 109 rfl (.inl rfl) rfl rfl HBR.out rfl noName_len rfl ?_; intro w2 hb2 hf2))
      refine bodyPost_ret (results_cell2 rfl rfl (run_loadVar_row w2 _ 109 109 _ (0, 0) _ hb2 Try.underlying109 rfl (by rw [size109, RC.size noName_len]))) rfl ?_
      unfold RecEnd
      rw [HN.out]
      exact ⟨_, _, _, rfl, noName_len, rfl, HB1.out.trans (hf2 _ (by omega))⟩
theorem record_any (w : World) (S : Nat → Prop) (q : Quad) (v : TV) (h : VR w S q v) : Calls Try.prog 111 #[q.agg] w (RecEnd w v S) := by
  obtain ⟨tag, N, b, l, A2, A3, n2, c2, n3, c3, rfl, rfl, hu, hb, h2, hl⟩ := h.opens
  by_cases hs : tag ≠ 3 ∨ n3 ≠ 3
  · refine (record_short w tag N A2 A3 n2 c2 n3 c3 hs).mono ?_
    rintro e w' ⟨rfl, hb⟩
    unfold RecEnd recOf
    rw [if_neg (fun e => by
      have h1 : tag = 3 := e.1.1
      have h3 : l.length = 3 := e.1.2
      have := hl.len
      rcases hs with hs | hs <;> omega)]
    exact ⟨0, noName, .slice none 0 0, rfl, noName_len, rfl, hb⟩
  · obtain rfl : tag = 3 := by omega
    obtain rfl : n3 = 3 := by omega
    exact record_long w S N A2 A3 n2 c2 c3 b l hl
end Go.Proofs.Ytaebmhbggbpnoaa
namespace Go.Proofs.Ytaebmhbggbpnoaa
open Go.RowKit
/-- A fresh record's box. -/
theorem zero_box (w : World) : ∃ ZV, ZV = RC 0 noName (.slice none 0 0) ∧ Blk (w.alloc (.cells ZV 109)) w.heap.size 109 (RC 0 noName (.slice none 0 0)) ∧ Below w.heap.size w (w.alloc (.cells ZV 109)) :=
  ⟨_, rfl, Blk.new w 109 _, (Below.refl _ w).alloc (Nat.le_refl _) _⟩
set_option maxRecDepth 100000 in
theorem ftake_nil (w : World) (A : Option Addr) (n c : Nat) :
    Calls Try.prog 66 #[.pointer none, .slice A n c] w fun e w' => e = .returned (.tuple #[.agg (RC 0 noName (.slice none 0 0)), .int .i64 0, .int .i64 18]) ∧ Below w.heap.size w w' := by
  obtain ⟨ZV, hZ, hb, hbe⟩ := zero_box w
  have HB := Lib.hid hb
  have HBE := Lib.hid hbe
  rw [← zero_rec] at hZ
  clear hb hbe
  go_enter Try.func66, Try.ntmps66
  go_wp2_with (first | (refine wl_rec rfl (.tmp 4) 109 rfl (.inl rfl) rfl (hZ ▸ HB.out) noName_len ?_) | (refine wl_store rfl (.tmp 4) (.tmp 14) 109 rfl (.inl rfl) rfl rfl (hZ ▸ HB.out) rfl noName_len rfl ?_; intro w2 hb2 hf2))
  refine bodyPost_ret (results_cell3 rfl rfl (run_loadVar_row w2 _ 109 109 _ (0, 0) _ hb2 Try.underlying109 rfl (by rw [size109, RC.size noName_len]))) rfl ⟨rfl, ?_⟩
  exact (hZ ▸ HBE.out).trans (hf2 _ (Nat.le_refl _))
theorem grown_below {a b c : World} {row : Option Nat} (h : a.grownBy b row) (k : Below a.heap.size b c) : a.grownBy c row := ⟨k.os.trans h.os, k.tape.trans h.tape, k.output.trans h.output, Nat.le_trans h.size k.size, fun i hi hn => (k.block i hi).trans (h.block i hi hn)⟩
theorem tblB {w w' : World} {g B : Nat} {d : Int} (h : Tbl w g d) (hb : Below B w w') (hg : g < B) : Tbl w' g d := by
  rcases h with h | ⟨f, h⟩
  · exact .inl (h.below hb hg)
  · exact .inr ⟨f, h.below hb hg⟩
theorem bs_others {w w' : World} {S : Nat → Prop} {A : Option Addr} {n c g : Nat} {bs : List UInt8} (h : Bs w S A n c bs) (hk : ∀ k, k ≠ g → w'.heap[k]? = w.heap[k]?) (hS : ∀ k, S k → k ≠ g) : Bs w' S A n c bs :=
  h.keep (fun p hp _ => World.cell?_of_block (hk p.block (hS _ hp))) (fun _ h _ => h)
theorem recOf_name {v : TV} {k : Nat} {nm bs : List UInt8} (h : recOf v = some (k, nm, bs)) : nm.length = 32 := by
  unfold recOf at h
  by_cases hi : recIs v
  · rw [if_pos hi] at h
    injection h with h
    injection h with h1 h2
    injection h2 with h2 h3
    rw [← h2]
    exact hi.2.1.2.2.2.1
  · rw [if_neg hi] at h; cases h
/-- How many bytes the table goes through at most. -/
def frN : FrR → Nat → Nat
  | .bad _, n => n
  | .good _ _ _ m, _ => m
/-- A frame's length lies within the bytes; what is wrong is no nought. -/
theorem frT_facts (bs : List UInt8) : match frT bs with
    | .bad f => f ≠ 0
    | .good _ _ _ m => 4 ≤ m ∧ m ≤ bs.length := by
  unfold frT
  cases hr : readT 8 bs with
  | none => simp
  | some p =>
    obtain ⟨v, rest⟩ := p
    have hl : rest.length ≤ bs.length := by
      obtain ⟨-, x, -, e⟩ := put_read 8 bs rest v hr
      have h := congrArg List.length e
      simp only [List.length_append] at h
      omega
    simp only
    by_cases h4 : rest.length < 4
    · rw [if_pos h4]; simp
    · rw [if_neg h4]
      by_cases ho : openF (bs.take (bs.length - rest.length + 4)) ≠ 0
      · rw [if_pos ho]; exact ho
      · rw [if_neg ho]
        cases recOf v with
        | none => simp
        | some q => simp only; omega
theorem frT_size {bs : List UInt8} {k m : Nat} {nm b : List UInt8} (h : frT bs = .good k nm b m) : 4 ≤ m ∧ m ≤ bs.length := by
  have := frT_facts bs
  rw [h] at this
  exact this
theorem frT_bad {bs : List UInt8} {f : Int} (h : frT bs = .bad f) : f ≠ 0 := by
  have := frT_facts bs
  rw [h] at this
  exact this
theorem frN_le {bs : List UInt8} {n : Nat} (h : bs.length = n) : frN (frT bs) n ≤ n := by
  have hf := frT_facts bs
  cases hR : frT bs with
  | bad f => exact Nat.le_refl _
  | good k nm b m =>
    rw [hR] at hf
    simp only [frN] at hf ⊢
    omega
def FTakeEnd (w : World) (g : Nat) (d : Int) (n : Nat) (R : FrR) (e : Ending) (w' : World) : Prop :=
  (∃ d', Tbl w' g d' ∧ d ≤ d' ∧ d' ≤ d + (frN R n : Int) ∧ w.grownBy w' (some g)) ∧ match R with
    | .bad f => e = .returned (.tuple #[.agg (RC 0 noName (.slice none 0 0)), .int .i64 0, .int .i64 f])
    | .good k nm bs m => ∃ A c, e = .returned (.tuple #[.agg (RC (k : Int) nm (.slice A bs.length c)), .int .i64 (m : Int), .int .i64 0]) ∧ Bs w' (fun j => w.heap.size ≤ j) A bs.length c bs
set_option maxRecDepth 100000 in
set_option maxHeartbeats 2000000 in
theorem ftake_any (w : World) (g : Nat) (d : Int) (S : Nat → Prop) (A : Option Addr) (n c : Nat) (bs : List UInt8) (ht : Tbl w g d) (hd : 0 ≤ d ∧ d ≤ 1000000000) (hx : Bs w S A n c bs) (hS : ∀ k, S k → k < w.heap.size → k ≠ g) (hn : n ≤ 100000000) :
    Calls Try.prog 66 #[.pointer (some ⟨g, 0, none⟩), .slice A n c] w (FTakeEnd w g d n (frT bs)) := by
  obtain ⟨ZV, hZ, hb, hbe⟩ := zero_box w
  have hgl := tbl_lt ht
  have HB : Hid (∀ w', Below (w.heap.size + 1) (w.alloc (.cells ZV 109)) w' → Blk w' w.heap.size 109 (RC 0 noName (.slice none 0 0)) ∧ Below w.heap.size w w') := Lib.hid fun w' h => ⟨hb.below h (Nat.lt_succ_self _), hbe.trans (h.mono (Nat.le_succ _))⟩
  rw [← zero_rec] at hZ
  have HZ := Lib.hid hZ
  have HX := Lib.hid hx.oldS
  have HSS := Lib.hid hS
  have HTT := Lib.hid ht
  have hx1 := hx.after hbe
  have hsz : (w.alloc (.cells ZV 109)).heap.size = w.heap.size + 1 := by simp
  cases hr : readT 8 bs with
  | none =>
    have HT := take_none (w.alloc (.cells ZV 109)) S A n c bs hx1 (by omega) hr
    have HF : Hid (frT bs = .bad 16) := Lib.hid (by unfold frT; rw [hr])
    rw [hZ] at HT
    have HTH := Lib.hid HT
    clear hb hbe hx1 hx hS ht HT hr hsz
    go_enter Try.func66, Try.ntmps66
    go_wp2_with fail
    refine (HTH.out).mono ?_
    rintro e w2 ⟨rfl, hb2⟩
    rw [← HZ.out] at hb2
    have H2 := Lib.hid (HB.out w2 (by have h := hb2; simp only [World.size_alloc] at h; exact h))
    clear hb2
    go_wp2_with (first | (refine wl_rec rfl (.tmp 4) 109 rfl (.inl rfl) rfl (H2.out.1.alloc _) noName_len ?_) | (refine wl_store rfl (.tmp 4) (.tmp 28) 109 rfl (.inl rfl) rfl rfl (H2.out.1.alloc _) rfl noName_len rfl ?_; intro w3 hb3 hf3))
    have hbF : Below w.heap.size w w3 := (H2.out.2.alloc H2.out.2.size _).trans (hf3 _ (Nat.le_refl _))
    refine bodyPost_ret (results_cell3 rfl rfl (run_loadVar_row w3 _ 109 109 _ (0, 0) _ hb3 Try.underlying109 rfl (by rw [size109, RC.size noName_len]))) rfl ⟨⟨d, HTT.out.after hbF, by omega, by omega, only_of_below hbF _⟩, ?_⟩
    rw [HF.out]
    rfl
  | some p =>
    obtain ⟨v, rest⟩ := p
    have HT := take_some (w.alloc (.cells ZV 109)) S A n c bs rest v hx1 (by omega) hr
    have HRL : Hid (rest.length ≤ n) := Lib.hid (by
      obtain ⟨-, x, -, e⟩ := put_read 8 bs rest v hr
      have h := congrArg List.length e
      rw [hx.len] at h
      simp only [List.length_append] at h
      omega)
    have HR := Lib.hid hr
    rw [hZ] at HT
    have HTH := Lib.hid HT
    clear hb hbe hx1 hx hS ht HT hr hsz
    go_enter Try.func66, Try.ntmps66
    go_wp2_with fail
    refine (HTH.out).mono ?_
    rintro e w2 ⟨q, A2, m, c2, rfl, hv, hown, -, hb2⟩
    rw [← HZ.out] at hb2 hv
    have H2 := Lib.hid (HB.out w2 (by have h := hb2; simp only [World.size_alloc] at h; exact h))
    obtain ⟨tg, N, bb, ll, B2, B3, k2, e2, k3, e3, rfl, rfl, -⟩ := hv.opens
    have HV := Lib.hid hv
    have HM : Hid (rest.length = m) := Lib.hid (by have := hown.1; rw [u8s_length] at this; omega)
    have hmn : m ≤ n := by rw [← HM.out]; exact HRL.out
    clear hb2 hown hv
    dsimp only [Quad.agg]
    by_cases hl : m < 4
    · have HF : Hid (frT bs = .bad 16) := Lib.hid (by unfold frT; rw [HR.out]; simp only; rw [if_pos (by rw [HM.out]; exact hl)])
      have hl' : (m : Int) < 4 := by omega
      go_wp2_with (first | (refine wl_rec rfl (.tmp 4) 109 rfl (.inl rfl) rfl (H2.out.1.alloc _) noName_len ?_) | (refine wl_store rfl (.tmp 4) (.tmp 28) 109 rfl (.inl rfl) rfl rfl (H2.out.1.alloc _) rfl noName_len rfl ?_; intro w3 hb3 hf3))
      have hbF : Below w.heap.size w w3 := (H2.out.2.alloc H2.out.2.size _).trans (hf3 _ (Nat.le_refl _))
      refine bodyPost_ret (results_cell3 rfl rfl (run_loadVar_row w3 _ 109 109 _ (0, 0) _ hb3 Try.underlying109 rfl (by rw [size109, RC.size noName_len]))) rfl ⟨⟨d, HTT.out.after hbF, by omega, by omega, only_of_below hbF _⟩, ?_⟩
      rw [HF.out]
      rfl
    · have hl' : ¬ (m : Int) < 4 := by omega
      obtain ⟨W3, hW3⟩ : ∃ W3, W3 = w2.alloc (.cells #[.int .i64 tg, .int .u64 (N : Int), .slice B2 k2 e2, .slice B3 k3 e3] 27) := ⟨_, rfl⟩
      have hb3 : Below w.heap.size w W3 := by rw [hW3]; exact H2.out.2.alloc H2.out.2.size _
      have hs2 := H2.out.2.size
      have H3 : Hid (Blk W3 w.heap.size 109 (RC 0 noName (.slice none 0 0)) ∧ Blk W3 w2.heap.size 27 #[.int .i64 tg, .int .u64 (N : Int), .slice B2 k2 e2, .slice B3 k3 e3] ∧ Below w.heap.size w W3 ∧ VR W3 (fun k => w.heap.size + 1 ≤ k) ⟨.int .i64 tg, .int .u64 (N : Int), .slice B2 k2 e2, .slice B3 k3 e3⟩ (.mk tg N bb ll)) := Lib.hid (by
        refine ⟨by rw [hW3]; exact H2.out.1.alloc _, by rw [hW3]; exact Blk.new _ _ _, hb3, ?_⟩
        rw [hW3]
        exact (HV.out.keep (S' := fun k => w.heap.size + 1 ≤ k) (fun _ _ _ => rfl) (fun k hk _ => by simpa using hk)).after ((Below.refl _ _).alloc (Nat.le_refl _) _))
      obtain ⟨NN, hNN⟩ : ∃ NN, NN = n - m + 4 := ⟨_, rfl⟩
      obtain ⟨A7, c7, hcut, hx7⟩ := (HX.out.after hb3).upto ((n : Int) - (m : Int) + 4) NN (by omega) (by omega)
      have HX7 := Lib.hid hx7
      have HNN : Hid (bs.length - rest.length + 4 = NN) := Lib.hid (by rw [HM.out, HX.out.len]; exact hNN.symm)
      have hNn : NN ≤ n := by omega
      have HNV : Hid ((n : Int) - (m : Int) + 4 = (NN : Int)) := Lib.hid (by omega)
      clear hx7 hb3 hNN
      go_wp2_with fail
      rw [← hW3]
      clear hW3
      refine (open_any W3 g d (HTT.out.after H3.out.2.2.1) _ A7 NN c7 (bs.take NN) HX7.out (fun k hk _ => HSS.out k hk.1 hk.2) (by omega) (by omega)).mono ?_
      rintro e w4 ⟨A8, n8, c8, rfl, -, ht4, hg4⟩
      obtain ⟨F, hF⟩ : ∃ F, F = openF (bs.take NN) := ⟨_, rfl⟩
      rw [← hF]
      have HFF := Lib.hid hF
      have H4 : Hid (Blk w4 w.heap.size 109 (RC 0 noName (.slice none 0 0)) ∧ Blk w4 w2.heap.size 27 #[.int .i64 tg, .int .u64 (N : Int), .slice B2 k2 e2, .slice B3 k3 e3] ∧ w.grownBy w4 (some g) ∧ Tbl w4 g (d + ((NN - 4 : Nat) : Int)) ∧ VR w4 (fun k => w.heap.size + 1 ≤ k) ⟨.int .i64 tg, .int .u64 (N : Int), .slice B2 k2 e2, .slice B3 k3 e3⟩ (.mk tg N bb ll)) := Lib.hid
        ⟨H3.out.1.grown hg4 (fun e => by injection e with e; omega), H3.out.2.1.grown hg4 (fun e => by injection e with e; omega), only_trans (only_of_below H3.out.2.2.1 _) hg4, ht4, H3.out.2.2.2.aside hg4 (fun k hk _ e => by injection e with e; omega)⟩
      clear ht4 hg4 hF H3
      by_cases hF0 : F = 0
      · subst hF0
        obtain ⟨z0, z1, z2, z3, -⟩ := H4.out.2.1.four
        have HRC := Lib.hid (record_any w4 _ _ _ H4.out.2.2.2.2)
        have hs4 := H4.out.2.2.1.size
        have hl4 := H4.out.1.lt
        cases hrec : recOf (.mk tg N bb ll) with
        | none =>
          have HRR : Hid (frT bs = .bad 3) := Lib.hid (by unfold frT; rw [HR.out]; simp only; rw [if_neg (by rw [HM.out]; exact hl), HNN.out, if_neg (by rw [← HFF.out]; simp), hrec])
          have HRE : Hid (Calls Try.prog 111 #[.agg #[.int .i64 tg, .int .u64 (N : Int), .slice B2 k2 e2, .slice B3 k3 e3]] w4 fun e w' => ∃ k nm b, e = .returned (.tuple #[.agg (RC k nm b), .bool false]) ∧ nm.length = 32 ∧ b.oneCell' = true ∧ Below w4.heap.size w4 w') := Lib.hid (by have h := HRC.out; unfold RecEnd at h; rw [hrec] at h; exact h)
          clear HRC hrec
          go_wp2_with fail
          refine (HRE.out).mono ?_
          rintro e w5 ⟨k9, nm9, b9, rfl, hn9, h19, hb5⟩
          have H5 := Lib.hid (H4.out.1.after hb5)
          have HB5 := Lib.hid hb5
          have HN9 := Lib.hid (And.intro hn9 h19)
          clear hb5 hn9 h19
          go_wp2_with (first | (refine wl_store rfl (.tmp 4) (.tmp 50) 109 rfl (.inl rfl) rfl rfl H5.out rfl HN9.out.1 HN9.out.2 ?_; intro w6 hb6 hf6) | (refine wl_build rfl 109 _ rfl (cs := RC 0 noName (.slice none 0 0)) (by simp only [List.map_toArray, List.map_nil]; exact built109n) ?_) | (refine wl_store rfl (.tmp 4) (.tmp 54) 109 rfl (.inl rfl) rfl rfl hb6 (RC.size HN9.out.1) noName_len rfl ?_; intro w7 hb7 hf7))
          have hb47 : Below w.heap.size w4 w7 := (HB5.out.mono hs4).trans ((hf6 _ (Nat.le_refl _)).trans (hf7 _ (Nat.le_refl _)))
          refine bodyPost_ret (results_cell3 rfl rfl (run_loadVar_row w7 _ 109 109 _ (0, 0) _ hb7 Try.underlying109 rfl (by rw [size109, RC.size noName_len]))) rfl ⟨⟨d + ((NN - 4 : Nat) : Int), tblB H4.out.2.2.2.1 hb47 hgl, by omega, by rw [HRR.out]; simp only [frN]; omega, grown_below H4.out.2.2.1 hb47⟩, ?_⟩
          rw [HRR.out]
          rfl
        | some p =>
          obtain ⟨k9, nm9, b9⟩ := p
          have HN9 := Lib.hid (recOf_name hrec)
          have HRR : Hid (frT bs = .good k9 nm9 b9 NN) := Lib.hid (by unfold frT; rw [HR.out]; simp only; rw [if_neg (by rw [HM.out]; exact hl), HNN.out, if_neg (by rw [← HFF.out]; simp), hrec])
          have HRE : Hid (Calls Try.prog 111 #[.agg #[.int .i64 tg, .int .u64 (N : Int), .slice B2 k2 e2, .slice B3 k3 e3]] w4 fun e w' => ∃ A n c, e = .returned (.tuple #[.agg (RC (k9 : Int) nm9 (.slice A n c)), .bool true]) ∧ Bs w' (fun k => w.heap.size + 1 ≤ k) A n c b9 ∧ Below w4.heap.size w4 w') := Lib.hid (by have h := HRC.out; unfold RecEnd at h; rw [hrec] at h; exact h)
          clear HRC hrec
          go_wp2_with fail
          refine (HRE.out).mono ?_
          rintro e w5 ⟨A9, n9, c9, rfl, hx9, hb5⟩
          have H5 := Lib.hid (H4.out.1.after hb5)
          have HB5 := Lib.hid hb5
          have HX9 := Lib.hid hx9
          obtain rfl : n9 = b9.length := hx9.len.symm
          clear hb5 hx9
          go_wp2_with (first | (refine wl_storeK rfl (.tmp 4) (.tmp 50) 109 rfl (.inl rfl) rfl rfl H5.out rfl HN9.out rfl ?_; intro w6 hb6 hf6 hk6) | (refine wl_rec rfl (.tmp 4) 109 rfl (.inl rfl) rfl hb6 HN9.out ?_) | (refine wl_storeK rfl (.tmp 4) (.tmp 55) 109 rfl (.inl rfl) rfl rfl hb6 (RC.size HN9.out) HN9.out rfl ?_; intro w7 hb7 hf7 hk7))
          have hb47 : Below w.heap.size w4 w7 := (HB5.out.mono hs4).trans ((hf6 _ (Nat.le_refl _)).trans (hf7 _ (Nat.le_refl _)))
          refine bodyPost_ret (results_cell3 rfl rfl (run_loadVar_row w7 _ 109 109 _ (0, 0) _ hb7 Try.underlying109 rfl (by rw [size109, RC.size HN9.out]))) rfl ⟨⟨d + ((NN - 4 : Nat) : Int), tblB H4.out.2.2.2.1 hb47 hgl, by omega, by rw [HRR.out]; simp only [frN]; omega, grown_below H4.out.2.2.1 hb47⟩, ?_⟩
          rw [HRR.out]
          refine ⟨A9, c9, ?_, ((bs_others (bs_others HX9.out hk6 (fun k hk => by omega)) hk7 (fun k hk => by omega)).mono (fun k hk => by omega))⟩
          rw [← HNV.out]
          rfl
      · have d1 : (F != 0) = true := by simpa using hF0
        have HR9 : Hid (frT bs = .bad F) := Lib.hid (by unfold frT; rw [HR.out]; simp only; rw [if_neg (by rw [HM.out]; exact hl), HNN.out, if_pos (by rw [← HFF.out]; exact hF0), ← HFF.out])
        go_wp2_with (first | (refine wl_rec rfl (.tmp 4) 109 rfl (.inl rfl) rfl H4.out.1 noName_len ?_) | (refine wl_store rfl (.tmp 4) (.tmp 45) 109 rfl (.inl rfl) rfl rfl H4.out.1 rfl noName_len rfl ?_; intro w5 hb5 hf5))
        have hbF := hf5 w.heap.size (Nat.le_refl _)
        have hb45 : Below w.heap.size w4 w5 := hbF
        refine bodyPost_ret (results_cell3 rfl rfl (run_loadVar_row w5 _ 109 109 _ (0, 0) _ hb5 Try.underlying109 rfl (by rw [size109, RC.size noName_len]))) rfl ⟨⟨d + ((NN - 4 : Nat) : Int), tblB H4.out.2.2.2.1 hb45 hgl, by omega, by rw [HR9.out]; simp only [frN]; omega, grown_below H4.out.2.2.1 hb45⟩, ?_⟩
        rw [HR9.out]
        rfl
end Go.Proofs.Ytaebmhbggbpnoaa
namespace Go.Proofs.Ytaebmhbggbpnoaa
open Go.RowKit
set_option maxRecDepth 100000 in
theorem fat_nil (w : World) (A : Option Addr) (n c : Nat) (z : Int) :
    Calls Try.prog 74 #[.pointer none, .slice A n c, .int .i64 z] w fun e w' => e = .returned (.tuple #[.agg (RC 0 noName (.slice none 0 0)), .int .i64 18]) ∧ Below w.heap.size w w' := by
  obtain ⟨ZV, hZ, hb, hbe⟩ := zero_box w
  have HB := Lib.hid hb
  have HBE := Lib.hid hbe
  rw [← zero_rec] at hZ
  clear hb hbe
  go_enter Try.func74, Try.ntmps74
  go_wp2_with (first | (refine wl_build rfl 109 _ rfl (cs := RC 0 noName (.slice none 0 0)) (by simp only [List.map_toArray, List.map_nil]; exact built109n) ?_) | (refine wl_store rfl (.tmp 6) (.tmp 14) 109 rfl (.inl rfl) rfl rfl (hZ ▸ HB.out) rfl noName_len rfl ?_; intro w2 hb2 hf2))
  refine bodyPost_ret (results_cell2 rfl rfl (run_loadVar_row w2 _ 109 109 _ (0, 0) _ hb2 Try.underlying109 rfl (by rw [size109, RC.size noName_len]))) rfl ⟨rfl, ?_⟩
  exact (hZ ▸ HBE.out).trans (hf2 _ (Nat.le_refl _))
set_option maxRecDepth 100000 in
theorem fat_out (w : World) (g : Addr) (A : Option Addr) (n c : Nat) (z : Int) (h : z < 0 ∨ (n : Int) ≤ z) :
    Calls Try.prog 74 #[.pointer (some g), .slice A n c, .int .i64 z] w fun e w' => e = .returned (.tuple #[.agg (RC 0 noName (.slice none 0 0)), .int .i64 1]) ∧ Below w.heap.size w w' := by
  obtain ⟨ZV, hZ, hb, hbe⟩ := zero_box w
  have HB := Lib.hid hb
  have HBE := Lib.hid hbe
  rw [← zero_rec] at hZ
  clear hb hbe
  rcases (show z < 0 ∨ (0 ≤ z ∧ (n : Int) ≤ z) by omega) with h1 | ⟨h1, h2⟩
  · have d1 : decide (z < 0) = true := decide_eq_true h1
    clear h
    go_enter Try.func74, Try.ntmps74
    go_wp2_with (first | (refine wl_build rfl 109 _ rfl (cs := RC 0 noName (.slice none 0 0)) (by simp only [List.map_toArray, List.map_nil]; exact built109n) ?_) | (refine wl_store rfl (.tmp 6) (.tmp 24) 109 rfl (.inl rfl) rfl rfl (hZ ▸ HB.out) rfl noName_len rfl ?_; intro w2 hb2 hf2))
    refine bodyPost_ret (results_cell2 rfl rfl (run_loadVar_row w2 _ 109 109 _ (0, 0) _ hb2 Try.underlying109 rfl (by rw [size109, RC.size noName_len]))) rfl ⟨rfl, ?_⟩
    exact (hZ ▸ HBE.out).trans (hf2 _ (Nat.le_refl _))
  · have d1 : decide (z < 0) = false := decide_eq_false (by omega)
    have d2 : decide ((n : Int) ≤ z) = true := decide_eq_true h2
    clear h
    go_enter Try.func74, Try.ntmps74
    go_wp2_with (first | (refine wl_build rfl 109 _ rfl (cs := RC 0 noName (.slice none 0 0)) (by simp only [List.map_toArray, List.map_nil]; exact built109n) ?_) | (refine wl_store rfl (.tmp 6) (.tmp 24) 109 rfl (.inl rfl) rfl rfl (hZ ▸ HB.out) rfl noName_len rfl ?_; intro w2 hb2 hf2))
    refine bodyPost_ret (results_cell2 rfl rfl (run_loadVar_row w2 _ 109 109 _ (0, 0) _ hb2 Try.underlying109 rfl (by rw [size109, RC.size noName_len]))) rfl ⟨rfl, ?_⟩
    exact (hZ ▸ HBE.out).trans (hf2 _ (Nat.le_refl _))
/-- What Take answers, its record's cells named. -/
def FRes (W : World) (B : Nat) (R : FrR) (k : Int) (nm : List UInt8) (b : Value) (m f : Int) : Prop := match R with
  | .bad F => k = 0 ∧ nm = noName ∧ b = .slice none 0 0 ∧ m = 0 ∧ f = F
  | .good K NM bs M => ∃ A c, k = (K : Int) ∧ nm = NM ∧ b = .slice A bs.length c ∧ m = (M : Int) ∧ f = 0 ∧ Bs W (fun j => B ≤ j) A bs.length c bs
theorem frT_name {bs : List UInt8} {k m : Nat} {nm b : List UInt8} (h : frT bs = .good k nm b m) : nm.length = 32 := by
  unfold frT at h
  cases hr : readT 8 bs with
  | none => rw [hr] at h; cases h
  | some p =>
    obtain ⟨v, rest⟩ := p
    rw [hr] at h
    simp only at h
    split at h
    · cases h
    · split at h
      · cases h
      · cases hv : recOf v with
        | none => rw [hv] at h; cases h
        | some q =>
          obtain ⟨k', nm', b'⟩ := q
          rw [hv] at h
          simp only at h
          injection h with h1 h2 h3 h4
          rw [← h2]
          exact recOf_name hv
theorem FTakeEnd.one {w w' : World} {g n : Nat} {d : Int} {bs : List UInt8} {e : Ending} (h : FTakeEnd w g d n (frT bs) e w') : ∃ k nm b m f, e = .returned (.tuple #[.agg (RC k nm b), .int .i64 m, .int .i64 f]) ∧ nm.length = 32 ∧ b.oneCell' = true ∧ FRes w' w.heap.size (frT bs) k nm b m f ∧ ∃ d', Tbl w' g d' ∧ d ≤ d' ∧ d' ≤ d + (frN (frT bs) n : Int) ∧ w.grownBy w' (some g) := by
  obtain ⟨h1, h2⟩ := h
  cases hR : frT bs with
  | bad F =>
    rw [hR] at h1 h2
    exact ⟨0, noName, .slice none 0 0, 0, F, h2, noName_len, rfl, ⟨rfl, rfl, rfl, rfl, rfl⟩, h1⟩
  | good K NM b M =>
    rw [hR] at h1 h2
    obtain ⟨A, c, he, hb⟩ := h2
    exact ⟨(K : Int), NM, .slice A b.length c, (M : Int), 0, he, frT_name hR, rfl, ⟨A, c, rfl, rfl, rfl, rfl, rfl, hb⟩, h1⟩
theorem FRes.others {w w' : World} {B g : Nat} {R : FrR} {k : Int} {nm : List UInt8} {b : Value} {m f : Int} (h : FRes w B R k nm b m f) (hk : ∀ k, k ≠ g → k < w.heap.size → w'.heap[k]? = w.heap[k]?) (hg : g < B) (B' : Nat) (hB : B' ≤ B) : FRes w' B' R k nm b m f := by
  cases R with
  | bad F => exact h
  | good K NM bs M =>
    obtain ⟨A, c, h1, h2, h3, h4, h5, hb⟩ := h
    exact ⟨A, c, h1, h2, h3, h4, h5, (hb.keep (fun p hp hlt => World.cell?_of_block (hk p.block (by omega) hlt)) (fun _ h _ => h)).mono (fun j hj => by omega)⟩
theorem grown_lift {b c : World} {row : Option Nat} (h : b.grownBy c row) : b.grownBy c row := h
def FAtEnd (w : World) (g : Nat) (d : Int) (n : Nat) (R : FrR) (e : Ending) (w' : World) : Prop :=
  ∃ k nm b m f, e = .returned (.tuple #[.agg (RC k nm b), .int .i64 f]) ∧ nm.length = 32 ∧ b.oneCell' = true ∧ FRes w' w.heap.size R k nm b m f ∧ ∃ d', Tbl w' g d' ∧ d ≤ d' ∧ d' ≤ d + (n : Int) ∧ w.grownBy w' (some g)
set_option maxRecDepth 100000 in
set_option maxHeartbeats 1000000 in
theorem fat_any (w : World) (g : Nat) (d : Int) (S : Nat → Prop) (A : Option Addr) (n c z : Nat) (bs : List UInt8) (ht : Tbl w g d) (hd : 0 ≤ d ∧ d ≤ 1000000000) (hx : Bs w S A n c bs) (hS : ∀ k, S k → k < w.heap.size → k ≠ g) (hn : n ≤ 100000000) (hz : z < n) :
    Calls Try.prog 74 #[.pointer (some ⟨g, 0, none⟩), .slice A n c, .int .i64 (z : Int)] w (FAtEnd w g d n (frT (bs.drop z))) := by
  obtain ⟨ZV, hZ, hb, hbe⟩ := zero_box w
  have hgl := tbl_lt ht
  have hsz : (w.alloc (.cells ZV 109)).heap.size = w.heap.size + 1 := by simp
  obtain ⟨W1, hW1⟩ : ∃ W1, W1 = w.alloc (.cells ZV 109) := ⟨_, rfl⟩
  rw [← hW1] at hb hbe hsz
  obtain ⟨A7, c7, hcut, hx7⟩ := (hx.oldS.after hbe).from_ (z : Int) z (n - z) rfl (by omega)
  have HT := ftake_any W1 g d _ A7 (n - z) c7 (bs.drop z) (ht.after hbe) hd hx7 (fun k hk _ => hS k hk.1 hk.2) (by omega)
  have HTH := Lib.hid HT
  have H1 := Lib.hid (And.intro hb hbe)
  rw [hZ, ← zero_rec] at hW1
  have hz' : (z : Int) < (n : Int) := by omega
  have hfn : frN (frT (bs.drop z)) (n - z) ≤ n - z := frN_le (by rw [List.length_drop, hx.len])
  clear hx7 HT hb hbe hx hS ht hZ
  go_enter Try.func74, Try.ntmps74
  go_wp2_with fail
  rw [← hW1]
  clear hW1
  refine (HTH.out).mono ?_
  intro e w2 he
  obtain ⟨k, nm, b, m, f, rfl, hnm, hb1, hres, d', ht', hd1, hd2, hg2⟩ := he.one
  have H2 := Lib.hid (And.intro hres (And.intro ht' (And.intro hg2 (H1.out.1.grown hg2 (fun e => by injection e with e; omega)))))
  have HNM := Lib.hid (And.intro hnm hb1)
  clear he hres ht' hg2 hnm hb1
  have hs2 := H2.out.2.2.1.size
  have hl2 := H2.out.2.2.2.lt
  go_wp2_with (first | (refine wl_storeK rfl (.tmp 8) (.tmp 31) 109 rfl (.inl rfl) rfl rfl (Blk.new _ _ _) rfl HNM.out.1 HNM.out.2 ?_; intro w3 hb3 hf3 hk3; go_must ((have hb6 := (hk3 w.heap.size (by omega)).trans (H2.out.2.2.2.alloc _)))) | (refine wl_rec rfl (.tmp 8) 109 rfl (.inl rfl) rfl hb3 HNM.out.1 ?_) | (refine wl_storeK rfl (.tmp 6) (.tmp 34) 109 rfl (.inl rfl) rfl rfl hb6 (RC.size noName_len) HNM.out.1 HNM.out.2 ?_; intro w4 hb4 hf4 hk4))
  have hb23 : Below w2.heap.size w2 w3 := ((Below.refl _ w2).alloc (Nat.le_refl _) _).trans (hf3 _ (Nat.le_refl _))
  have hb24 : Below w.heap.size w2 w4 := (hb23.mono (by omega)).trans (hf4 _ (Nat.le_refl _))
  have hbW : Below w.heap.size w W1 := H1.out.2
  refine bodyPost_ret (results_cell2 rfl rfl (run_loadVar_row w4 _ 109 109 _ (0, 0) _ hb4 Try.underlying109 rfl (by rw [size109, RC.size HNM.out.1]))) rfl ⟨k, nm, b, m, f, rfl, HNM.out.1, HNM.out.2, ?_, d', tblB H2.out.2.1 hb24 hgl, hd1, by omega, grown_below (only_trans (only_of_below hbW _) (grown_lift H2.out.2.2.1)) hb24⟩
  exact H2.out.1.others (g := w.heap.size) (fun j hj hlt => (hk4 j hj).trans (hb23.block j hlt)) (by omega) _ (by omega)
end Go.Proofs.Ytaebmhbggbpnoaa
