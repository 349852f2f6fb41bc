/- The walk of the reference's Take (frame), a record that is got. Conditions: each theorem's premises. -/
import Derived.Test.YtaebmhbggbpnoaaGFr12
namespace Go.Proofs.Ytaebmhbggbpnoaa
open Go.RowKit
theorem openB_le (x : List UInt8) : (openB x).length ≤ x.length := by
  unfold openB
  split
  · simp
  · split
    · simp
    · simp
theorem yields_build {ops : Array Oper} {S : World → Prop} {o : Oper} {a : Act} {ty : TypeId} {parts : Array (Nat × Operand)} {cs : Array Value} (ho : o.op = .build ty parts) (hw : Region.wanted o (yielded ops a.tmps) = true) (hb : Try.prog.built ty (parts.map fun (i, x) => (i, a.eval x)).toList = some cs) : YieldsIf Try.prog ops S o (.agg cs) a :=
  .inl ⟨hw, fun w' _ => by
    unfold execOp
    simp only [ho, Sem.run_bind, run_build w' ty _ cs hb, Result.andThen_ok]
    rfl⟩
theorem rc_set {k : Int} {nm : List UInt8} {b : Value} {i : Nat} (x : UInt8) (hn : nm.length = 32) (hi : i < 32) : (RC k nm b).setIfInBounds (1 + i) (.int .u8 (x.toNat : Int)) = RC k (nm.set i x) b := by
  unfold RC
  rw [List.setIfInBounds_toArray, Nat.add_comm, List.set_cons_succ, List.set_append_left _ _ (by simp [u8s, hn, hi])]
  simp only [u8s, List.map_set]
  rfl
theorem name_step {a z : List UInt8} {i : Nat} {x : UInt8} (ha : a.length = 32) (hz : z.length = 32) (hi : i < 32) (hx : a[i]? = some x) : (a.take i ++ z.drop i).set i x = a.take (i + 1) ++ z.drop (i + 1) := by
  rw [List.set_append_right _ _ (by simp; omega), List.length_take, Nat.min_eq_left (by omega), Nat.sub_self, List.drop_eq_getElem_cons (by omega), List.set_cons_zero, List.take_add_one, hx]
  simp
set_option maxRecDepth 100000 in
set_option maxHeartbeats 4000000 in
theorem frtake_got (w : World) (S : Nat → Prop) (A : Option Addr) (n c : Nat) (bs rest : List UInt8) (v : TV) (hx : Bs w S A n c bs) (hn : n ≤ 100000000) (hr : readT 8 bs = some (v, rest)) (h4 : 4 ≤ rest.length) (hF : openF (bs.take (bs.length - rest.length + 4)) = 0) :
    Calls Try.prog 67 #[.slice A n c] w (FRTakeEnd w (frT bs)) := by
  have HGOT := Lib.hid (frT_got hr h4 hF)
  have HOP0 := take_open hr h4 hF
  obtain ⟨ZV, hZ, hb, hbe⟩ := zero_box' w
  have HB : Hid (∀ w', Below (w.heap.size + 1) (w.alloc (.cells ZV 112)) w' → Blk w' w.heap.size 112 (RC 0 noName (.slice none 0 0)) ∧ Below w.heap.size w w') := Lib.hid fun w' h => ⟨hb.below h (Nat.lt_succ_self _), hbe.trans (h.mono (Nat.le_succ _))⟩
  rw [← zero_rec] at hZ
  have HZ := Lib.hid hZ
  have HT := rtake_some (w.alloc (.cells ZV 112)) S A n c bs rest v (hx.after hbe) (by omega) hr
  have HX := Lib.hid hx
  have hrl : rest.length ≤ n := by
    obtain ⟨-, x, -, e⟩ := put_read 8 bs rest v hr
    have h := congrArg List.length e
    rw [hx.len] at h
    simp only [List.length_append] at h
    omega
  obtain ⟨m, hm⟩ : ∃ m, m = rest.length := ⟨_, rfl⟩
  obtain ⟨NN, hNN⟩ : ∃ NN, NN = n - m + 4 := ⟨_, rfl⟩
  have HFF : Hid (openF (bs.take NN) = 0 ∧ readT 8 (openB (bs.take NN)) = some (v, []) ∧ bs.length - rest.length + 4 = NN) := Lib.hid (by rw [hx.len, ← hm, ← hNN] at hF HOP0 ⊢; exact ⟨hF, HOP0, rfl⟩)
  have HM := Lib.hid hm
  have hm1 : 4 ≤ m := by omega
  have hm2 : m ≤ n := by omega
  have hNn : NN ≤ n := by omega
  have hni : (n : Int) - (m : Int) + 4 = (NN : Int) := by omega
  have HNI := Lib.hid hni
  rw [hZ] at HT
  have HTH := Lib.hid HT
  clear hb hbe hx HT hr hrl hm hF h4 hNN hni HOP0
  go_enter Try.func67, Try.ntmps67
  go_wp2_with fail
  refine (HTH.out).mono ?_
  rintro e w2 ⟨q, A2, m', c2, rfl, hv, hown, -, hb2⟩
  obtain rfl : m' = m := by rw [HM.out]; exact hown.len.symm
  obtain ⟨tg, N, bb, ll, B2, B3, k2, e2, k3, e3, rfl, rfl, -⟩ := hv.opens
  rw [← HZ.out] at hb2
  have H2 := Lib.hid (HB.out w2 (by have h := hb2; simp only [World.size_alloc] at h; exact h))
  obtain ⟨W3, hW3⟩ : ∃ W3, W3 = w2.alloc (.cells #[.int .i64 tg, .int .u64 (N : Int), .slice B2 k2 e2, .slice B3 k3 e3] 33) := ⟨_, rfl⟩
  have H3 : Hid (Blk W3 w.heap.size 112 (RC 0 noName (.slice none 0 0)) ∧ Below w.heap.size w W3) := Lib.hid (by rw [hW3]; exact ⟨H2.out.1.alloc _, H2.out.2.alloc H2.out.2.size _⟩)
  obtain ⟨A7, c7, hcut, hx7⟩ := (HX.out.after H3.out.2).upto ((n : Int) - (m' : Int) + 4) NN HNI.out hNn
  have HX7 := Lib.hid hx7
  clear hb2 hv hown hx7
  dsimp only [Quad.agg]
  have hm3 : ¬ (m' : Int) < 4 := by omega
  go_wp2_with fail
  rw [← hW3]
  clear hW3
  refine (ropen_any W3 _ A7 NN c7 (bs.take NN) HX7.out (by omega)).mono ?_
  rintro e w4 ⟨A8, n8, c8, rfl, hx8, hb4⟩
  have hn8 : n8 ≤ 100000000 := by
    have h1 := openB_le (bs.take NN)
    rw [hx8.len] at h1
    have h2 : (bs.take NN).length ≤ NN := by simp; omega
    omega
  rw [HFF.out.1]
  have HRG := Lib.hid (rget_some w4 _ A8 n8 c8 _ _ hx8 (by omega) HFF.out.2.1)
  have H4 := Lib.hid (And.intro (H3.out.1.after hb4) (H3.out.2.trans (hb4.mono H3.out.2.size)))
  clear hb4 hx8
  go_wp2_with fail
  refine (HRG.out).mono ?_
  rintro e w5 ⟨q5, rfl, hv5, hb5⟩
  obtain ⟨tg5, N5, bb5, ll5, P2, P3, i2, j2, i3, j3, rfl, hveq, -, -, -, hll5⟩ := hv5.opens
  cases hveq
  have hw4 := H4.out.2.size
  have H5 := Lib.hid (And.intro (H4.out.1.after hb5) (H4.out.2.trans (hb5.mono hw4)))
  have hbl : Below w5.heap.size w5 (w5.alloc (.cells #[.int .i64 tg, .int .u64 (N : Int), .slice P2 i2 j2, .slice P3 i3 j3] 33)) := (Below.refl _ _).alloc (Nat.le_refl _) _
  have hw5 := hb5.size
  have hl4 := H4.out.1.lt
  have H6 : Hid (Blk (w5.alloc (.cells #[.int .i64 tg, .int .u64 (N : Int), .slice P2 i2 j2, .slice P3 i3 j3] 33)) w.heap.size 112 (RC 0 noName (.slice none 0 0)) ∧ Below w.heap.size w (w5.alloc (.cells #[.int .i64 tg, .int .u64 (N : Int), .slice P2 i2 j2, .slice P3 i3 j3] 33)) ∧ Blk (w5.alloc (.cells #[.int .i64 tg, .int .u64 (N : Int), .slice P2 i2 j2, .slice P3 i3 j3] 33)) w5.heap.size 33 #[.int .i64 tg, .int .u64 (N : Int), .slice P2 i2 j2, .slice P3 i3 j3]) := Lib.hid
    ⟨H5.out.1.alloc _, H5.out.2.alloc H5.out.2.size _, Blk.new _ _ _⟩
  have hl6 : LR (w5.alloc (.cells #[.int .i64 tg, .int .u64 (N : Int), .slice P2 i2 j2, .slice P3 i3 j3] 33)) (fun j => w4.heap.size ≤ j ∧ j < w5.heap.size) P3 i3 j3 ll := hll5.oldS.after hbl
  obtain ⟨z0, z1, z2, z3, -⟩ := H6.out.2.2.four
  have HBAD : Hid (¬ recIs (.mk tg N bb ll) → frT bs = .bad 3) := Lib.hid (fun hb => by rw [HGOT.out]; unfold recOf; rw [if_neg hb])
  clear hb5 hv5 hll5 hbl
  dsimp only [Quad.agg]
  by_cases h1 : tg = 3
  case neg =>
    have HF : Hid (frT bs = .bad 3) := Lib.hid (HBAD.out fun h => h1 h.1.1)
    have d1 : (tg != 3) = true := by simpa using h1
    go_wp2_with (first | (with_reducible show wpList Try.prog _ _ ({ dst := none, op := Op.store 112 (Operand.tmp 2) (Operand.tmp 100), type := _, pos := _, after := _, guard := none } :: _) _ _; refine wl_store rfl (.tmp 2) (.tmp 100) 112 rfl (.inr rfl) rfl (k := 0) (nm := noName) (b := .slice none 0 0) rfl H6.out.1 rfl noName_len rfl ?_; intro w7 hb7 hf7))
    have hbF : Below w.heap.size w w7 := H6.out.2.1.trans (hf7 _ (Nat.le_refl _))
    refine bodyPost_ret (results_cell3 rfl rfl (run_loadVar_row w7 _ 112 112 _ (0, 0) _ hb7 Try.underlying112 rfl (by rw [size112, RC.size noName_len]))) rfl ⟨0, noName, .slice none 0 0, 0, 3, rfl, noName_len, rfl, ?_, hbF⟩
    rw [HF.out]
    exact ⟨rfl, rfl, rfl, rfl, rfl⟩
  subst h1
  by_cases h2 : i3 = 3
  case neg =>
    have HF : Hid (frT bs = .bad 3) := Lib.hid (HBAD.out fun h => h2 (by rw [← hl6.len]; exact h.1.2))
    have d2 : ((i3 : Int) != 3) = true := by simp; omega
    clear hl6
    go_wp2_with (first | (with_reducible show wpList Try.prog _ _ ({ dst := none, op := Op.store 112 (Operand.tmp 2) (Operand.tmp 100), type := _, pos := _, after := _, guard := none } :: _) _ _; refine wl_store rfl (.tmp 2) (.tmp 100) 112 rfl (.inr rfl) rfl (k := 0) (nm := noName) (b := .slice none 0 0) rfl H6.out.1 rfl noName_len rfl ?_; intro w7 hb7 hf7))
    have hbF : Below w.heap.size w w7 := H6.out.2.1.trans (hf7 _ (Nat.le_refl _))
    refine bodyPost_ret (results_cell3 rfl rfl (run_loadVar_row w7 _ 112 112 _ (0, 0) _ hb7 Try.underlying112 rfl (by rw [size112, RC.size noName_len]))) rfl ⟨0, noName, .slice none 0 0, 0, 3, rfl, noName_len, rfl, ?_, hbF⟩
    rw [HF.out]
    exact ⟨rfl, rfl, rfl, rfl, rfl⟩
  subst h2
  obtain ⟨ad, x0, qx, tx, ea, ex, hx, hvx, x00, x01, x02, x03, hxS, hxl⟩ := hl6.at_ (k := 0) (by omega)
  subst ea
  obtain ⟨ad', x1, qy, ty, ea, ey, hy, hvy, y00, y01, y02, y03, hyS, hyl⟩ := hl6.at_ (k := 1) (by omega)
  injection ea with ea
  subst ea
  obtain ⟨ad', x2, qz, tz, ea, ez, hz, hvz, w00, w01, w02, w03, hzS, hzl⟩ := hl6.at_ (k := 2) (by omega)
  injection ea with ea
  subst ea
  obtain ⟨tg1, N1, b1, l1, A12, A13, n12, c12, n13, c13, rfl, rfl, -⟩ := hvx.opens
  obtain ⟨tg2, N2, b2, l2, A22, A23, n22, c22, n23, c23, rfl, rfl, -, hb2, hn22, -⟩ := hvy.opens
  obtain ⟨tg3, N3, b3, l3, A32, A33, n32, c32, n33, c33, rfl, rfl, -, hb3, hn32, -⟩ := hvz.opens
  dsimp only at x00 x01 x02 x03 y00 y01 y02 y03 w00 w01 w02 w03
  have HLL := Lib.hid (And.intro hl6.len (And.intro hx (And.intro hy hz)))
  have HB2 := Lib.hid (And.intro hb2 (And.intro ey (And.intro hxS (And.intro hyS (And.intro hzS y02)))))
  have HB3 := Lib.hid hb3
  have HX : Hid (recX_ (.mk 3 N bb ll) = .mk tg1 N1 b1 l1 ∧ recY_ (.mk 3 N bb ll) = .mk tg2 N2 b2 l2 ∧ recZ_ (.mk 3 N bb ll) = .mk tg3 N3 b3 l3) := Lib.hid (by
    refine ⟨?_, ?_, ?_⟩
    · unfold recX_ TV.list; rw [List.getD_eq_getElem?_getD, HLL.out.2.1.out]; rfl
    · unfold recY_ TV.list; rw [List.getD_eq_getElem?_getD, HLL.out.2.2.1.out]; rfl
    · unfold recZ_ TV.list; rw [List.getD_eq_getElem?_getD, HLL.out.2.2.2.out]; rfl)
  have HI : Hid (recIs (.mk 3 N bb ll) ↔ (tg1 = 1 ∧ N1 ≤ 9 ∧ tg2 = 2 ∧ n22 = 32 ∧ tg3 = 2) ∧ 0 < N1 ∧ n32 ≤ 5000) := Lib.hid (by
    unfold recIs
    rw [HX.out.1, HX.out.2.1, HX.out.2.2]
    simp only [TV.tag, TV.num, TV.bytes, TV.list, HLL.out.1, HB2.out.1.len, HB3.out.len, and_self, true_and])
  clear hx hy hz hvx hvy hvz hb2 hb3 hxS hyS hzS hl6 hxl hyl hzl
  by_cases h3 : tg1 = 1
  case neg =>
    have HF : Hid (frT bs = .bad 3) := Lib.hid (HBAD.out fun h => h3 (HI.out.1 h).1.1)
    have d3 : (tg1 != 1) = true := by simpa using h3
    go_wp2_with (first | (with_reducible show wpList Try.prog _ _ ({ dst := none, op := Op.store 112 (Operand.tmp 2) (Operand.tmp 100), type := _, pos := _, after := _, guard := none } :: _) _ _; refine wl_store rfl (.tmp 2) (.tmp 100) 112 rfl (.inr rfl) rfl (k := 0) (nm := noName) (b := .slice none 0 0) rfl H6.out.1 rfl noName_len rfl ?_; intro w7 hb7 hf7))
    have hbF : Below w.heap.size w w7 := H6.out.2.1.trans (hf7 _ (Nat.le_refl _))
    refine bodyPost_ret (results_cell3 rfl rfl (run_loadVar_row w7 _ 112 112 _ (0, 0) _ hb7 Try.underlying112 rfl (by rw [size112, RC.size noName_len]))) rfl ⟨0, noName, .slice none 0 0, 0, 3, rfl, noName_len, rfl, ?_, hbF⟩
    rw [HF.out]
    exact ⟨rfl, rfl, rfl, rfl, rfl⟩
  subst h3
  by_cases h4 : tg2 = 2
  case neg =>
    have HF : Hid (frT bs = .bad 3) := Lib.hid (HBAD.out fun h => h4 (HI.out.1 h).1.2.2.1)
    have d4 : (tg2 != 2) = true := by simpa using h4
    go_wp2_with (first | (with_reducible show wpList Try.prog _ _ ({ dst := none, op := Op.store 112 (Operand.tmp 2) (Operand.tmp 100), type := _, pos := _, after := _, guard := none } :: _) _ _; refine wl_store rfl (.tmp 2) (.tmp 100) 112 rfl (.inr rfl) rfl (k := 0) (nm := noName) (b := .slice none 0 0) rfl H6.out.1 rfl noName_len rfl ?_; intro w7 hb7 hf7))
    have hbF : Below w.heap.size w w7 := H6.out.2.1.trans (hf7 _ (Nat.le_refl _))
    refine bodyPost_ret (results_cell3 rfl rfl (run_loadVar_row w7 _ 112 112 _ (0, 0) _ hb7 Try.underlying112 rfl (by rw [size112, RC.size noName_len]))) rfl ⟨0, noName, .slice none 0 0, 0, 3, rfl, noName_len, rfl, ?_, hbF⟩
    rw [HF.out]
    exact ⟨rfl, rfl, rfl, rfl, rfl⟩
  subst h4
  by_cases h5 : tg3 = 2
  case neg =>
    have HF : Hid (frT bs = .bad 3) := Lib.hid (HBAD.out fun h => h5 (HI.out.1 h).1.2.2.2.2)
    have d5 : (tg3 != 2) = true := by simpa using h5
    go_wp2_with (first | (with_reducible show wpList Try.prog _ _ ({ dst := none, op := Op.store 112 (Operand.tmp 2) (Operand.tmp 100), type := _, pos := _, after := _, guard := none } :: _) _ _; refine wl_store rfl (.tmp 2) (.tmp 100) 112 rfl (.inr rfl) rfl (k := 0) (nm := noName) (b := .slice none 0 0) rfl H6.out.1 rfl noName_len rfl ?_; intro w7 hb7 hf7))
    have hbF : Below w.heap.size w w7 := H6.out.2.1.trans (hf7 _ (Nat.le_refl _))
    refine bodyPost_ret (results_cell3 rfl rfl (run_loadVar_row w7 _ 112 112 _ (0, 0) _ hb7 Try.underlying112 rfl (by rw [size112, RC.size noName_len]))) rfl ⟨0, noName, .slice none 0 0, 0, 3, rfl, noName_len, rfl, ?_, hbF⟩
    rw [HF.out]
    exact ⟨rfl, rfl, rfl, rfl, rfl⟩
  subst h5
  by_cases h6 : n22 = 32
  case neg =>
    have HF : Hid (frT bs = .bad 3) := Lib.hid (HBAD.out fun h => h6 (HI.out.1 h).1.2.2.2.1)
    have d6 : ((n22 : Int) != 32) = true := by simp; omega
    go_wp2_with (first | (with_reducible show wpList Try.prog _ _ ({ dst := none, op := Op.store 112 (Operand.tmp 2) (Operand.tmp 100), type := _, pos := _, after := _, guard := none } :: _) _ _; refine wl_store rfl (.tmp 2) (.tmp 100) 112 rfl (.inr rfl) rfl (k := 0) (nm := noName) (b := .slice none 0 0) rfl H6.out.1 rfl noName_len rfl ?_; intro w7 hb7 hf7))
    have hbF : Below w.heap.size w w7 := H6.out.2.1.trans (hf7 _ (Nat.le_refl _))
    refine bodyPost_ret (results_cell3 rfl rfl (run_loadVar_row w7 _ 112 112 _ (0, 0) _ hb7 Try.underlying112 rfl (by rw [size112, RC.size noName_len]))) rfl ⟨0, noName, .slice none 0 0, 0, 3, rfl, noName_len, rfl, ?_, hbF⟩
    rw [HF.out]
    exact ⟨rfl, rfl, rfl, rfl, rfl⟩
  subst h6
  by_cases h7 : 9 < N1
  case pos =>
    have HF : Hid (frT bs = .bad 3) := Lib.hid (HBAD.out fun h => by have := (HI.out.1 h).1.2.1; omega)
    have d7 : (9 : Int) < (N1 : Int) := by omega
    go_wp2_with (first | (with_reducible show wpList Try.prog _ _ ({ dst := none, op := Op.store 112 (Operand.tmp 2) (Operand.tmp 100), type := _, pos := _, after := _, guard := none } :: _) _ _; refine wl_store rfl (.tmp 2) (.tmp 100) 112 rfl (.inr rfl) rfl (k := 0) (nm := noName) (b := .slice none 0 0) rfl H6.out.1 rfl noName_len rfl ?_; intro w7 hb7 hf7))
    have hbF : Below w.heap.size w w7 := H6.out.2.1.trans (hf7 _ (Nat.le_refl _))
    refine bodyPost_ret (results_cell3 rfl rfl (run_loadVar_row w7 _ 112 112 _ (0, 0) _ hb7 Try.underlying112 rfl (by rw [size112, RC.size noName_len]))) rfl ⟨0, noName, .slice none 0 0, 0, 3, rfl, noName_len, rfl, ?_, hbF⟩
    rw [HF.out]
    exact ⟨rfl, rfl, rfl, rfl, rfl⟩
  have hN9 : N1 ≤ 9 := by omega
  have d7 : ¬ (9 : Int) < (N1 : Int) := by omega
  have hwr : IntKind.i64.wrap (N1 : Int) = (N1 : Int) := by unfold IntKind.wrap; simp [IntKind.bits, IntKind.signed]; omega
  go_wp2_with fail
  obtain ⟨W6, hW6⟩ : ∃ W6, W6 = w5.alloc (.cells #[.int .i64 3, .int .u64 (N : Int), .slice P2 i2 j2, .slice (some ad) 3 j3] 33) := ⟨_, rfl⟩
  rw [← hW6] at z3 x01 w02 y02 H6 HB2 HB3 ⊢
  have hs6 : w5.heap.size < W6.heap.size := by rw [hW6]; simp
  clear hW6 z0 z1 z2 x00 x02 x03 y00 y01 y03 w00 w01 w03
  have HC6 : Hid (∀ w', Hid (Below W6.heap.size W6 w') → w'.cell? ⟨w5.heap.size, 3, none⟩ = some (.slice (some ad) 3 j3) ∧ w'.cell? ⟨x0.block, x0.off + 1, none⟩ = some (.int .u64 (N1 : Int)) ∧ w'.cell? ⟨x2.block, x2.off + 2, none⟩ = some (.slice A32 n32 c32)) := Lib.hid fun w' h => ⟨(h.out.cell (World.block_lt_of_cell? _ _ z3)).trans z3, (h.out.cell (World.block_lt_of_cell? _ _ x01)).trans x01, (h.out.cell (World.block_lt_of_cell? _ _ w02)).trans w02⟩
  have HC7 : Hid (∀ w', Hid (Below W6.heap.size W6 w') → w'.cell? ⟨w5.heap.size, 3, none⟩ = some (.slice (some ad) 3 j3) ∧ w'.cell? ⟨x1.block, x1.off + 2, none⟩ = some (.slice A22 32 c22)) := Lib.hid fun w' h => ⟨(h.out.cell (World.block_lt_of_cell? _ _ z3)).trans z3, (h.out.cell (World.block_lt_of_cell? _ _ y02)).trans y02⟩
  have HZB : Hid (Blk ((W6.alloc (.cells #[Value.int .i64 0, .int .u8 0, .int .u8 0, .int .u8 0, .int .u8 0, .int .u8 0, .int .u8 0, .int .u8 0, .int .u8 0, .int .u8 0, .int .u8 0, .int .u8 0, .int .u8 0, .int .u8 0, .int .u8 0, .int .u8 0, .int .u8 0, .int .u8 0, .int .u8 0, .int .u8 0, .int .u8 0, .int .u8 0, .int .u8 0, .int .u8 0, .int .u8 0, .int .u8 0, .int .u8 0, .int .u8 0, .int .u8 0, .int .u8 0, .int .u8 0, .int .u8 0, .int .u8 0, .slice none 0 0] 112)).drew) W6.heap.size 112 #[Value.int .i64 0, .int .u8 0, .int .u8 0, .int .u8 0, .int .u8 0, .int .u8 0, .int .u8 0, .int .u8 0, .int .u8 0, .int .u8 0, .int .u8 0, .int .u8 0, .int .u8 0, .int .u8 0, .int .u8 0, .int .u8 0, .int .u8 0, .int .u8 0, .int .u8 0, .int .u8 0, .int .u8 0, .int .u8 0, .int .u8 0, .int .u8 0, .int .u8 0, .int .u8 0, .int .u8 0, .int .u8 0, .int .u8 0, .int .u8 0, .int .u8 0, .int .u8 0, .int .u8 0, .slice none 0 0]) := Lib.hid (blk_new rfl).drew
  have HFB : Hid (∀ cs, Blk (((W6.alloc (.cells #[Value.int .i64 0, .int .u8 0, .int .u8 0, .int .u8 0, .int .u8 0, .int .u8 0, .int .u8 0, .int .u8 0, .int .u8 0, .int .u8 0, .int .u8 0, .int .u8 0, .int .u8 0, .int .u8 0, .int .u8 0, .int .u8 0, .int .u8 0, .int .u8 0, .int .u8 0, .int .u8 0, .int .u8 0, .int .u8 0, .int .u8 0, .int .u8 0, .int .u8 0, .int .u8 0, .int .u8 0, .int .u8 0, .int .u8 0, .int .u8 0, .int .u8 0, .int .u8 0, .int .u8 0, .slice none 0 0] 112)).drew).setRow W6.heap.size cs) W6.heap.size 112 cs) := Lib.hid fun cs => setRow_heap _ _ _ _ 112 (0, 0) HZB.out
  clear z3 x01 w02 y02
  refine wp_region_held_drew (S := fun w' => Hid (Below W6.heap.size W6 w')) (by kernel_rfl) (Lib.hid ((Below.refl _ _).drew)) (fun hHeld => ?_)
  refine wpAnyH_take (i := 0) (oi := { dst := some 101, op := Op.fieldAddr 33 (Operand.tmp 10) 3, type := 0, pos := "ref.go:51", after := #[], guard := none }) (v := ?v0) rfl (by kernel_rfl) (by kernel_rfl) (by kernel_rfl) (fun _ _ _ h => h) (Or.inl ⟨by rfl, ?hy0⟩) hHeld ?rest0
  case hy0 => (intro w hSw; go_simp; try with_reducible rfl)
  try simp only [Act.put, List.setIfInBounds_toArray, List.set_cons_zero, List.set_cons_succ]
  refine wpAnyH_take (i := 1) (oi := { dst := some 102, op := Op.load 31 (Operand.tmp 101), type := 31, pos := "ref.go:51", after := #[{ on := 0, ground := Ground.data }], guard := none }) (v := ?v1) rfl (by kernel_rfl) (by kernel_rfl) (by kernel_rfl) (fun _ _ _ h => h) (Or.inl ⟨by rfl, ?hy1⟩) hHeld ?rest1
  case hy1 => (intro w hSw; have q0 := HC6.out w hSw; obtain ⟨q1, q2, q3⟩ := q0; go_simp; try with_reducible rfl)
  try simp only [Act.put, List.setIfInBounds_toArray, List.set_cons_zero, List.set_cons_succ]
  refine wpAnyH_take (i := 2) (oi := { dst := some 103, op := Op.indexAddr 31 (Operand.tmp 102) (Operand.const (Value.int IntKind.i64 0)), type := 0, pos := "ref.go:51", after := #[{ on := 1, ground := Ground.data }], guard := none }) (v := ?v2) rfl (by kernel_rfl) (by kernel_rfl) (by kernel_rfl) (fun _ _ _ h => h) (Or.inl ⟨by rfl, ?hy2⟩) hHeld ?rest2
  case hy2 => (intro w hSw; go_simp; try with_reducible rfl)
  try simp only [Act.put, List.setIfInBounds_toArray, List.set_cons_zero, List.set_cons_succ]
  refine wpAnyH_take (i := 3) (oi := { dst := some 104, op := Op.fieldAddr 33 (Operand.tmp 103) 1, type := 0, pos := "ref.go:51", after := #[{ on := 2, ground := Ground.data }], guard := none }) (v := ?v3) rfl (by kernel_rfl) (by kernel_rfl) (by kernel_rfl) (fun _ _ _ h => h) (Or.inl ⟨by rfl, ?hy3⟩) hHeld ?rest3
  case hy3 => (intro w hSw; go_simp; try with_reducible rfl)
  try simp only [Act.put, List.setIfInBounds_toArray, List.set_cons_zero, List.set_cons_succ]
  refine wpAnyH_take (i := 4) (oi := { dst := some 105, op := Op.load 24 (Operand.tmp 104), type := 24, pos := "ref.go:51", after := #[{ on := 3, ground := Ground.data }], guard := none }) (v := ?v4) rfl (by kernel_rfl) (by kernel_rfl) (by kernel_rfl) (fun _ _ _ h => h) (Or.inl ⟨by rfl, ?hy4⟩) hHeld ?rest4
  case hy4 => (intro w hSw; have q0 := HC6.out w hSw; obtain ⟨q1, q2, q3⟩ := q0; go_simp; try with_reducible rfl)
  try simp only [Act.put, List.setIfInBounds_toArray, List.set_cons_zero, List.set_cons_succ]
  refine wpAnyH_take (i := 5) (oi := { dst := some 106, op := Op.convert 24 3 (Operand.tmp 105), type := 3, pos := "ref.go:51", after := #[{ on := 4, ground := Ground.data }], guard := none }) (v := ?v5) rfl (by kernel_rfl) (by kernel_rfl) (by kernel_rfl) (fun _ _ _ h => h) (Or.inl ⟨by rfl, ?hy5⟩) hHeld ?rest5
  case hy5 => (intro w hSw; go_simp; try with_reducible rfl)
  try simp only [Act.put, List.setIfInBounds_toArray, List.set_cons_zero, List.set_cons_succ]
  refine wpAnyH_take (i := 6) (oi := { dst := some 107, op := Op.fieldAddr 33 (Operand.tmp 10) 3, type := 0, pos := "ref.go:51", after := #[], guard := none }) (v := ?v6) rfl (by kernel_rfl) (by kernel_rfl) (by kernel_rfl) (fun _ _ _ h => h) (Or.inl ⟨by rfl, ?hy6⟩) hHeld ?rest6
  case hy6 => (intro w hSw; go_simp; try with_reducible rfl)
  try simp only [Act.put, List.setIfInBounds_toArray, List.set_cons_zero, List.set_cons_succ]
  refine wpAnyH_take (i := 7) (oi := { dst := some 108, op := Op.load 31 (Operand.tmp 107), type := 31, pos := "ref.go:51", after := #[{ on := 6, ground := Ground.data }], guard := none }) (v := ?v7) rfl (by kernel_rfl) (by kernel_rfl) (by kernel_rfl) (fun _ _ _ h => h) (Or.inl ⟨by rfl, ?hy7⟩) hHeld ?rest7
  case hy7 => (intro w hSw; have q0 := HC6.out w hSw; obtain ⟨q1, q2, q3⟩ := q0; go_simp; try with_reducible rfl)
  try simp only [Act.put, List.setIfInBounds_toArray, List.set_cons_zero, List.set_cons_succ]
  refine wpAnyH_take (i := 8) (oi := { dst := some 109, op := Op.indexAddr 31 (Operand.tmp 108) (Operand.const (Value.int IntKind.i64 2)), type := 0, pos := "ref.go:51", after := #[{ on := 7, ground := Ground.data }], guard := none }) (v := ?v8) rfl (by kernel_rfl) (by kernel_rfl) (by kernel_rfl) (fun _ _ _ h => h) (Or.inl ⟨by rfl, ?hy8⟩) hHeld ?rest8
  case hy8 => (intro w hSw; go_simp; try with_reducible rfl)
  try simp only [Act.put, List.setIfInBounds_toArray, List.set_cons_zero, List.set_cons_succ]
  refine wpAnyH_take (i := 9) (oi := { dst := some 110, op := Op.fieldAddr 33 (Operand.tmp 109) 2, type := 0, pos := "ref.go:51", after := #[{ on := 8, ground := Ground.data }], guard := none }) (v := ?v9) rfl (by kernel_rfl) (by kernel_rfl) (by kernel_rfl) (fun _ _ _ h => h) (Or.inl ⟨by rfl, ?hy9⟩) hHeld ?rest9
  case hy9 => (intro w hSw; go_simp; try with_reducible rfl)
  try simp only [Act.put, List.setIfInBounds_toArray, List.set_cons_zero, List.set_cons_succ]
  refine wpAnyH_take (i := 10) (oi := { dst := some 111, op := Op.load 22 (Operand.tmp 110), type := 22, pos := "ref.go:51", after := #[{ on := 9, ground := Ground.data }], guard := none }) (v := ?v10) rfl (by kernel_rfl) (by kernel_rfl) (by kernel_rfl) (fun _ _ _ h => h) (Or.inl ⟨by rfl, ?hy10⟩) hHeld ?rest10
  case hy10 => (intro w hSw; have q0 := HC6.out w hSw; obtain ⟨q1, q2, q3⟩ := q0; go_simp; try with_reducible rfl)
  try simp only [Act.put, List.setIfInBounds_toArray, List.set_cons_zero, List.set_cons_succ]
  refine wpAnyH_take (i := 11) (oi := { dst := some 112, op := Op.build 112 #[(0, Operand.tmp 106), (2, Operand.tmp 111)], type := 112, pos := "ref.go:51", after := #[{ on := 5, ground := Ground.data }, { on := 10, ground := Ground.data }], guard := none }) (v := _) rfl (by kernel_rfl) (by kernel_rfl) (by kernel_rfl) (fun _ _ _ h => h) (yields_build rfl rfl (by simp only [List.map_toArray, List.map_cons, List.map_nil]; exact built112s (N1 : Int) A32 n32 c32)) hHeld ?_
  try simp only [Act.put, List.setIfInBounds_toArray, List.set_cons_zero, List.set_cons_succ]
  refine wpAnyH_ready (rs := [12]) (by kernel_rfl) (by simp) ?_
  refine AllReadyH.cons (o := { dst := some 12, op := Op.alloc 112, type := 0, pos := "ref.go:51", after := #[], guard := none }) rfl (fun K hK => ?_) AllReadyH.nil
  go_simp
  refine hK.out _ _ ((Lib.hid ((Below.refl _ _).alloc (Nat.le_refl _) _).drew)) (fun hHeld => ?_)
  clear hK K
  try simp only [Act.put, List.setIfInBounds_toArray, List.set_cons_zero, List.set_cons_succ]
  refine wpAnyH_ready (rs := [13]) (by kernel_rfl) (by simp) ?_
  refine AllReadyH.cons (o := { dst := none, op := Op.store 112 (Operand.tmp 12) (Operand.tmp 112), type := 0, pos := "ref.go:51", after := #[{ on := 12, ground := Ground.data }, { on := 11, ground := Ground.data }, { on := 0, ground := Ground.phase }, { on := 1, ground := Ground.phase }, { on := 2, ground := Ground.phase }, { on := 3, ground := Ground.phase }, { on := 4, ground := Ground.phase }, { on := 5, ground := Ground.phase }, { on := 6, ground := Ground.phase }, { on := 7, ground := Ground.phase }, { on := 8, ground := Ground.phase }, { on := 9, ground := Ground.phase }, { on := 10, ground := Ground.phase }, { on := 11, ground := Ground.phase }, { on := 12, ground := Ground.phase }], guard := none }) rfl (fun K hK => ?_) AllReadyH.nil
  rw [if_pos (by rfl)]; refine wp_store_row 112 (.tmp 12) (.tmp 112) rfl W6.heap.size _ rfl rfl 112 _ (HZB.out) (by rw [size112, RC.size noName_len]) (by rw [RC.size noName_len]; rfl) (RC.one rfl) ?_
  refine hK.out _ _ ((Lib.hid (below_setRow (((Below.refl _ _).alloc (Nat.le_refl _) _).drew) (Nat.le_refl _) _))) (fun hHeld => ?_)
  clear hK K
  try simp only [Act.put]
  refine wpAnyH_done (by kernel_rfl) ?_ _
  have H7 := Lib.hid (And.intro (HFB.out (RC (N1 : Int) noName (.slice A32 n32 c32))) hHeld.out)
  clear hHeld HFB HZB
  obtain ⟨W7, hW7⟩ : ∃ W7, W7 = ((W6.alloc (.cells #[Value.int .i64 0, .int .u8 0, .int .u8 0, .int .u8 0, .int .u8 0, .int .u8 0, .int .u8 0, .int .u8 0, .int .u8 0, .int .u8 0, .int .u8 0, .int .u8 0, .int .u8 0, .int .u8 0, .int .u8 0, .int .u8 0, .int .u8 0, .int .u8 0, .int .u8 0, .int .u8 0, .int .u8 0, .int .u8 0, .int .u8 0, .int .u8 0, .int .u8 0, .int .u8 0, .int .u8 0, .int .u8 0, .int .u8 0, .int .u8 0, .int .u8 0, .int .u8 0, .int .u8 0, .slice none 0 0] 112)).drew).setRow W6.heap.size (RC (N1 : Int) noName (.slice A32 n32 c32)) := ⟨_, rfl⟩
  rw [← hW7] at H7 ⊢
  clear hW7
  go_wp2_with fail
  go_loopw [13] (fun v13 wr => ∃ i : Nat, i ≤ 32 ∧ v13 = .int .i64 (i : Int) ∧ Hid (Blk wr W6.heap.size 112 (RC (N1 : Int) (b2.take i ++ noName.drop i) (.slice A32 n32 c32)) ∧ Hid (Below W6.heap.size W6 wr))) (fun v13 _ => 32 - (intOf v13).toNat)
  case atStart => exact ⟨0, by omega, rfl, Lib.hid ⟨H7.out.1, Lib.hid H7.out.2⟩⟩
  case round =>
    obtain ⟨i, hi, rfl, HR⟩ := hrel
    by_cases hlt : i < 32
    · have hlt' : (i : Int) < 32 := by omega
      obtain ⟨q1, q2⟩ := HC7.out wr HR.out.2
      obtain ⟨ad2, xb, rfl, Hb, hcb⟩ := (HB2.out.1.after HR.out.2.out).at_ hlt
      obtain ⟨yb, hcell⟩ : ∃ yb : UInt8, wr.cell? ⟨W6.heap.size, 1 + i, none⟩ = some (.int .u8 (yb.toNat : Int)) := by
        have hlen : (b2.take i ++ noName.drop i).length = 32 := by simp [HB2.out.1.len, noName]; omega
        refine ⟨(b2.take i ++ noName.drop i)[i]'(by omega), ?_⟩
        rw [HR.out.1.cell]
        simp only [RC, List.getElem?_toArray, Nat.add_comm 1 i, List.getElem?_cons_succ]
        rw [List.getElem?_append_left (by rw [u8s_length]; omega)]
        simp only [u8s, List.getElem?_map, List.getElem?_eq_getElem (show i < (b2.take i ++ noName.drop i).length by omega), Option.map_some, u8v]
      have hfro := HR.out.1.frozen (1 + i)
      go_wp2_with fail
      go_roundw
      case rel =>
        refine ⟨i + 1, by omega, by go_num, Lib.hid ⟨?_, Lib.hid (HR.out.2.out.setCell (p := ⟨W6.heap.size, 1 + i, none⟩) (Nat.le_refl _) _)⟩⟩
        have h := HR.out.1.set_ (1 + i) (.int .u8 (xb.toNat : Int))
        rw [rc_set xb (by simp [HB2.out.1.len, noName]; omega) hlt, name_step HB2.out.1.len noName_len hlt Hb.out] at h
        exact h
      case measure => simp [intOf]; omega
    · obtain rfl : i = 32 := by omega
      have hb32 : Blk wr W6.heap.size 112 (RC (N1 : Int) b2 (.slice A32 n32 c32)) := by
        have h := HR.out.1
        rw [List.take_of_length_le (by rw [HB2.out.1.len]; exact Nat.le_refl _), List.drop_eq_nil_of_le (by rw [noName_len]; exact Nat.le_refl _), List.append_nil] at h
        exact h
      have HBR := Lib.hid (And.intro hb32 (And.intro (H6.out.1.after HR.out.2.out) (H6.out.2.1.trans (HR.out.2.out.mono H6.out.2.1.size))))
      have hl2 := HB2.out.1.len
      clear hb32
      go_wp2_with (first | (with_reducible show wpList Try.prog _ _ ({ dst := some 128, op := Op.load 112 (Operand.tmp 12), type := _, pos := _, after := _, guard := none } :: _) _ _; refine wl_rec rfl (.tmp 12) 112 rfl (.inr rfl) rfl HBR.out.1 hl2 ?_))
      refine (frright_any wr (N1 : Int) b2 A32 n32 c32 hl2).mono ?_
      rintro e w8 ⟨rfl, hb8⟩
      have H8 := Lib.hid (And.intro (HBR.out.1.after hb8) (And.intro (HBR.out.2.1.after hb8) (And.intro (HBR.out.2.2.trans (hb8.mono HBR.out.2.2.size)) (HB3.out.after (HR.out.2.out.trans (hb8.mono HR.out.2.out.size))))))
      clear hb8
      cases hrr : rcRight (N1 : Int) n32 with
      | true =>
        obtain ⟨hk0, hk9, hn5⟩ : 0 < (N1 : Int) ∧ (N1 : Int) ≤ 9 ∧ n32 ≤ 5000 := of_decide_eq_true hrr
        have HGD : Hid (frT bs = .good N1 b2 b3 NN) := Lib.hid (by
          rw [HGOT.out]
          unfold recOf
          rw [if_pos (HI.out.2 (by refine ⟨⟨?_, hN9, ?_, ?_, ?_⟩, by omega, hn5⟩ <;> trivial)), HX.out.1, HX.out.2.1, HX.out.2.2]
          simp only [TV.num, TV.bytes, HFF.out.2.2])
        clear hrr
        go_wp2_with (first | (with_reducible show wpList Try.prog _ _ ({ dst := some 132, op := Op.load 112 (Operand.tmp 12), type := _, pos := _, after := _, guard := none } :: _) _ _; refine wl_rec rfl (.tmp 12) 112 rfl (.inr rfl) rfl H8.out.1 hl2 ?_) | (with_reducible show wpList Try.prog _ _ ({ dst := none, op := Op.store 112 (Operand.tmp 2) (Operand.tmp 132), type := _, pos := _, after := _, guard := none } :: _) _ _; refine wl_storeK rfl (.tmp 2) (.tmp 132) 112 rfl (.inr rfl) rfl rfl H8.out.2.1 (RC.size noName_len) hl2 rfl ?_; intro w9 hb9 hf9 hk9'))
        have hbF : Below w.heap.size w w9 := H8.out.2.2.1.trans (hf9 _ (Nat.le_refl _))
        refine bodyPost_ret (results_cell3 rfl rfl (run_loadVar_row w9 _ 112 112 _ (0, 0) _ hb9 Try.underlying112 rfl (by rw [size112, RC.size hl2]))) rfl ⟨(N1 : Int), b2, .slice A32 n32 c32, _, _, rfl, hl2, rfl, ?_, hbF⟩
        rw [HGD.out]
        have hn3 := HB3.out.len
        subst hn3
        have hw4' := H4.out.2.size
        refine ⟨A32, c32, rfl, rfl, rfl, HNI.out, rfl, ((bs_others (g := w.heap.size) (H8.out.2.2.2.keep (S' := fun j => w.heap.size ≤ j ∧ j ≠ w.heap.size) (fun _ _ _ => rfl) (fun j hj _ => ⟨by omega, by omega⟩)) hk9' (fun j hj => hj.2)).mono (fun j hj => hj.1))⟩
      | false =>
        have HBD : Hid (frT bs = .bad 3) := Lib.hid (HBAD.out fun h => by
          have h2 := (HI.out.1 h).2
          have h3 : rcRight (N1 : Int) n32 = true := by unfold rcRight; simp; omega
          rw [hrr] at h3
          cases h3)
        clear hrr
        go_wp2_with (first | (with_reducible show wpList Try.prog _ _ ({ dst := none, op := Op.store 112 (Operand.tmp 2) (Operand.tmp 131), type := _, pos := _, after := _, guard := none } :: _) _ _; refine wl_store rfl (.tmp 2) (.tmp 131) 112 rfl (.inr rfl) rfl (k := 0) (nm := noName) (b := .slice none 0 0) rfl H8.out.2.1 rfl noName_len rfl ?_; intro w9 hb9 hf9))
        have hbF : Below w.heap.size w w9 := H8.out.2.2.1.trans (hf9 _ (Nat.le_refl _))
        refine bodyPost_ret (results_cell3 rfl rfl (run_loadVar_row w9 _ 112 112 _ (0, 0) _ hb9 Try.underlying112 rfl (by rw [size112, RC.size noName_len]))) rfl ⟨0, noName, .slice none 0 0, 0, 3, rfl, noName_len, rfl, ?_, hbF⟩
        rw [HBD.out]
        exact ⟨rfl, rfl, rfl, rfl, rfl⟩
theorem frtake_any (w : World) (S : Nat → Prop) (A : Option Addr) (n c : Nat) (bs : List UInt8) (hx : Bs w S A n c bs) (hn : n ≤ 100000000) : Calls Try.prog 67 #[.slice A n c] w (FRTakeEnd w (frT bs)) := by
  cases hr : readT 8 bs with
  | none => exact frtake_none w S A n c bs hx hn hr
  | some p =>
    obtain ⟨v, rest⟩ := p
    by_cases h4 : rest.length < 4
    · exact frtake_short w S A n c bs rest v hx hn hr h4
    · by_cases hF : openF (bs.take (bs.length - rest.length + 4)) = 0
      · exact frtake_got w S A n c bs rest v hx hn hr (by omega) hF
      · exact frtake_sum w S A n c bs rest v hx hn hr (by omega) hF
end Go.Proofs.Ytaebmhbggbpnoaa
