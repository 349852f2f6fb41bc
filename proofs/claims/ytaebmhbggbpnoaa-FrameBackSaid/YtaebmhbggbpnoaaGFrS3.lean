/- The walk of the reference's Scan (frame). Conditions: each theorem's premises. -/
import Derived.Test.YtaebmhbggbpnoaaGFr13
import Derived.Test.YtaebmhbggbpnoaaGFrS1
namespace Go.Proofs.Ytaebmhbggbpnoaa
open Go.RowKit
theorem built201 (z m k : Int) (nm : List UInt8) (A : Option Addr) (n c : Nat) (hn : nm.length = 32) : Try.prog.built 201 [(0, .int .i64 z), (1, .int .i64 m), (2, .agg (RC k nm (.slice A n c)))] = some (PC z m k nm (.slice A n c)) := by
  obtain ⟨a0, a1, a2, a3, a4, a5, a6, a7, a8, a9, a10, a11, a12, a13, a14, a15, a16, a17, a18, a19, a20, a21, a22, a23, a24, a25, a26, a27, a28, a29, a30, a31, rfl⟩ := list32 nm hn
  kernel_rfl
set_option maxRecDepth 100000 in
theorem fill201 (z m k : Int) (nm : List UInt8) (A : Option Addr) (n c : Nat) (hn : nm.length = 32) : ∃ (ie : TypeInfo) (zz : Value), Try.prog.info? 201 = some ie ∧ ie.zero = some zz ∧ ie.size = 36 ∧ zz.cells.size = 36 ∧ ie.bytes = 80 ∧ Instr.fill (fun i => some (i * ie.size, ie.size)) ((Array.range (1 * ie.size)).map (zz.cells[· % zz.cells.size]!)) [(0, .agg (PC z m k nm (.slice A n c)))] = some (PC z m k nm (.slice A n c)) := by
  obtain ⟨a0, a1, a2, a3, a4, a5, a6, a7, a8, a9, a10, a11, a12, a13, a14, a15, a16, a17, a18, a19, a20, a21, a22, a23, a24, a25, a26, a27, a28, a29, a30, a31, rfl⟩ := list32 nm hn
  obtain ⟨i0, hi0, hz0, hz1, hz2⟩ := info_parts (P := Try.prog) (e := 201) (z := .agg #[.int .i64 0, .int .i64 0, .int .i64 0, .int .u8 0, .int .u8 0, .int .u8 0, .int .u8 0, .int .u8 0, .int .u8 0, .int .u8 0, .int .u8 0, .int .u8 0, .int .u8 0, .int .u8 0, .int .u8 0, .int .u8 0, .int .u8 0, .int .u8 0, .int .u8 0, .int .u8 0, .int .u8 0, .int .u8 0, .int .u8 0, .int .u8 0, .int .u8 0, .int .u8 0, .int .u8 0, .int .u8 0, .int .u8 0, .int .u8 0, .int .u8 0, .int .u8 0, .int .u8 0, .int .u8 0, .int .u8 0, .slice none 0 0]) (size := 36) (bytes := 80) (by kernel_rfl)
  refine ⟨i0, _, hi0, hz0, hz1, rfl, hz2, ?_⟩
  rw [hz1]
  kernel_rfl
theorem FRTakeEnd.sliced {w w' : World} {bs : List UInt8} {e : Ending} (h : FRTakeEnd w (frT bs) e w') : ∃ k nm A n' c m f, e = .returned (.tuple #[.agg (RC k nm (.slice A n' c)), .int .i64 m, .int .i64 f]) ∧ nm.length = 32 ∧ FRes w' w.heap.size (frT bs) k nm (.slice A n' c) m f ∧ Below w.heap.size w w' := by
  obtain ⟨k, nm, b, m, f, he, hn, -, hr, hd⟩ := h
  have hb : ∃ A n' c, b = .slice A n' c := by
    cases hR : frT bs with
    | bad F => rw [hR] at hr; exact ⟨_, _, _, hr.2.2.1⟩
    | good K NM bs M => rw [hR] at hr; obtain ⟨A, c, -, -, h, -⟩ := hr; exact ⟨_, _, _, h⟩
  obtain ⟨A, n', c, rfl⟩ := hb
  exact ⟨k, nm, A, n', c, m, f, he, hn, hr, hd⟩
theorem PO.after {w w' : World} {T : Nat → Prop} {base n : Nat} {e : TypeId} {v : Value} {qs : List PV} (h : PO w T base e v n qs) (hb : Below w.heap.size w w') : PO w' T base e v n qs := ⟨h.len, h.nms, own_below h.own hb (Nat.le_refl _), fun q hq => (h.vals q hq).after hb⟩
theorem reads_pc' (W : World) (z m k : Int) (nm : List UInt8) (b : Value) (h : nm.length = 32) (t : TypeId) : Reads (W.alloc (.cells (PC z m k nm b) t)) AnyB 36 (some ⟨W.heap.size, 0, none⟩) 1 (PC z m k nm b).toList :=
  ⟨by have := PC.size (z := z) (m := m) (k := k) (b := b) h; simpa using this, fun _ => ⟨_, rfl, trivial, fun j u hu => by rw [add_plain, World.cell?_alloc_new]; simpa using hu⟩⟩
/-- What the reference's Scan has behind k rounds. -/
def RSt (w : World) (bs : List UInt8) (wr : World) (k z : Nat) (v : Value) (qs : List PV) : Prop :=
  PO wr (fun j => w.heap.size ≤ j) w.heap.size 201 v k qs ∧ qs.map (·.p) = goods ((turnsF (bs.length + 1) bs 0).take k) ∧ allGood ((turnsF (bs.length + 1) bs 0).take k) ∧ z = endOf (qs.map (·.p)) ∧ (turnsF (bs.length + 1) bs 0).drop k = turnsF (bs.length + 1 - k) bs z ∧ k ≤ z ∧ k ≤ (turnsF (bs.length + 1) bs 0).length ∧ Below w.heap.size w wr
theorem RSt.done_ {w wr w' : World} {bs : List UInt8} {k z cv : Nat} {Av : Option Addr} {qs : List PV} {T : List (Nat × FrR)} (h : RSt w bs wr k z (.slice Av k cv) qs) (hg : goods T = qs.map (·.p)) (hb : Below wr.heap.size wr w') :
    (goods T).length = k ∧ endOf (goods T) = z ∧ PQ w' (fun j => w.heap.size ≤ j) Av k cv (goods T) ∧ Below w.heap.size w w' := by
  obtain ⟨hpo, -, -, hze, -, -, -, hbl⟩ := h
  refine ⟨by rw [hg, List.length_map, hpo.len], by rw [hg, hze], ?_, hbl.trans (hb.mono hbl.size)⟩
  rw [hg]
  exact (hpo.reads.keepC (fun _ _ _ hu => hu) (fun j hj _ => by rcases hj with hj | hj <;> exact hj)).after hb
theorem RSt.more {w wr w3 w4 : World} {bs : List UInt8} {k z : Nat} {v v4 : Value} {qs : List PV} {q : PV} {X : Array Value} (h : RSt w bs wr k z v qs) (h3 : Below wr.heap.size wr w3) (hn : q.p.nm.length = 32) (hx : Bs w3 (fun j => wr.heap.size ≤ j) q.A q.p.bs.length q.c q.p.bs) (hz : q.p.z = z) (hm : 4 ≤ q.p.m)
    (hown : w4.ownsRow w.heap.size 201 36 v4 (k + 1) (flatP qs ++ q.cells)) (hg4 : (w3.alloc (.cells X 201)).grownBy w4 v.ownBlock) (hat : v4.ownBlock = v.ownBlock ∨ v4.ownBlock = some (w3.alloc (.cells X 201)).heap.size)
    (hgd : allGood ((turnsF (bs.length + 1) bs 0).take (k + 1)) ∧ goods ((turnsF (bs.length + 1) bs 0).take (k + 1)) = goods ((turnsF (bs.length + 1) bs 0).take k) ++ [q.p]) (hT : (turnsF (bs.length + 1) bs 0).drop (k + 1) = turnsF (bs.length - k) bs (z + q.p.m)) (hk : k < (turnsF (bs.length + 1) bs 0).length) : RSt w bs w4 (k + 1) (z + q.p.m) v4 (qs ++ [q]) := by
  obtain ⟨hpo, hqg, -, hze, -, hkz, -, hbl⟩ := h
  have ha : Below w3.heap.size w3 (w3.alloc (.cells X 201)) := (Below.refl _ _).alloc (Nat.le_refl _) _
  have h13 : Below wr.heap.size wr (w3.alloc (.cells X 201)) := h3.trans (ha.mono h3.size)
  have hs := hbl.size
  have hob : ∀ j, v.ownBlock = some j → w.heap.size ≤ j ∧ j < wr.heap.size := fun j e => by
    obtain ⟨h1, o, h2, -⟩ := own_block hpo.own e
    exact ⟨h1, (Array.getElem?_eq_some_iff.1 h2).1⟩
  have h4 : Below w.heap.size w w4 := (hbl.trans (h13.mono hs)).grown hg4 (Nat.le_trans hs h13.size) (fun j e => (hob j e).1)
  refine ⟨(hpo.after h13).snoc hn hown hg4 hat ((hx.after ha).mono (fun j hj => ⟨by omega, fun e => by have := (hob j e.symm).2; omega⟩)), by rw [List.map_append, hqg, hgd.2]; rfl, hgd.1, by rw [List.map_append, List.map_cons, List.map_nil, endOf_snoc, hz], ?_, by omega, hk, h4⟩
  rw [hT]
  congr 1
  omega
def RScanEnd (w : World) (T : List (Nat × FrR)) (e : Ending) (w' : World) : Prop :=
  ∃ A c, e = .returned (.tuple #[.slice A (goods T).length c, .int .i64 (endOf (goods T)), .int .i64 (faultOf T)]) ∧ PQ w' (fun k => w.heap.size ≤ k) A (goods T).length c (goods T) ∧ Below w.heap.size w w'
set_option maxRecDepth 100000 in
set_option maxHeartbeats 4000000 in
theorem rscan_any (w : World) (S : Nat → Prop) (A : Option Addr) (n c : Nat) (bs : List UInt8) (hx : Bs w S A n c bs) (hn : n ≤ 100000000) :
    Calls Try.prog 69 #[.slice A n c] w (RScanEnd w (turnsF (bs.length + 1) bs 0)) := by
  have HX := Lib.hid hx.old
  have HL := Lib.hid hx.len
  clear hx
  have HST : Hid (RSt w bs w 0 0 (.slice none 0 0) []) := Lib.hid ⟨PO.nil _ _ _ _, rfl, allGood.nil, rfl, rfl, Nat.le_refl _, Nat.zero_le _, Below.refl _ _⟩
  go_enter Try.func69, Try.ntmps69
  go_wp2_with fail
  go_loopw [5, 6] (fun v5 v6 wr => ∃ (Av : Option Addr) (k cv z : Nat), v5 = .slice Av k cv ∧ v6 = .int .i64 (z : Int) ∧ z ≤ n ∧ Hid (∃ qs, RSt w bs wr k z (.slice Av k cv) qs)) (fun _ v6 _ => n - (intOf v6).toNat)
  case atStart => exact ⟨none, 0, 0, 0, rfl, rfl, Nat.zero_le _, Lib.hid ⟨[], HST.out⟩⟩
  case round =>
    obtain ⟨Av, k, cv, z, rfl, rfl, hz, HR⟩ := hrel
    obtain ⟨qs, hqs⟩ := HR.out
    have HQ := Lib.hid hqs
    clear hqs HR HST
    by_cases hlt : z < n
    · have hlt' : (z : Int) < (n : Int) := by omega
      obtain ⟨hpo, hqg, hag, hze, hT, hkz, hkT, hbl⟩ := HQ.out
      obtain ⟨A7, c7, hcut, hx7⟩ := (HX.out.below hbl).from_ (z : Int) z (n - z) rfl (by omega)
      have HC := Lib.hid (frtake_any wr _ A7 (n - z) c7 (bs.drop z) hx7 (by omega))
      have hf1 : bs.length + 1 - k = (bs.length - k) + 1 := by have := HL.out; omega
      rw [hf1] at hT
      have HTn := Lib.hid (hT.trans (turns_at (fuel := bs.length - k) (z := z) (by rw [HL.out]; exact hlt)))
      have hsw := hbl.size
      clear hpo hqg hag hze hT hkz hkT hbl hx7
      go_wp2_with fail
      refine (HC.out).mono ?_
      intro e w2 he
      obtain ⟨K9, nm9, A9, n9, c9, m9, f9, rfl, hnm9, hr9, hb2⟩ := he.sliced
      have hs2 := hb2.size
      have H2 := Lib.hid (And.intro hr9 hb2)
      clear he hr9 hb2
      have hTk : (turnsF (bs.length + 1) bs 0)[k]? = some (z, frT (bs.drop z)) := by
        have h := congrArg (fun l => l[0]?) HTn.out
        simpa using h
      have hkT : k < (turnsF (bs.length + 1) bs 0).length := (List.getElem?_eq_some_iff.1 hTk).1
      have hkn : k ≤ 100000000 := by
        have := turns_len (bs.length + 1) bs 0
        rw [HL.out] at this hkT
        omega
      cases hR : frT (bs.drop z) with
      | bad F =>
        have hf9 : f9 = F := by have h := H2.out.1; rw [hR] at h; exact h.2.2.2.2
        subst hf9
        have d1 : (f9 != 0) = true := by simpa using frT_bad hR
        have HG := Lib.hid (goods_stop HQ.out.2.2.1 (by rw [hTk, hR]))
        clear hTk hR
        go_wp2_with (first | (with_reducible show wpList Try.prog _ _ ({ dst := none, op := Op.store 112 (Operand.tmp 7) (Operand.tmp 19), type := _, pos := _, after := _, guard := none } :: _) _ _; refine wl_storeK rfl (.tmp 7) (.tmp 19) 112 rfl (.inr rfl) rfl rfl (Blk.new _ _ _) rfl hnm9 rfl ?_; intro w3 hb3 hf3 hk3))
        have hbe : Below wr.heap.size wr w3 := H2.out.2.trans ((((Below.refl _ w2).alloc (Nat.le_refl _) _).trans (hf3 _ (Nat.le_refl _))).mono hs2)
        obtain ⟨e1, e2, e3, e4⟩ := HQ.out.done_ (T := turnsF (bs.length + 1) bs 0) (HG.out.1.trans HQ.out.2.1.symm) hbe
        go_ret3
        refine ⟨Av, cv, ?_, by rw [e1]; exact e3, e4⟩
        rw [e1, e2, HG.out.2]
        rfl
      | good K' NM b M =>
        obtain ⟨A', c', hK, hNM, hsl, hM, hf0, hbx⟩ : FRes w2 wr.heap.size (.good K' NM b M) K9 nm9 (.slice A9 n9 c9) m9 f9 := hR ▸ H2.out.1
        subst hK hNM hM hf0
        injection hsl with q1 q2 q3
        subst q1 q2 q3
        have hzM : z + M ≤ n := by
          have h := (frT_size hR).2
          rw [List.length_drop, HL.out] at h
          omega
        have hM4 := (frT_size hR).1
        have HG := Lib.hid (And.intro (goods_step HQ.out.2.2.1 (by rw [hTk, hR])) hbx)
        have HTn2 : Hid ((turnsF (bs.length + 1) bs 0).drop (k + 1) = turnsF (bs.length - k) bs (z + M)) := Lib.hid (by
          have h : (turnsF (bs.length + 1) bs 0).drop (k + 1) = ((turnsF (bs.length + 1) bs 0).drop k).tail := by rw [List.tail_drop]
          rw [h, HTn.out, hR]
          rfl)
        obtain ⟨ie, zz, hie, hzz, hsz1, hzs, hby, hfill⟩ := fill201 (z : Nat) (M : Nat) (K' : Nat) nm9 A9 b.length c9 hnm9
        have HFI := Lib.hid (And.intro hie (And.intro hzz (And.intro hsz1 (And.intro hzs (And.intro hby hfill)))))
        clear hTk hR hbx hie hzz hsz1 hzs hby hfill
        go_wp2_with (first | (with_reducible show wpList Try.prog _ _ ({ dst := none, op := Op.store 112 (Operand.tmp 7) (Operand.tmp 19), type := _, pos := _, after := _, guard := none } :: _) _ _; refine wl_storeK rfl (.tmp 7) (.tmp 19) 112 rfl (.inr rfl) rfl rfl (Blk.new _ _ _) rfl hnm9 rfl ?_; intro w3 hb3 hf3 hk3; go_must ((have H3b := Lib.hid (((Below.refl _ w2).alloc (Nat.le_refl _) _).trans (hf3 _ (Nat.le_refl _))); have H3 := Lib.hid (And.intro hb3 (H2.out.2.trans ((((Below.refl _ w2).alloc (Nat.le_refl _) _).trans (hf3 _ (Nat.le_refl _))).mono hs2))))); clear hb3 hf3 hk3) | (with_reducible show wpList Try.prog _ _ ({ dst := some 30, op := Op.load 112 (Operand.tmp 7), type := _, pos := _, after := _, guard := none } :: _) _ _; refine wl_rec rfl (.tmp 7) 112 rfl (.inr rfl) rfl H3.out.1 hnm9 ?_; simp only [Act.put, List.setIfInBounds_toArray, List.set_cons_zero, List.set_cons_succ]) | (with_reducible show wpList Try.prog _ _ ({ dst := some 31, op := Op.build 201 _, type := _, pos := _, after := _, guard := none } :: _) _ _; (refine wl_build rfl 201 _ rfl (cs := PC (z : Nat) (M : Nat) (K' : Nat) nm9 (.slice A9 b.length c9)) (by simp only [List.map_toArray, List.map_cons, List.map_nil]; simp [Act.eval]; exact built201 (z : Nat) (M : Nat) (K' : Nat) nm9 A9 b.length c9 hnm9) ?_); simp only [Act.put, List.setIfInBounds_toArray, List.set_cons_zero, List.set_cons_succ]) | (with_reducible show wpList Try.prog _ _ ({ dst := some 32, op := Op.buildSlice 118 1 _, type := _, pos := _, after := _, guard := none } :: _) _ _; (refine wpList_buildSlice rfl 118 201 1 _ rfl (PC (z : Nat) (M : Nat) (K' : Nat) nm9 (.slice A9 b.length c9)) ie zz Try.underlying118 HFI.out.1 HFI.out.2.1 (by rw [HFI.out.2.2.1]; omega) (by rw [HFI.out.2.2.1]; omega) ((congrArg (Instr.fill _ _) (by simp [Act.eval])).trans HFI.out.2.2.2.2.2) ?_); simp only [Act.put, List.setIfInBounds_toArray, List.set_cons_zero, List.set_cons_succ]) | (at_builtin; (refine wpList_append_any _ rfl (.tmp 27) (.tmp 32) 118 rfl w.heap.size 201 ie zz 36 80 Try.underlying118 HFI.out.1 HFI.out.2.1 HFI.out.2.2.1 HFI.out.2.2.2.2.1 HFI.out.2.2.2.1 (by omega) (.slice Av k cv) k _ rfl (HQ.out.1.after (H3.out.2.trans (((Below.refl _ w3).alloc (Nat.le_refl _) _).mono H3.out.2.size))).own AnyB (some ⟨w3.heap.size, 0, none⟩) 1 1 _ rfl (reads_pc' w3 (z : Nat) (M : Nat) (K' : Nat) nm9 (.slice A9 b.length c9) hnm9 201) (PC.one rfl) (by simp only [maxLen]; omega) (by omega) (by have h1 := H3.out.2.size; simp; omega) ?_); intro v4 w4 hown4 hg4 hat4; go_must ((obtain ⟨A4, c4, rfl, hc4⟩ := own_shape hown4; have H4 := Lib.hid (And.intro hown4 (And.intro hg4 hat4)); clear hown4 hg4 hat4))))
        go_roundw
        case rel =>
          refine ⟨A4, k + 1, c4, z + M, rfl, by go_num, hzM, Lib.hid ⟨qs ++ [⟨⟨z, M, K', nm9, b⟩, A9, c9⟩], ?_⟩⟩
          exact HQ.out.more H3.out.2 hnm9 (HG.out.2.after H3b.out) rfl hM4 H4.out.1 H4.out.2.1 H4.out.2.2 HG.out.1 HTn2.out hkT
        case measure => simp [intOf]; omega
    · obtain rfl : z = n := by omega
      have hkT : k = (turnsF (bs.length + 1) bs 0).length := by
        have h := HQ.out.2.2.2.2.1
        exact Nat.le_antisymm HQ.out.2.2.2.2.2.2.1 (List.drop_eq_nil_iff.1 (h.trans (turns_end (z := z) (by rw [HL.out]; exact hlt))))
      have HG : Hid (goods (turnsF (bs.length + 1) bs 0) = qs.map (·.p) ∧ faultOf (turnsF (bs.length + 1) bs 0) = 0) := Lib.hid (by
        have h := goods_all (T := turnsF (bs.length + 1) bs 0) (hkT ▸ HQ.out.2.2.1)
        rw [← hkT] at h
        exact ⟨h.1.trans HQ.out.2.1.symm, h.2⟩)
      clear hkT
      go_wp2_with fail
      obtain ⟨e1, e2, e3, e4⟩ := HQ.out.done_ (T := turnsF (bs.length + 1) bs 0) HG.out.1 (Below.refl _ _)
      go_ret3
      refine ⟨Av, cv, ?_, by rw [e1]; exact e3, e4⟩
      rw [e1, e2, HG.out.2]
      rfl
end Go.Proofs.Ytaebmhbggbpnoaa
