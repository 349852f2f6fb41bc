/- The walk of FrameBack. Conditions: each theorem's premises. -/
import Derived.Test.YtaebmhbggbpnoaaGFrB3
namespace Go.Proofs.Ytaebmhbggbpnoaa
open Go.RowKit
theorem light_of {l : List Rd} (h : light l = true) : l.length ≤ 20 ∧ ∀ r ∈ l, r.bs.length ≤ 5100 := by
  unfold light at h
  rw [Bool.and_eq_true, decide_eq_true_eq, List.all_eq_true] at h
  exact ⟨h.1, fun r hr => of_decide_eq_true (h.2 r hr)⟩
theorem one_int (z : Int) : ∀ u ∈ ([.int .i64 z] : List Value), u.oneCell' = true := fun u hu => by
  rw [List.mem_singleton] at hu
  subst hu
  rfl
theorem RC.one' {k : Int} {nm : List UInt8} {b : Value} (hb : b.oneCell' = true) : ∀ u ∈ (RC k nm b).toList, u.oneCell' = true := fun u hu => (Array.all_eq_true_iff_forall_mem.1 (RC.one hb)) u (by simpa using hu)
theorem reads_rc (W : World) (k : Int) (nm : List UInt8) (b : Value) (h : nm.length = 32) (t : TypeId) : Reads (W.alloc (.cells (RC k nm b) t)) AnyB 34 (some ⟨W.heap.size, 0, none⟩) 1 (RC k nm b).toList :=
  ⟨by have := RC.size (k := k) (b := b) h; simpa using this, fun _ => ⟨_, rfl, trivial, fun j u hu => by rw [add_plain, World.cell?_alloc_new]; simpa using hu⟩⟩
theorem Bs.after' {w w' : World} {B B0 n c : Nat} {A : Option Addr} {bs : List UInt8} {row : Option Nat} {X : Obj} (h : Bs w (Lo B) A n c bs) (hg : (w.alloc X).grownBy w' row) (hr : ∀ j, row = some j → B0 ≤ j) (hB : B ≤ B0) : Bs w' (Lo B) A n c bs :=
  h.keep (fun p hp hlt => (World.cell?_of_block (hg.block p.block (by simp; omega) (fun e => by have := hr _ e.symm; have hp' : p.block < B := hp; omega))).trans (World.cell?_alloc_lt _ _ _ hlt)) (fun _ h _ => h)
theorem flatR_take {ws : List Rd} {k : Nat} {r : Rd} (h : ws[k]? = some r) : flatR (ws.take (k + 1)) = flatR (ws.take k) ++ frOf r := by
  rw [List.take_add_one, h]
  exact flatR_snoc _ _
theorem flatR_split (ws : List Rd) (k : Nat) : flatR ws = flatR (ws.take k) ++ flatR (ws.drop k) := by
  simp only [flatR]
  rw [← List.flatMap_append, List.take_append_drop]
/-- Frames that are cut off. -/
theorem cut_split {ws : List Rd} {k z : Nat} (hk : k < ws.length) (h1 : (flatR (ws.take k)).length ≤ z) (h2 : z < (flatR (ws.take (k + 1))).length) (hok : ∀ r ∈ ws, okR r) : ∃ t, (flatR ws).take z = flatR (ws.take k) ++ t ∧ (t = [] ∨ frT t = .bad 16) := by
  obtain ⟨r, hr⟩ : ∃ r, ws[k]? = some r := ⟨_, List.getElem?_eq_getElem hk⟩
  have ho := hok r (List.mem_of_getElem? hr)
  rw [flatR_take hr, List.length_append] at h2
  refine ⟨(frOf r).take (z - (flatR (ws.take k)).length), ?_, .inr (frT_cut ho (by omega))⟩
  rw [flatR_split ws (k + 1), flatR_take hr, List.append_assoc, List.take_append, List.take_of_length_le h1, List.take_append, show z - (flatR (ws.take k)).length - (frOf r).length = 0 by omega, List.take_zero, List.append_nil]
theorem own_int {w : World} {base n : Nat} {A : Option Addr} {c : Nat} {xs : List Nat} (h : w.ownsRow base 3 1 (.slice A n c) n (ivs xs)) {k x : Nat} (hk : k < n) (hx : xs[k]? = some x) : ∃ b, A = some ⟨b, 0, none⟩ ∧ base ≤ b ∧ w.cell? ⟨b, k, none⟩ = some (.int .i64 (x : Int)) := by
  obtain ⟨b, cap, hv, hbb, -⟩ := h.form (by omega)
  injection hv with hA
  subst hA
  refine ⟨b, rfl, hbb, ?_⟩
  have hl : (ivs xs).length = n := by have := h.1; simpa using this
  have hc := h.cellAt k (by omega)
  rw [hc]
  simp only [ivs, List.getElem?_map, hx, Option.map_some]
set_option maxRecDepth 100000 in
theorem fill112' (k : Int) (nm : List UInt8) (A : Option Addr) (n c : Nat) (hn : nm.length = 32) : ∃ (ie : TypeInfo) (zz : Value), Try.prog.info? 112 = some ie ∧ ie.zero = some zz ∧ ie.size = 34 ∧ zz.cells.size = 34 ∧ ie.bytes = 64 ∧
    Instr.fill (fun i => some (i * ie.size, ie.size)) ((Array.range (1 * ie.size)).map (zz.cells[· % zz.cells.size]!)) [(0, .agg (RC k nm (.slice A n c)))] = some (RC k nm (.slice A n c)) := by
  obtain ⟨a0, a1, a2, a3, a4, a5, a6, a7, a8, a9, a10, a11, a12, a13, a14, a15, a16, a17, a18, a19, a20, a21, a22, a23, a24, a25, a26, a27, a28, a29, a30, a31, rfl⟩ := list32 nm hn
  obtain ⟨i0, hi0, hz0, hz1, hz2⟩ := info_parts (P := Try.prog) (e := 112) (z := .agg #[.int .i64 0, .int .u8 0, .int .u8 0, .int .u8 0, .int .u8 0, .int .u8 0, .int .u8 0, .int .u8 0, .int .u8 0, .int .u8 0, .int .u8 0, .int .u8 0, .int .u8 0, .int .u8 0, .int .u8 0, .int .u8 0, .int .u8 0, .int .u8 0, .int .u8 0, .int .u8 0, .int .u8 0, .int .u8 0, .int .u8 0, .int .u8 0, .int .u8 0, .int .u8 0, .int .u8 0, .int .u8 0, .int .u8 0, .int .u8 0, .int .u8 0, .int .u8 0, .int .u8 0, .slice none 0 0]) (size := 34) (bytes := 64) (by kernel_rfl)
  refine ⟨i0, _, hi0, hz0, hz1, rfl, hz2, ?_⟩
  rw [hz1]; kernel_rfl
theorem frame_at {ws : List Rd} {W i : Nat} {r : Rd} {t : List UInt8} (hr : ws[i]? = some r) (hi : i < W) (hok : okR r) :
    (flatR (ws.take i)).length + (frOf r).length ≤ (flatR (ws.take W)).length ∧ frT ((flatR (ws.take W) ++ t).drop (flatR (ws.take i)).length) = .good r.k.toNat r.nm r.bs (frOf r).length ∧ (pls (ws.take W) 0)[i]? = some ⟨(flatR (ws.take i)).length, (frOf r).length, r.k.toNat, r.nm, r.bs⟩ := by
  have hrt : (ws.take W)[i]? = some r := by rw [List.getElem?_take, if_pos hi]; exact hr
  have htt : (ws.take W).take i = ws.take i := by rw [List.take_take, Nat.min_eq_left (by omega)]
  have h1 : flatR (ws.take W) = flatR (ws.take i) ++ (frOf r ++ flatR ((ws.take W).drop (i + 1))) := by
    rw [flatR_split (ws.take W) (i + 1), flatR_take hrt, htt, List.append_assoc]
  refine ⟨by rw [h1]; simp only [List.length_append]; omega, ?_, ?_⟩
  · rw [h1, List.append_assoc, List.drop_left, List.append_assoc]
    exact frT_of hok _
  · have h := pls_at (z := 0) hrt
    rw [htt, Nat.zero_add] at h
    exact h
/-- An element of the records that were kept. -/
theorem QO.at_ {w : World} {T : Nat → Prop} {base n i : Nat} {A : Option Addr} {c : Nat} {qs : List RV} {ws : List Rd} {r : Rd} (h : QO w T base (.slice A n c) n qs) (hq : qs.map (·.r) = ws) (hr : ws[i]? = some r) :
    ∃ b B d, A = some ⟨b, 0, none⟩ ∧ base ≤ b ∧ (∀ j v, (RC r.k r.nm (.slice B r.bs.length d))[j]? = some v → w.cell? ⟨b, i * 34 + j, none⟩ = some v) ∧ Bs w T B r.bs.length d r.bs := by
  rw [← hq, List.getElem?_map, Option.map_eq_some_iff] at hr
  obtain ⟨q, hqi, rfl⟩ := hr
  have hil : i < qs.length := (List.getElem?_eq_some_iff.1 hqi).1
  obtain ⟨b, cap, hv, hbb, -⟩ := h.own.form (by rw [← h.len]; omega)
  injection hv with hA
  subst hA
  obtain ⟨ad, e1, -, hcell⟩ := (Reads.of_own h.own).2 (by rw [← h.len]; omega)
  injection e1 with e1
  subst e1
  refine ⟨b, q.A, q.c, rfl, hbb, fun j v hv => ?_, h.vals q (List.mem_of_getElem? hqi)⟩
  have := hcell _ _ (flatV_at hqi hv)
  rwa [add_plain] at this
theorem yields_at {ops : Array Oper} {S : World → Prop} {o : Oper} {a : Act} {ty : TypeId} {x : Operand} {p : Addr} {k : Int} {nm : List UInt8} {b : Value} (ho : o.op = .load ty x) (hty : ty = 109 ∨ ty = 112) (hw : Region.wanted o (yielded ops a.tmps) = true) (hx : a.eval x = .pointer (some p)) (hn : nm.length = 32) (hB : ∀ w', S w' → ∀ j v, (RC k nm b)[j]? = some v → w'.cell? (p.add j) = some v) : YieldsIf Try.prog ops S o (.agg (RC k nm b)) a :=
  .inl ⟨hw, fun w' hs => by
    have hl : (loadVar ty p).run Try.prog w' = .ok (.agg (RC k nm b)) w' := by
      rcases hty with rfl | rfl
      · have := run_loadVar_at w' p 109 (RC k nm b).toList _ (fun j v hv => hB w' hs j v (by simpa using hv)) Try.underlying109 rfl (by rw [size109]; simp [RC.size hn])
        simpa using this
      · have := run_loadVar_at w' p 112 (RC k nm b).toList _ (fun j v hv => hB w' hs j v (by simpa using hv)) Try.underlying112 rfl (by rw [size112]; simp [RC.size hn])
        simpa using this
    unfold execOp
    simp only [ho, hx, Instr.loadAt, Instr.sureAddr, Sem.run_bind, Sem.run_pure, Result.andThen_ok, hl]⟩
set_option maxRecDepth 100000 in
set_option maxHeartbeats 40000000 in
theorem frameBack_in (w : World) (S : Nat → Prop) (A : Option Addr) (n c : Nat) (l : List Rd) (hx : RQ w S A n c l) (z : Int) (hl : light l = true) :
    Calls Try.prog 16 #[.slice A n c, .int .i64 z] w fun e w' => e = .returned (.bool true) ∧ Below w.heap.size w w' := by
  have HX := Lib.hid hx.old
  have HLT := light_of hl
  rw [hx.len] at HLT
  have hn20 := HLT.1
  have HB5 := Lib.hid HLT.2
  have HFL := Lib.hid (flight_any w S A n c l hx)
  rw [hl] at HFL
  clear hx hl HLT
  go_enter Try.func16, Try.ntmps16
  go_wp2_with fail
  refine (HFL.out).mono ?_
  rintro e w' ⟨rfl, rfl⟩
  go_wp2_with fail
  refine (new_any _).mono ?_
  rintro e w1 ⟨rfl, hT, hb⟩
  obtain ⟨g, hg⟩ : ∃ g, g = w'.heap.size := ⟨_, rfl⟩
  rw [← hg] at hT
  have HN1 := Lib.hid (On.mk (d := 0) hb (.inr ⟨_, hT⟩) (Nat.le_of_eq hg.symm))
  rw [← hg]
  have hgw : g < w1.heap.size := HN1.out.lt
  have HST : Hid (LSt w' w1.heap.size g w1 (.slice none 0 0) (.slice none 0 0) (.slice none 0 0) 0 0 0) := Lib.hid ⟨0, [], [], ⟨HN1.out, World.ownsRow_nil _ _ _ _, World.ownsRow_nil _ _ _ _, QO.nil _ _ _, hgw, Nat.le_refl _⟩, rfl, fun _ h => by simp at h, by omega, by omega, rfl, Nat.le_refl _, rfl, Nat.le_refl _⟩
  clear hT hb hg
  go_wp2_with fail
  go_loopw [6, 7, 8, 9] (fun v6 v7 v8 v9 wr => ∃ (Aa : Option Addr) (La ca : Nat) (Ae : Option Addr) (m ce : Nat) (Aw : Option Addr) (cw i : Nat), v6 = .slice Aa La ca ∧ v7 = .slice Ae m ce ∧ v8 = .slice Aw m cw ∧ v9 = .int .i64 (i : Int) ∧ i ≤ n ∧ La ≤ 101120 ∧ m ≤ 20 ∧ Hid (LSt w' w1.heap.size g wr (.slice Aa La ca) (.slice Ae m ce) (.slice Aw m cw) i La m)) (fun _ _ _ v9 _ => n - (intOf v9).toNat)
  case atStart => exact ⟨none, 0, 0, none, 0, 0, none, 0, 0, rfl, rfl, rfl, rfl, Nat.zero_le _, by omega, by omega, HST⟩
  case round =>
    obtain ⟨Aa, La, ca, Ae, m, ce, Aw, cw, i, rfl, rfl, rfl, rfl, hi, hLa, hm20, HR⟩ := hrel
    clear HST
    by_cases hlt : i < n
    · have hlt' : (i : Int) < (n : Int) := by omega
      obtain ⟨d, ws, qs, htr, hqw, hok, hd0, hd1, hwm, hmi, hfl, hfm⟩ := HR.out
      obtain ⟨ad, x, A', n', c', r, rfl, hsb, hr, hxe, hc, hbb⟩ := HX.out.at_ i hlt
      have hbr := HB5.out r (List.mem_of_getElem? hr.out)
      have hnl := hbb.len
      subst hnl
      have HRR := Lib.hid (And.intro hc.out hbb)
      have HTR := Lib.hid (And.intro htr (And.intro hqw (And.intro hok (And.intro hd0 (And.intro hd1 (And.intro hwm (And.intro hmi (And.intro hfl hfm))))))))
      have HCX : Hid (∀ W, Below w'.heap.size w' W → ∀ j v, (RC r.k r.nm (.slice A' r.bs.length c'))[j]? = some v → W.cell? (x.add j) = some v) := Lib.hid fun W hW j v hv => by
        have h := HRR.out.1 j v hv
        exact (hW.cell (World.block_lt_of_cell? _ _ h)).trans h
      have hnr := r.hn
      clear hsb hr hc hbb htr hqw hok hfl HR
      go_wp2_with (first | (with_reducible show wpList Try.prog _ _ ({ dst := some 35, op := Op.load 112 (Operand.tmp 34), type := _, pos := _, after := _, guard := none } :: _) _ _; refine wl_at rfl (.tmp 34) 112 rfl (.inr rfl) rfl (HCX.out _ HTR.out.1.on.bel) hnr ?_))
      refine (fown_any _ r.k r.nm A' r.bs.length c' hnr).mono ?_
      rintro e w3 ⟨rfl, hb3⟩
      have HT3 := Lib.hid (HTR.out.1.below hb3)
      clear hb3
      go_wp2_with fail
      cases hrr : rcRight r.k r.bs.length with
      | false =>
        refine (fput_no w3 ⟨g, 0, none⟩ r.k r.nm A' r.bs.length c' hnr hrr).mono ?_
        rintro e w4 ⟨rfl, hb4⟩
        have HT4 := Lib.hid (HT3.out.below hb4)
        clear hb4
        go_wp2_with fail
        go_roundw
        case rel => exact ⟨Aa, La, ca, Ae, m, ce, Aw, cw, i + 1, rfl, rfl, rfl, by go_num, by omega, hLa, hm20, Lib.hid ⟨d, ws, qs, HT4.out, HTR.out.2.1, HTR.out.2.2.1, hd0, by omega, hwm, by omega, HTR.out.2.2.2.2.2.2.2.1, hfm⟩⟩
        case measure => simp [intOf]; omega
      | true =>
        obtain ⟨hk0, hk9, hn5⟩ : 0 < r.k ∧ r.k ≤ 9 ∧ r.bs.length ≤ 5000 := of_decide_eq_true hrr
        obtain ⟨k, hk⟩ := Int.eq_ofNat_of_zero_le (show 0 ≤ r.k by omega)
        have hP := fput_yes w3 g d (Lo w'.heap.size) k r.nm A' r.bs.length c' r.bs HT3.out.on.tab ⟨hd0, by omega⟩ hnr (by omega) (by omega) (HRR.out.2.below HT3.out.on.bel) hn5
        have hfe : frE k r.nm r.bs = frOf r := by unfold frOf; rw [hk]; rfl
        rw [← hk, hfe] at hP
        have HP := Lib.hid hP
        have HOK := Lib.hid (show okR r from ⟨hk0, hk9, hn5⟩)
        clear hP hfe hk hrr
        refine (HP.out).mono ?_
        rintro e w4 ⟨A4, c4, d4, rfl, hown4, ht4, hd4, hd4', hG4⟩
        obtain ⟨L, hL⟩ : ∃ L, L = (frOf r).length := ⟨_, rfl⟩
        rw [← hL] at hown4 ⊢
        have hLb : L ≤ 5056 := hL ▸ frOf_le HOK.out
        have hcap : L ≤ c4 := by
          obtain ⟨_, _, he, hc⟩ := own_shape hown4
          cases he
          exact hc
        have HT4 := Lib.hid (HT3.out.turn ht4 hG4)
        have HX4 := Lib.hid (Bs.mk (S := fun j => w3.heap.size ≤ j) hL.symm hcap (Reads.of_own hown4))
        have HLL := Lib.hid hL
        have HFLL := Lib.hid HTR.out.2.2.2.2.2.2.2.1
        have HEL : Hid ((endsL ws).length = m) := Lib.hid (by unfold endsL; simp; exact hwm)
        have HQL : Hid (qs.length = m) := Lib.hid (by have h := congrArg List.length HTR.out.2.1; rw [List.length_map, hwm] at h; exact h)
        obtain ⟨i3, hi3, hz3, hz31, hz32⟩ := info_parts Try.info3
        obtain ⟨ie, zz, hie, hzz, hsz1, hzs, hby, hfill⟩ := fill112' r.k r.nm A' r.bs.length c' hnr
        have HFI := Lib.hid (And.intro hie (And.intro hzz (And.intro hsz1 (And.intro hzs (And.intro hby hfill)))))
        have HI3 := Lib.hid (And.intro hi3 (And.intro hz3 (And.intro hz31 hz32)))
        clear ht4 hG4 hown4 hL hie hzz hsz1 hzs hby hfill hi3 hz3 hz31 hz32
        go_wp2_with (first
          | (with_reducible show wpList Try.prog _ _ ({ dst := some 44, op := _, type := _, pos := _, after := _, guard := none } :: _) _ _; at_builtin; refine wpList_append_u8 rfl (.tmp 42) (.tmp 43) rfl (base := w1.heap.size) (v := .slice Aa La ca) rfl HT4.out.byt (A := A4) (m := L) (c := c4) (ys := frOf r) rfl HX4.out (by rw [HFLL.out]; omega) HT4.out.base.2 ?_; intro v5 w5 hown5 hg5 hat5; go_must ((rw [HFLL.out] at hown5; obtain ⟨A5, c5, rfl, hc5⟩ := own_shape hown5; have HT5 := Lib.hid (HT4.out.growB (x := frOf r) (by rw [List.length_append, HFLL.out, ← HLL.out]; exact hown5) hg5); clear hown5 hg5 hat5)))
          | (with_reducible show wpList Try.prog _ _ ({ dst := some 49, op := _, type := _, pos := _, after := _, guard := none } :: _) _ _; at_builtin; refine wpList_append_any _ rfl (.tmp 45) (.tmp 48) 76 rfl w1.heap.size 3 i3 _ 1 8 Try.underlying76 HI3.out.1 HI3.out.2.1 HI3.out.2.2.1 HI3.out.2.2.2 rfl (by omega) (.slice Ae m ce) (endsL ws).length _ rfl (HT5.out.below ((Below.refl _ w5).alloc (Nat.le_refl _) (.cells #[.int .i64 ((La : Int) + (L : Int))] 3))).end_ AnyB (some ⟨w5.heap.size, 0, none⟩) 1 1 _ rfl (reads_lit w5 #[.int .i64 ((La : Int) + (L : Int))] 3 1 rfl) (one_int _) (by rw [HEL.out]; simp only [maxLen]; omega) (by rw [HEL.out]; omega) (by have h1 := HT5.out.base.2; simp; omega) ?_; intro v6 w6 hown6 hg6 hat6; go_must ((rw [HEL.out] at hown6; obtain ⟨A6, c6, rfl, hc6⟩ := own_shape hown6; have HT6 := Lib.hid ((HT5.out.below ((Below.refl _ w5).alloc (Nat.le_refl _) (.cells #[.int .i64 ((La : Int) + (L : Int))] 3))).growE (x := La + L) (by rw [HEL.out, Int.natCast_add]; exact hown6) hg6); clear hown6 hg6 hat6)))
          | (with_reducible show wpList Try.prog _ _ ({ dst := some 54, op := Op.load 112 (Operand.tmp 53), type := _, pos := _, after := _, guard := none } :: _) _ _; refine wl_at rfl (.tmp 53) 112 rfl (.inr rfl) rfl (HCX.out _ HT6.out.on.bel) hnr ?_; simp only [Act.put, List.setIfInBounds_toArray, List.set_cons_zero, List.set_cons_succ])
          | (with_reducible show wpList Try.prog _ _ ({ dst := some 55, op := Op.buildSlice 129 1 _, type := _, pos := _, after := _, guard := none } :: _) _ _; refine wpList_buildSlice rfl 129 112 1 _ rfl (RC r.k r.nm (.slice A' r.bs.length c')) ie zz Try.underlying129 HFI.out.1 HFI.out.2.1 (by rw [HFI.out.2.2.1]; omega) (by rw [HFI.out.2.2.1]; omega) ((congrArg (Instr.fill _ _) (by simp [Act.eval])).trans HFI.out.2.2.2.2.2) ?_; simp only [Act.put, List.setIfInBounds_toArray, List.set_cons_zero, List.set_cons_succ])
          | (with_reducible show wpList Try.prog _ _ ({ dst := some 56, op := _, type := _, pos := _, after := _, guard := none } :: _) _ _; at_builtin; refine wpList_append_any _ rfl (.tmp 50) (.tmp 55) 129 rfl w1.heap.size 112 ie zz 34 64 Try.underlying129 HFI.out.1 HFI.out.2.1 HFI.out.2.2.1 HFI.out.2.2.2.2.1 HFI.out.2.2.2.1 (by omega) (.slice Aw m cw) qs.length (flatV qs) rfl (HT6.out.below ((Below.refl _ w6).alloc (Nat.le_refl _) (.cells (RC r.k r.nm (.slice A' r.bs.length c')) 112))).wnt.own AnyB (some ⟨w6.heap.size, 0, none⟩) 1 1 _ rfl (reads_rc w6 r.k r.nm (.slice A' r.bs.length c') hnr 112) (RC.one' rfl) (by rw [HQL.out]; simp only [maxLen]; omega) (by rw [HQL.out]; omega) (by have h1 := HT6.out.base.2; simp; omega) ?_; intro v7 w7 hown7 hg7 hat7; go_must ((rw [HQL.out] at hown7; obtain ⟨A7, c7, rfl, hc7⟩ := own_shape hown7; have HT7 := Lib.hid ((HT6.out.below ((Below.refl _ w6).alloc (Nat.le_refl _) (.cells (RC r.k r.nm (.slice A' r.bs.length c')) 112))).growW (vw' := .slice A7 (m + 1) c7) (q := ⟨r, A', c'⟩) ((HRR.out.2.below HT6.out.on.bel).after' hg7 (own_base (HT6.out.below ((Below.refl _ w6).alloc (Nat.le_refl _) (.cells (RC r.k r.nm (.slice A' r.bs.length c')) 112))).wnt.own) (Nat.le_trans HN1.out.bel.size (Nat.le_refl _))) (by rw [HQL.out]; unfold RV.cells; exact hown7) hg7); clear hown7 hg7 hat7))))
        go_roundw
        case rel =>
          refine ⟨A5, La + L, c5, A6, m + 1, c6, A7, c7, i + 1, rfl, rfl, rfl, by go_num, by omega, by omega, by omega, Lib.hid ⟨d4, ws ++ [r], qs ++ [⟨r, A', c'⟩], ?_, ?_, ?_, by omega, by omega, by simp [hwm], by omega, ?_, by omega⟩⟩
          · have h := HT7.out
            have e : flatR ws ++ frOf r = flatR (ws ++ [r]) := (flatR_snoc ws r).symm
            have e2 : endsL ws ++ [La + L] = endsL (ws ++ [r]) := by rw [endsL_snoc, flatR_snoc, List.length_append, HFLL.out, ← HLL.out]
            rw [e, e2] at h
            exact h
          · rw [List.map_append, HTR.out.2.1]; rfl
          · intro q hq
            rcases List.mem_append.1 hq with hq | hq
            · exact HTR.out.2.2.1 q hq
            · simp at hq; subst hq; exact HOK.out
          · rw [flatR_snoc, List.length_append, HFLL.out, ← HLL.out]
        case measure => simp [intOf]; omega
    · obtain rfl : i = n := by omega
      obtain ⟨d, ws, qs, htr, hqw, hok, hd0, hd1, hwm, hmi, hfl, hfm⟩ := HR.out
      have HTR := Lib.hid (And.intro htr (And.intro hqw (And.intro hok (And.intro hwm hfl))))
      clear htr hqw hok hfl HR
      by_cases hcut : 0 ≤ z ∧ z < (La : Int)
      · obtain ⟨z, rfl⟩ := Int.eq_ofNat_of_zero_le hcut.1
        have q1 : (0 : Int) ≤ (z : Int) := hcut.1
        have q2 : (z : Int) < (La : Int) := hcut.2
        obtain ⟨A8, c8, hcutS, hx8⟩ := (Bs.mk (S := fun j => w1.heap.size ≤ j) HTR.out.2.2.2.2 (by obtain ⟨_, _, he, hc⟩ := own_shape (HTR.out.2.2.2.2 ▸ HTR.out.1.byt); cases he; exact hc) (Reads.of_own (HTR.out.2.2.2.2 ▸ HTR.out.1.byt))).upto (z : Int) z rfl (by omega)
        have HX8 := Lib.hid hx8
        clear hcut hx8
        go_wp2_with fail
        go_loopw [12] (fun v12 wx => wr = wx ∧ ∃ k : Nat, k ≤ m ∧ v12 = .int .i64 (k : Int) ∧ Hid (∀ j, j < k → (flatR (ws.take (j + 1))).length ≤ z)) (fun v12 _ => m - (intOf v12).toNat)
        case atStart => exact ⟨rfl, 0, Nat.zero_le _, rfl, Lib.hid fun j hj => by omega⟩
        case round =>
          obtain ⟨rfl, k, hk, rfl, HK⟩ := hrel
          by_cases hkm : k < m
          · have hkm' : (k : Int) < (m : Int) := by omega
            have hel : (endsL ws).length = m := by unfold endsL; simp; exact HTR.out.2.2.2.1
            obtain ⟨b, rfl, -, hcell⟩ := own_int (hel ▸ HTR.out.1.end_) hkm (endsL_at (by have := HTR.out.2.2.2.1; omega))
            clear hel
            obtain ⟨EK, hEK⟩ : ∃ EK, EK = (flatR (ws.take (k + 1))).length := ⟨_, rfl⟩
            rw [← hEK] at hcell
            have HEK := Lib.hid hEK
            clear hEK
            by_cases hle : EK ≤ z
            · have hle' : (EK : Int) ≤ (z : Int) := by omega
              go_wp2_with fail
              go_roundw
              case rel => exact ⟨trivial, k + 1, by omega, by go_num, Lib.hid fun j hj => (Nat.lt_succ_iff_lt_or_eq.1 hj).elim (HK.out j) (fun e => by rw [e, ← HEK.out]; exact hle)⟩
              case measure => simp [intOf]; omega
            · have hle' : ¬ (EK : Int) ≤ (z : Int) := by omega
              have hE0 : (flatR (ws.take k)).length ≤ z := by
                rcases Nat.eq_zero_or_pos k with h0 | h0
                · subst h0; simp [flatR]
                · have h1 := HK.out (k - 1) (by omega)
                  rwa [show k - 1 + 1 = k by omega] at h1
              obtain ⟨t, hsp, ht⟩ := cut_split (k := k) (by have := HTR.out.2.2.2.1; omega) hE0 (by rw [← HEK.out]; omega) HTR.out.2.2.1
              have HBB : Hid (Bs wr (fun j => w1.heap.size ≤ j) A8 z c8 (flatR (ws.take k) ++ t)) := Lib.hid (hsp ▸ HX8.out)
              have hz1 : z ≤ 101120 := by omega
              go_wp2_with fail
              clear hsp hE0 HK HEK hcell hle
              by_cases ht0 : t = []
              · have HSC := Lib.hid (scan_frames (ws.take k) t (fun q hq => HTR.out.2.2.1 q (List.mem_of_mem_take hq)) ht)
                have hE0 : (flatR (ws.take k)).length + (t : List UInt8).length = z := by have h := HBB.out.len; rwa [List.length_append] at h
                refine (fscan_any wr g d _ A8 z c8 _ HTR.out.1.on.tab ⟨hd0, by omega⟩ HBB.out (fun j hj _ => by omega) (by omega)).mono ?_
                rintro e w6 ⟨A6, c6, rfl, hp6, hG6, d6, ht6, hd6, hd6'⟩
                have HT6 := Lib.hid (HTR.out.1.turn ht6 hG6)
                have HB6 := Lib.hid (HBB.out.keep (S' := fun j => w1.heap.size ≤ j) (fun p hp hlt => World.cell?_of_block (hG6.block p.block hlt (fun e => by injection e with e; have hp' : w1.heap.size ≤ p.block := hp; omega))) (fun _ h _ => h))
                rw [HSC.out.1] at hp6 ⊢
                rw [HSC.out.2, pls_end, pls_len, List.length_take_of_le (by have := HTR.out.2.2.2.1; omega)]
                rw [pls_len, List.length_take_of_le (by have := HTR.out.2.2.2.1; omega)] at hp6
                have HP6 := Lib.hid (hp6.keepC (S' := fun j => w1.heap.size ≤ j) (fun _ _ _ hu => hu) (fun j hj _ => Nat.le_trans HTR.out.1.base.2 hj))
                have hd6a : 0 ≤ d6 ∧ d6 ≤ 500000 := by omega
                obtain ⟨E0, hE⟩ : ∃ E0, E0 = (flatR (ws.take k)).length := ⟨_, rfl⟩
                rw [← hE] at hE0 ⊢
                have hEL : E0 = z := by subst ht0; simpa using hE0
                rw [hEL]
                rw [if_pos ht0]
                have HES := Lib.hid hE
                clear ht6 hG6 hp6 hE
                go_wp2_with fail
                have hWm : k ≤ m := by omega
                obtain ⟨wo, hwo⟩ : ∃ wo, wo = wr := ⟨_, rfl⟩
                subst hwo
                go_loopw [16] (fun v16 wr2 => ∃ i2 : Nat, i2 ≤ k ∧ v16 = .int .i64 (i2 : Int) ∧ Hid (∃ d2, TR w' w1.heap.size g d2 wr2 (.slice Aa La ca) (.slice (some ⟨b, 0, none⟩) m ce) (.slice Aw m cw) (flatR ws) (endsL ws) qs ∧ 0 ≤ d2 ∧ d2 ≤ 500000 + 110000 * (i2 : Int) ∧ PQ wr2 (fun j => w1.heap.size ≤ j) A6 k c6 (pls (ws.take k) 0) ∧ Bs wr2 (fun j => w1.heap.size ≤ j) A8 z c8 (flatR (ws.take k) ++ t))) (fun v16 _ => k - (intOf v16).toNat)
                case atStart => exact ⟨0, by omega, rfl, Lib.hid ⟨d6, HT6.out, by omega, by omega, HP6.out, HB6.out⟩⟩
                case round =>
                  obtain ⟨i2, hi2, rfl, HR2⟩ := hrel
                  by_cases hl2 : i2 < k
                  · have hl2' : (i2 : Int) < (k : Int) := by omega
                    have hl2m : (i2 : Int) < (m : Int) := by omega
                    obtain ⟨d2, htr2, hd20, hd21, hpq2, hbs2⟩ := HR2.out
                    obtain ⟨r, hr⟩ : ∃ r, ws[i2]? = some r := ⟨_, List.getElem?_eq_getElem (by have := HTR.out.2.2.2.1; omega)⟩
                    have hok := HTR.out.2.2.1 r (List.mem_of_getElem? hr)
                    obtain ⟨hzl, hfr, hpl⟩ := frame_at (W := k) (t := t) hr hl2 hok
                    have hwl : (flatR (ws.take k)).length ≤ z := by rw [← HBB.out.len, List.length_append]; omega
                    have hfl := frOf_len r
                    have hfle := frOf_le hok
                    have hel : (endsL ws).length = m := by unfold endsL; simp; exact HTR.out.2.2.2.1
                    obtain ⟨be, hbe, hbeg, hce⟩ := own_int (hel ▸ htr2.end_) (show i2 < m by omega) (endsL_at (by have := HTR.out.2.2.2.1; omega))
                    have hql : qs.length = m := by have h := congrArg List.length HTR.out.2.1; rw [List.length_map, HTR.out.2.2.2.1] at h; exact h
                    obtain ⟨bw, Bw, dw, hbw, hbwg, hcw, hbsw⟩ := (hql ▸ htr2.wnt : QO wr (Lo w'.heap.size) w1.heap.size (.slice Aw m cw) m qs).at_ HTR.out.2.1 hr
                    obtain ⟨ad, x, B, dd, rp, had, hsb, hrp, hxe, hc, hb⟩ := hpq2.at_ i2 hl2
                    have hrp' := hrp.out.1.symm.trans hpl
                    injection hrp' with hrp'
                    subst hrp'
                    obtain ⟨Z, hZ⟩ : ∃ Z, Z = (flatR (ws.take i2)).length := ⟨_, rfl⟩
                    obtain ⟨LF, hLF⟩ : ∃ LF, LF = (frOf r).length := ⟨_, rfl⟩
                    have hEN : (flatR (ws.take (i2 + 1))).length = Z + LF := by rw [flatR_take hr, List.length_append, hZ, hLF]
                    rw [hEN] at hce
                    rw [← hZ, ← hLF] at hfr hc
                    rw [← hZ, ← hLF] at hzl
                    rw [← hLF] at hfl hfle
                    have hkn : ((r.k.toNat : Nat) : Int) = r.k := by have := hok.1; omega
                    subst had
                    have hxg : g < x.block := by rw [← hxe, block_of_add]; have hsb' : w1.heap.size ≤ ad.block := hsb; omega
                    have hnr := r.hn
                    have hb5 := hok.2.2
                    cases hbe
                    obtain rfl := hbw
                    have HQ2 := Lib.hid (And.intro htr2 (And.intro hd20 (And.intro hd21 (And.intro hpq2 (And.intro hbs2 (And.intro hce (And.intro hcw (And.intro hbsw (And.intro hc.out (And.intro hb hfr))))))))))
                    obtain ⟨x0, -, -⟩ := PQ.cells (r := ⟨Z, LF, r.k.toNat, r.nm, r.bs⟩) hc.out
                    clear HR2 htr2 hpq2 hbs2 hr hpl hce hcw hbsw hrp hc hb hfr hZ hLF hEN hel hql hsb
                    go_wp2_with fail
                    refine (fat_any wr g d2 (fun j => w1.heap.size ≤ j) A8 z c8 Z _ HQ2.out.1.on.tab ⟨by omega, by omega⟩ HQ2.out.2.2.2.2.1 (fun j hj _ => by have hj' : w1.heap.size ≤ j := hj; omega) (by omega) (by omega)).mono ?_
                    intro e w8 he
                    obtain ⟨K3, nm3, b3, m3, f3, rfl, hnm3, -, hr3, d8, ht8, hd8, hd8', hG8⟩ := he
                    rw [HQ2.out.2.2.2.2.2.2.2.2.2.2] at hr3
                    obtain ⟨A3, c3, hK, hN, hB, -, hf, hb3⟩ := hr3
                    subst hK hN hB hf
                    have HT8 := Lib.hid (And.intro (HQ2.out.1.turn ht8 hG8) (And.intro (HQ2.out.2.2.2.1.keepC (S' := fun j => w1.heap.size ≤ j) (fun p u hp hu => (World.cell?_of_block (hG8.block p.block (World.block_lt_of_cell? _ _ hu) (fun e => by injection e with e; have hp' : w1.heap.size ≤ p.block := hp; omega))).trans hu) (fun _ h _ => h)) (And.intro (HQ2.out.2.2.2.2.1.keepC (S' := fun j => w1.heap.size ≤ j) (fun p u hp hu => (World.cell?_of_block (hG8.block p.block (World.block_lt_of_cell? _ _ hu) (fun e => by injection e with e; have hp' : w1.heap.size ≤ p.block := hp; omega))).trans hu) (fun _ h _ => h)) hb3)))
                    have HG8 : Hid (∀ (p : Addr) u, p.block ≠ g → wr.cell? p = some u → w8.cell? p = some u) := Lib.hid fun p u hp hu => (World.cell?_of_block (hG8.block p.block (World.block_lt_of_cell? _ _ hu) (fun e => by injection e with e; exact hp e))).trans hu
                    clear ht8 hG8 hb3 x0
                    go_wp2_with (first | (with_reducible show wpList Try.prog _ _ ({ dst := none, op := Op.store 109 (Operand.tmp 17) (Operand.tmp 132), type := _, pos := _, after := _, guard := none } :: _) _ _; refine wl_storeK rfl (.tmp 17) (.tmp 132) 109 rfl (.inl rfl) rfl rfl (Blk.new _ _ _) rfl hnr rfl ?_; intro w9 hb9 hf9 hk9; go_must ((have h89 : Below w8.heap.size w8 w9 := ((Below.refl _ w8).alloc (Nat.le_refl _) _).trans (hf9 _ (Nat.le_refl _)); have HT9 := Lib.hid (And.intro (HT8.out.1.below h89) (And.intro (HT8.out.2.1.after h89) (And.intro (HT8.out.2.2.1.after h89) (And.intro (HT8.out.2.2.2.after h89) (And.intro hb9 h89))))))); clear hb9 hf9 hk9 h89))
                    have hwr2 : IntKind.i64.wrap ((Z : Int) + (LF : Int)) = ((Z + LF : Nat) : Int) := by unfold IntKind.wrap; simp [IntKind.bits, IntKind.signed]; omega
                    have HV : Hid (∀ W, Hid (Below w9.heap.size w9 W) → W.cell? x = some (.int .i64 (Z : Int)) ∧ W.cell? ⟨x.block, x.off + 1, none⟩ = some (.int .i64 (LF : Int)) ∧ W.rangeAt x.block (x.off + 2) (RC r.k r.nm (.slice B r.bs.length dd)).toList ∧ (∀ j v, (RC r.k r.nm (.slice Bw r.bs.length dw))[j]? = some v → W.cell? ((⟨bw, i2 * 34, none⟩ : Addr).add j) = some v) ∧ W.cell? ⟨b, i2, none⟩ = some (.int .i64 ((Z + LF : Nat) : Int)) ∧ Blk W w8.heap.size 109 (RC r.k r.nm (.slice A3 r.bs.length c3)) ∧ Bs W AnyB B r.bs.length dd r.bs ∧ Bs W AnyB Bw r.bs.length dw r.bs ∧ Bs W AnyB A3 r.bs.length c3 r.bs) := Lib.hid fun W hW => by
                      have mv : ∀ (p : Addr) u, p.block ≠ g → wr.cell? p = some u → W.cell? p = some u := fun p u hp hu => by
                        have h8 := HG8.out p u hp hu
                        have h9 := (HT9.out.2.2.2.2.2.cell (World.block_lt_of_cell? _ _ h8)).trans h8
                        exact (hW.out.cell (World.block_lt_of_cell? _ _ h9)).trans h9
                      obtain ⟨p1, p2, p3⟩ := PQ.cells (r := ⟨Z, LF, r.k.toNat, r.nm, r.bs⟩) HQ2.out.2.2.2.2.2.2.2.2.1
                      simp only [hkn] at p3
                      have hgn := HN1.out.new
                      exact ⟨mv _ _ (by omega) p1, mv _ _ (by show x.block ≠ g; omega) p2, fun j v hv => mv _ _ (by show x.block ≠ g; omega) (p3 j v hv), fun j v hv => by rw [Addr.add_mid]; exact mv _ _ (by show bw ≠ g; omega) (HQ2.out.2.2.2.2.2.2.1 j v hv), mv _ _ (by show b ≠ g; omega) HQ2.out.2.2.2.2.2.1, HT9.out.2.2.2.2.1.after hW.out, HQ2.out.2.2.2.2.2.2.2.2.2.1.keepC (fun p u hp hu => mv p u (by have hp' : w1.heap.size ≤ p.block := hp; omega) hu) (fun _ _ _ => trivial), HQ2.out.2.2.2.2.2.2.2.1.keepC (fun p u hp hu => mv p u (by have hp' : p.block < w'.heap.size := hp; omega) hu) (fun _ _ _ => trivial), (HT9.out.2.2.2.1.after hW.out).any⟩
                    refine wp_region_held_drew (S := fun w' => Hid (Below w9.heap.size w9 w')) (by kernel_rfl) (Lib.hid ((Below.refl _ _).drew)) (fun hHeld => ?_)
                    refine wpAnyH_take (i := 0) (oi := { dst := some 134, op := Op.move (Operand.tmp 13), type := 115, pos := "law.go:114", after := #[], guard := none }) (v := ?vqa0) rfl (by kernel_rfl) (by kernel_rfl) (by kernel_rfl) (fun _ _ _ h => h) (Or.inl ⟨by rfl, ?hyqa0⟩) hHeld ?restqa0
                    case hyqa0 => (intro w hSw; go_simp; try with_reducible rfl)
                    try simp only [Act.put, List.setIfInBounds_toArray, List.set_cons_zero, List.set_cons_succ]
                    refine wpAnyH_take (i := 1) (oi := { dst := some 135, op := Op.move (Operand.tmp 16), type := 3, pos := "law.go:114", after := #[], guard := none }) (v := ?vqa1) rfl (by kernel_rfl) (by kernel_rfl) (by kernel_rfl) (fun _ _ _ h => h) (Or.inl ⟨by rfl, ?hyqa1⟩) hHeld ?restqa1
                    case hyqa1 => (intro w hSw; go_simp; try with_reducible rfl)
                    try simp only [Act.put, List.setIfInBounds_toArray, List.set_cons_zero, List.set_cons_succ]
                    refine wpAnyH_take (i := 2) (oi := { dst := some 136, op := Op.indexAddr 115 (Operand.tmp 134) (Operand.tmp 135), type := 0, pos := "law.go:114", after := #[{ on := 0, ground := Ground.data }, { on := 1, ground := Ground.data }], guard := none }) (v := ?vqa2) rfl (by kernel_rfl) (by kernel_rfl) (by kernel_rfl) (fun _ _ _ h => h) (Or.inl ⟨by rfl, ?hyqa2⟩) hHeld ?restqa2
                    case hyqa2 => (intro w hSw; go_simp; try with_reducible rfl)
                    try simp only [Act.put, List.setIfInBounds_toArray, List.set_cons_zero, List.set_cons_succ]
                    refine wpAnyH_take (i := 3) (oi := { dst := some 137, op := Op.fieldAddr 134 (Operand.tmp 136) 2, type := 0, pos := "law.go:114", after := #[{ on := 2, ground := Ground.data }], guard := none }) (v := ?vqa3) rfl (by kernel_rfl) (by kernel_rfl) (by kernel_rfl) (fun _ _ _ h => h) (Or.inl ⟨by rfl, ?hyqa3⟩) hHeld ?restqa3
                    case hyqa3 => (intro w hSw; go_simp; try with_reducible rfl)
                    try simp only [Act.put, List.setIfInBounds_toArray, List.set_cons_zero, List.set_cons_succ]
                    refine wpAnyH_take (i := 4) (oi := { dst := some 138, op := Op.load 109 (Operand.tmp 137), type := 109, pos := "law.go:114", after := #[{ on := 3, ground := Ground.data }], guard := none }) (v := _) rfl (by kernel_rfl) (by kernel_rfl) (by kernel_rfl) (fun _ _ _ h => h) (yields_mid rfl (.inl rfl) rfl rfl hnr (fun _ h => (HV.out _ h).2.2.1)) hHeld ?_
                    try simp only [Act.put, List.setIfInBounds_toArray, List.set_cons_zero, List.set_cons_succ]
                    refine wpAnyH_take (i := 6) (oi := { dst := some 140, op := Op.move (Operand.tmp 8), type := 129, pos := "law.go:114", after := #[], guard := none }) (v := ?vqa6) rfl (by kernel_rfl) (by kernel_rfl) (by kernel_rfl) (fun _ _ _ h => h) (Or.inl ⟨by rfl, ?hyqa6⟩) hHeld ?restqa6
                    case hyqa6 => (intro w hSw; go_simp; try with_reducible rfl)
                    try simp only [Act.put, List.setIfInBounds_toArray, List.set_cons_zero, List.set_cons_succ]
                    refine wpAnyH_take (i := 7) (oi := { dst := some 141, op := Op.move (Operand.tmp 16), type := 3, pos := "law.go:114", after := #[], guard := none }) (v := ?vqa7) rfl (by kernel_rfl) (by kernel_rfl) (by kernel_rfl) (fun _ _ _ h => h) (Or.inl ⟨by rfl, ?hyqa7⟩) hHeld ?restqa7
                    case hyqa7 => (intro w hSw; go_simp; try with_reducible rfl)
                    try simp only [Act.put, List.setIfInBounds_toArray, List.set_cons_zero, List.set_cons_succ]
                    refine wpAnyH_take (i := 8) (oi := { dst := some 142, op := Op.indexAddr 129 (Operand.tmp 140) (Operand.tmp 141), type := 0, pos := "law.go:114", after := #[{ on := 6, ground := Ground.data }, { on := 7, ground := Ground.data }], guard := none }) (v := ?vqa8) rfl (by kernel_rfl) (by kernel_rfl) (by kernel_rfl) (fun _ _ _ h => h) (Or.inl ⟨by rfl, ?hyqa8⟩) hHeld ?restqa8
                    case hyqa8 => (intro w hSw; go_simp; try with_reducible rfl)
                    try simp only [Act.put, List.setIfInBounds_toArray, List.set_cons_zero, List.set_cons_succ]
                    refine wpAnyH_take (i := 9) (oi := { dst := some 143, op := Op.load 112 (Operand.tmp 142), type := 112, pos := "law.go:114", after := #[{ on := 8, ground := Ground.data }], guard := none }) (v := _) rfl (by kernel_rfl) (by kernel_rfl) (by kernel_rfl) (fun _ _ _ h => h) (yields_at rfl (.inr rfl) rfl rfl hnr (fun _ h => (HV.out _ h).2.2.2.1)) hHeld ?_
                    try simp only [Act.put, List.setIfInBounds_toArray, List.set_cons_zero, List.set_cons_succ]
                    refine wpAnyH_ready (rs := [5]) (by kernel_rfl) (by simp) ?_
                    refine AllReadyH.cons (o := { dst := some 139, op := Op.call { callee := Callee.value (Operand.func 71), args := #[Operand.tmp 138], argTypes := #[109] }, type := 112, pos := "law.go:114", after := #[{ on := 4, ground := Ground.data }], guard := none }) rfl (fun K hK => ?_) AllReadyH.nil
                    go_simp
                    refine (fback_any _ r.k r.nm B r.bs.length dd hnr).mono ?_; rintro e w5 ⟨rfl, hb5⟩
                    refine hK.out _ _ (held_next hHeld hb5) (fun hHeld => ?_)
                    clear hK K
                    try simp only [Act.put, List.setIfInBounds_toArray, List.set_cons_zero, List.set_cons_succ]
                    refine wpAnyH_ready (rs := [10]) (by kernel_rfl) (by simp) ?_
                    refine AllReadyH.cons (o := { dst := some 144, op := Op.call { callee := Callee.value (Operand.func 70), args := #[Operand.tmp 139, Operand.tmp 143], argTypes := #[112, 112] }, type := 4, pos := "law.go:114", after := #[{ on := 5, ground := Ground.data }, { on := 9, ground := Ground.data }, { on := 5, ground := Ground.chain }], guard := none }) rfl (fun K hK => ?_) AllReadyH.nil
                    go_simp
                    refine (frsame_any _ AnyB AnyB r.k r.k r.nm r.nm B Bw r.bs.length dd r.bs.length dw r.bs r.bs hnr hnr (HV.out _ hHeld).2.2.2.2.2.2.1 (HV.out _ hHeld).2.2.2.2.2.2.2.1 (by omega) (by omega)).mono ?_; rintro e w10 ⟨rfl, hb10⟩; rw [decide_eq_true (show (r.k = r.k ∧ r.nm = r.nm ∧ r.bs = r.bs) from ⟨rfl, rfl, rfl⟩)]
                    refine hK.out _ _ (held_next hHeld hb10) (fun hHeld => ?_)
                    clear hK K
                    try simp only [Act.put, List.setIfInBounds_toArray, List.set_cons_zero, List.set_cons_succ]
                    refine wpAnyH_take (i := 11) (oi := { dst := some 145, op := Op.unOp UnOp.not 4 (Operand.tmp 144), type := 4, pos := "law.go:114", after := #[{ on := 10, ground := Ground.data }], guard := none }) (v := ?vqa11) rfl (by kernel_rfl) (by kernel_rfl) (by kernel_rfl) (fun _ _ _ h => h) (Or.inl ⟨by rfl, ?hyqa11⟩) hHeld ?restqa11
                    case hyqa11 => (intro w hSw; go_simp; try with_reducible rfl)
                    try simp only [Act.put, List.setIfInBounds_toArray, List.set_cons_zero, List.set_cons_succ]
                    refine wpAnyH_take (i := 12) (oi := { dst := some 146, op := Op.move (Operand.tmp 145), type := 4, pos := "law.go:114", after := #[{ on := 11, ground := Ground.data }, { on := 10, ground := Ground.chain }], guard := none }) (v := ?vqa12) rfl (by kernel_rfl) (by kernel_rfl) (by kernel_rfl) (fun _ _ _ h => h) (Or.inl ⟨by rfl, ?hyqa12⟩) hHeld ?restqa12
                    case hyqa12 => (intro w hSw; go_simp; try with_reducible rfl)
                    try simp only [Act.put, List.setIfInBounds_toArray, List.set_cons_zero, List.set_cons_succ]
                    refine wpAnyH_take (i := 13) (oi := { dst := some 147, op := Op.move (Operand.tmp 18), type := 28, pos := "law.go:114", after := #[{ on := 12, ground := Ground.guard }], guard := some (12, false) }) (v := ?vqa13) rfl (by kernel_rfl) (by kernel_rfl) (by kernel_rfl) (fun _ _ _ h => h) (Or.inl ⟨by rfl, ?hyqa13⟩) hHeld ?restqa13
                    case hyqa13 => (intro w hSw; go_simp; try with_reducible rfl)
                    try simp only [Act.put, List.setIfInBounds_toArray, List.set_cons_zero, List.set_cons_succ]
                    refine wpAnyH_take (i := 14) (oi := { dst := some 148, op := Op.binOp BinOp.neq 28 (Operand.tmp 147) (Operand.const (Value.int IntKind.i64 0)) 28, type := 4, pos := "law.go:114", after := #[{ on := 13, ground := Ground.data }, { on := 12, ground := Ground.guard }], guard := some (12, false) }) (v := ?vqa14) rfl (by kernel_rfl) (by kernel_rfl) (by kernel_rfl) (fun _ _ _ h => h) (Or.inl ⟨by rfl, ?hyqa14⟩) hHeld ?restqa14
                    case hyqa14 => (intro w hSw; go_simp; try with_reducible rfl)
                    try simp only [Act.put, List.setIfInBounds_toArray, List.set_cons_zero, List.set_cons_succ]
                    refine wpAnyH_take (i := 15) (oi := { dst := some 149, op := Op.pick (Operand.tmp 146) (Operand.const (Value.bool true)) (Operand.tmp 148), type := 4, pos := "law.go:114", after := #[{ on := 12, ground := Ground.data }, { on := 14, ground := Ground.data }], guard := none }) (v := ?vqa15) rfl (by kernel_rfl) (by kernel_rfl) (by kernel_rfl) (fun _ _ _ h => h) (Or.inl ⟨by rfl, ?hyqa15⟩) hHeld ?restqa15
                    case hyqa15 => (intro w hSw; go_simp; try with_reducible rfl)
                    try simp only [Act.put, List.setIfInBounds_toArray, List.set_cons_zero, List.set_cons_succ]
                    refine wpAnyH_take (i := 16) (oi := { dst := some 150, op := Op.move (Operand.tmp 149), type := 4, pos := "law.go:114", after := #[{ on := 15, ground := Ground.data }, { on := 12, ground := Ground.chain }], guard := none }) (v := ?vqa16) rfl (by kernel_rfl) (by kernel_rfl) (by kernel_rfl) (fun _ _ _ h => h) (Or.inl ⟨by rfl, ?hyqa16⟩) hHeld ?restqa16
                    case hyqa16 => (intro w hSw; go_simp; try with_reducible rfl)
                    try simp only [Act.put, List.setIfInBounds_toArray, List.set_cons_zero, List.set_cons_succ]
                    refine wpAnyH_take (i := 17) (oi := { dst := some 151, op := Op.load 109 (Operand.tmp 17), type := 109, pos := "law.go:114", after := #[{ on := 16, ground := Ground.guard }], guard := some (16, false) }) (v := _) rfl (by kernel_rfl) (by kernel_rfl) (by kernel_rfl) (fun _ _ _ h => h) (yields_rec rfl (.inl rfl) rfl rfl hnr (fun _ h => (HV.out _ h).2.2.2.2.2.1)) hHeld ?_
                    try simp only [Act.put, List.setIfInBounds_toArray, List.set_cons_zero, List.set_cons_succ]
                    refine wpAnyH_take (i := 18) (oi := { dst := some 152, op := Op.move (Operand.tmp 13), type := 115, pos := "law.go:114", after := #[{ on := 16, ground := Ground.guard }], guard := some (16, false) }) (v := ?vqa18) rfl (by kernel_rfl) (by kernel_rfl) (by kernel_rfl) (fun _ _ _ h => h) (Or.inl ⟨by rfl, ?hyqa18⟩) hHeld ?restqa18
                    case hyqa18 => (intro w hSw; go_simp; try with_reducible rfl)
                    try simp only [Act.put, List.setIfInBounds_toArray, List.set_cons_zero, List.set_cons_succ]
                    refine wpAnyH_take (i := 19) (oi := { dst := some 153, op := Op.move (Operand.tmp 16), type := 3, pos := "law.go:114", after := #[{ on := 16, ground := Ground.guard }], guard := some (16, false) }) (v := ?vqa19) rfl (by kernel_rfl) (by kernel_rfl) (by kernel_rfl) (fun _ _ _ h => h) (Or.inl ⟨by rfl, ?hyqa19⟩) hHeld ?restqa19
                    case hyqa19 => (intro w hSw; go_simp; try with_reducible rfl)
                    try simp only [Act.put, List.setIfInBounds_toArray, List.set_cons_zero, List.set_cons_succ]
                    refine wpAnyH_take (i := 20) (oi := { dst := some 154, op := Op.indexAddr 115 (Operand.tmp 152) (Operand.tmp 153), type := 0, pos := "law.go:114", after := #[{ on := 18, ground := Ground.data }, { on := 19, ground := Ground.data }, { on := 16, ground := Ground.guard }], guard := some (16, false) }) (v := ?vqa20) rfl (by kernel_rfl) (by kernel_rfl) (by kernel_rfl) (fun _ _ _ h => h) (Or.inl ⟨by rfl, ?hyqa20⟩) hHeld ?restqa20
                    case hyqa20 => (intro w hSw; go_simp; try with_reducible rfl)
                    try simp only [Act.put, List.setIfInBounds_toArray, List.set_cons_zero, List.set_cons_succ]
                    refine wpAnyH_take (i := 21) (oi := { dst := some 155, op := Op.fieldAddr 134 (Operand.tmp 154) 2, type := 0, pos := "law.go:114", after := #[{ on := 20, ground := Ground.data }, { on := 16, ground := Ground.guard }], guard := some (16, false) }) (v := ?vqa21) rfl (by kernel_rfl) (by kernel_rfl) (by kernel_rfl) (fun _ _ _ h => h) (Or.inl ⟨by rfl, ?hyqa21⟩) hHeld ?restqa21
                    case hyqa21 => (intro w hSw; go_simp; try with_reducible rfl)
                    try simp only [Act.put, List.setIfInBounds_toArray, List.set_cons_zero, List.set_cons_succ]
                    refine wpAnyH_take (i := 22) (oi := { dst := some 156, op := Op.load 109 (Operand.tmp 155), type := 109, pos := "law.go:114", after := #[{ on := 21, ground := Ground.data }, { on := 16, ground := Ground.guard }], guard := some (16, false) }) (v := _) rfl (by kernel_rfl) (by kernel_rfl) (by kernel_rfl) (fun _ _ _ h => h) (yields_mid rfl (.inl rfl) rfl rfl hnr (fun _ h => (HV.out _ h).2.2.1)) hHeld ?_
                    try simp only [Act.put, List.setIfInBounds_toArray, List.set_cons_zero, List.set_cons_succ]
                    refine wpAnyH_ready (rs := [23]) (by kernel_rfl) (by simp) ?_
                    refine AllReadyH.cons (o := { dst := some 157, op := Op.call { callee := Callee.value (Operand.func 78), args := #[Operand.tmp 151, Operand.tmp 156], argTypes := #[109, 109] }, type := 4, pos := "law.go:114", after := #[{ on := 17, ground := Ground.data }, { on := 22, ground := Ground.data }, { on := 16, ground := Ground.chain }, { on := 16, ground := Ground.guard }], guard := some (16, false) }) rfl (fun K hK => ?_) AllReadyH.nil
                    go_simp
                    refine (fsame_any _ AnyB AnyB r.k r.k r.nm r.nm A3 B r.bs.length c3 r.bs.length dd r.bs r.bs hnr hnr (HV.out _ hHeld).2.2.2.2.2.2.2.2 (HV.out _ hHeld).2.2.2.2.2.2.1).mono ?_; rintro e w23 ⟨rfl, hb23⟩; rw [decide_eq_true (show (r.k = r.k ∧ r.nm = r.nm ∧ r.bs = r.bs) from ⟨rfl, rfl, rfl⟩)]
                    refine hK.out _ _ (held_next hHeld hb23) (fun hHeld => ?_)
                    clear hK K
                    try simp only [Act.put, List.setIfInBounds_toArray, List.set_cons_zero, List.set_cons_succ]
                    refine wpAnyH_take (i := 24) (oi := { dst := some 158, op := Op.unOp UnOp.not 4 (Operand.tmp 157), type := 4, pos := "law.go:114", after := #[{ on := 23, ground := Ground.data }, { on := 16, ground := Ground.guard }], guard := some (16, false) }) (v := ?vqa24) rfl (by kernel_rfl) (by kernel_rfl) (by kernel_rfl) (fun _ _ _ h => h) (Or.inl ⟨by rfl, ?hyqa24⟩) hHeld ?restqa24
                    case hyqa24 => (intro w hSw; go_simp; try with_reducible rfl)
                    try simp only [Act.put, List.setIfInBounds_toArray, List.set_cons_zero, List.set_cons_succ]
                    refine wpAnyH_take (i := 25) (oi := { dst := some 159, op := Op.pick (Operand.tmp 150) (Operand.const (Value.bool true)) (Operand.tmp 158), type := 4, pos := "law.go:114", after := #[{ on := 16, ground := Ground.data }, { on := 24, ground := Ground.data }], guard := none }) (v := ?vqa25) rfl (by kernel_rfl) (by kernel_rfl) (by kernel_rfl) (fun _ _ _ h => h) (Or.inl ⟨by rfl, ?hyqa25⟩) hHeld ?restqa25
                    case hyqa25 => (intro w hSw; go_simp; try with_reducible rfl)
                    try simp only [Act.put, List.setIfInBounds_toArray, List.set_cons_zero, List.set_cons_succ]
                    refine wpAnyH_take (i := 26) (oi := { dst := some 160, op := Op.move (Operand.tmp 159), type := 4, pos := "law.go:114", after := #[{ on := 25, ground := Ground.data }, { on := 23, ground := Ground.chain }], guard := none }) (v := ?vqa26) rfl (by kernel_rfl) (by kernel_rfl) (by kernel_rfl) (fun _ _ _ h => h) (Or.inl ⟨by rfl, ?hyqa26⟩) hHeld ?restqa26
                    case hyqa26 => (intro w hSw; go_simp; try with_reducible rfl)
                    try simp only [Act.put, List.setIfInBounds_toArray, List.set_cons_zero, List.set_cons_succ]
                    refine wpAnyH_take (i := 27) (oi := { dst := some 161, op := Op.move (Operand.tmp 13), type := 115, pos := "law.go:114", after := #[{ on := 26, ground := Ground.guard }], guard := some (26, false) }) (v := ?vqa27) rfl (by kernel_rfl) (by kernel_rfl) (by kernel_rfl) (fun _ _ _ h => h) (Or.inl ⟨by rfl, ?hyqa27⟩) hHeld ?restqa27
                    case hyqa27 => (intro w hSw; go_simp; try with_reducible rfl)
                    try simp only [Act.put, List.setIfInBounds_toArray, List.set_cons_zero, List.set_cons_succ]
                    refine wpAnyH_take (i := 28) (oi := { dst := some 162, op := Op.move (Operand.tmp 16), type := 3, pos := "law.go:114", after := #[{ on := 26, ground := Ground.guard }], guard := some (26, false) }) (v := ?vqa28) rfl (by kernel_rfl) (by kernel_rfl) (by kernel_rfl) (fun _ _ _ h => h) (Or.inl ⟨by rfl, ?hyqa28⟩) hHeld ?restqa28
                    case hyqa28 => (intro w hSw; go_simp; try with_reducible rfl)
                    try simp only [Act.put, List.setIfInBounds_toArray, List.set_cons_zero, List.set_cons_succ]
                    refine wpAnyH_take (i := 29) (oi := { dst := some 163, op := Op.indexAddr 115 (Operand.tmp 161) (Operand.tmp 162), type := 0, pos := "law.go:114", after := #[{ on := 27, ground := Ground.data }, { on := 28, ground := Ground.data }, { on := 26, ground := Ground.guard }], guard := some (26, false) }) (v := ?vqa29) rfl (by kernel_rfl) (by kernel_rfl) (by kernel_rfl) (fun _ _ _ h => h) (Or.inl ⟨by rfl, ?hyqa29⟩) hHeld ?restqa29
                    case hyqa29 => (intro w hSw; go_simp; try with_reducible rfl)
                    try simp only [Act.put, List.setIfInBounds_toArray, List.set_cons_zero, List.set_cons_succ]
                    refine wpAnyH_take (i := 30) (oi := { dst := some 164, op := Op.fieldAddr 134 (Operand.tmp 163) 0, type := 0, pos := "law.go:114", after := #[{ on := 29, ground := Ground.data }, { on := 26, ground := Ground.guard }], guard := some (26, false) }) (v := ?vqa30) rfl (by kernel_rfl) (by kernel_rfl) (by kernel_rfl) (fun _ _ _ h => h) (Or.inl ⟨by rfl, ?hyqa30⟩) hHeld ?restqa30
                    case hyqa30 => (intro w hSw; go_simp; try with_reducible rfl)
                    try simp only [Act.put, List.setIfInBounds_toArray, List.set_cons_zero, List.set_cons_succ]
                    refine wpAnyH_take (i := 31) (oi := { dst := some 165, op := Op.load 3 (Operand.tmp 164), type := 3, pos := "law.go:114", after := #[{ on := 30, ground := Ground.data }, { on := 26, ground := Ground.guard }], guard := some (26, false) }) (v := ?vqa31) rfl (by kernel_rfl) (by kernel_rfl) (by kernel_rfl) (fun _ _ _ h => h) (Or.inl ⟨by rfl, ?hyqa31⟩) hHeld ?restqa31
                    case hyqa31 => (intro w hSw; obtain ⟨p1, p2, -, -, p5, -⟩ := HV.out w hSw; go_simp; try with_reducible rfl)
                    try simp only [Act.put, List.setIfInBounds_toArray, List.set_cons_zero, List.set_cons_succ]
                    refine wpAnyH_take (i := 32) (oi := { dst := some 166, op := Op.move (Operand.tmp 13), type := 115, pos := "law.go:114", after := #[{ on := 26, ground := Ground.guard }], guard := some (26, false) }) (v := ?vqa32) rfl (by kernel_rfl) (by kernel_rfl) (by kernel_rfl) (fun _ _ _ h => h) (Or.inl ⟨by rfl, ?hyqa32⟩) hHeld ?restqa32
                    case hyqa32 => (intro w hSw; go_simp; try with_reducible rfl)
                    try simp only [Act.put, List.setIfInBounds_toArray, List.set_cons_zero, List.set_cons_succ]
                    refine wpAnyH_take (i := 33) (oi := { dst := some 167, op := Op.move (Operand.tmp 16), type := 3, pos := "law.go:114", after := #[{ on := 26, ground := Ground.guard }], guard := some (26, false) }) (v := ?vqa33) rfl (by kernel_rfl) (by kernel_rfl) (by kernel_rfl) (fun _ _ _ h => h) (Or.inl ⟨by rfl, ?hyqa33⟩) hHeld ?restqa33
                    case hyqa33 => (intro w hSw; go_simp; try with_reducible rfl)
                    try simp only [Act.put, List.setIfInBounds_toArray, List.set_cons_zero, List.set_cons_succ]
                    refine wpAnyH_take (i := 34) (oi := { dst := some 168, op := Op.indexAddr 115 (Operand.tmp 166) (Operand.tmp 167), type := 0, pos := "law.go:114", after := #[{ on := 32, ground := Ground.data }, { on := 33, ground := Ground.data }, { on := 26, ground := Ground.guard }], guard := some (26, false) }) (v := ?vqa34) rfl (by kernel_rfl) (by kernel_rfl) (by kernel_rfl) (fun _ _ _ h => h) (Or.inl ⟨by rfl, ?hyqa34⟩) hHeld ?restqa34
                    case hyqa34 => (intro w hSw; go_simp; try with_reducible rfl)
                    try simp only [Act.put, List.setIfInBounds_toArray, List.set_cons_zero, List.set_cons_succ]
                    refine wpAnyH_take (i := 35) (oi := { dst := some 169, op := Op.fieldAddr 134 (Operand.tmp 168) 1, type := 0, pos := "law.go:114", after := #[{ on := 34, ground := Ground.data }, { on := 26, ground := Ground.guard }], guard := some (26, false) }) (v := ?vqa35) rfl (by kernel_rfl) (by kernel_rfl) (by kernel_rfl) (fun _ _ _ h => h) (Or.inl ⟨by rfl, ?hyqa35⟩) hHeld ?restqa35
                    case hyqa35 => (intro w hSw; go_simp; try with_reducible rfl)
                    try simp only [Act.put, List.setIfInBounds_toArray, List.set_cons_zero, List.set_cons_succ]
                    refine wpAnyH_take (i := 36) (oi := { dst := some 170, op := Op.load 3 (Operand.tmp 169), type := 3, pos := "law.go:114", after := #[{ on := 35, ground := Ground.data }, { on := 26, ground := Ground.guard }], guard := some (26, false) }) (v := ?vqa36) rfl (by kernel_rfl) (by kernel_rfl) (by kernel_rfl) (fun _ _ _ h => h) (Or.inl ⟨by rfl, ?hyqa36⟩) hHeld ?restqa36
                    case hyqa36 => (intro w hSw; obtain ⟨p1, p2, -, -, p5, -⟩ := HV.out w hSw; go_simp; try with_reducible rfl)
                    try simp only [Act.put, List.setIfInBounds_toArray, List.set_cons_zero, List.set_cons_succ]
                    refine wpAnyH_take (i := 37) (oi := { dst := some 171, op := Op.binOp BinOp.add 3 (Operand.tmp 165) (Operand.tmp 170) 3, type := 3, pos := "law.go:114", after := #[{ on := 31, ground := Ground.data }, { on := 36, ground := Ground.data }, { on := 26, ground := Ground.guard }], guard := some (26, false) }) (v := ?vqa37) rfl (by kernel_rfl) (by kernel_rfl) (by kernel_rfl) (fun _ _ _ h => h) (Or.inl ⟨by rfl, ?hyqa37⟩) hHeld ?restqa37
                    case hyqa37 => (intro w hSw; go_simp; try with_reducible rfl)
                    try simp only [Act.put, List.setIfInBounds_toArray, List.set_cons_zero, List.set_cons_succ]
                    refine wpAnyH_take (i := 38) (oi := { dst := some 172, op := Op.move (Operand.tmp 7), type := 76, pos := "law.go:114", after := #[{ on := 26, ground := Ground.guard }], guard := some (26, false) }) (v := ?vqa38) rfl (by kernel_rfl) (by kernel_rfl) (by kernel_rfl) (fun _ _ _ h => h) (Or.inl ⟨by rfl, ?hyqa38⟩) hHeld ?restqa38
                    case hyqa38 => (intro w hSw; go_simp; try with_reducible rfl)
                    try simp only [Act.put, List.setIfInBounds_toArray, List.set_cons_zero, List.set_cons_succ]
                    refine wpAnyH_take (i := 39) (oi := { dst := some 173, op := Op.move (Operand.tmp 16), type := 3, pos := "law.go:114", after := #[{ on := 26, ground := Ground.guard }], guard := some (26, false) }) (v := ?vqa39) rfl (by kernel_rfl) (by kernel_rfl) (by kernel_rfl) (fun _ _ _ h => h) (Or.inl ⟨by rfl, ?hyqa39⟩) hHeld ?restqa39
                    case hyqa39 => (intro w hSw; go_simp; try with_reducible rfl)
                    try simp only [Act.put, List.setIfInBounds_toArray, List.set_cons_zero, List.set_cons_succ]
                    refine wpAnyH_take (i := 40) (oi := { dst := some 174, op := Op.indexAddr 76 (Operand.tmp 172) (Operand.tmp 173), type := 0, pos := "law.go:114", after := #[{ on := 38, ground := Ground.data }, { on := 39, ground := Ground.data }, { on := 26, ground := Ground.guard }], guard := some (26, false) }) (v := ?vqa40) rfl (by kernel_rfl) (by kernel_rfl) (by kernel_rfl) (fun _ _ _ h => h) (Or.inl ⟨by rfl, ?hyqa40⟩) hHeld ?restqa40
                    case hyqa40 => (intro w hSw; go_simp; try with_reducible rfl)
                    try simp only [Act.put, List.setIfInBounds_toArray, List.set_cons_zero, List.set_cons_succ]
                    refine wpAnyH_take (i := 41) (oi := { dst := some 175, op := Op.load 3 (Operand.tmp 174), type := 3, pos := "law.go:114", after := #[{ on := 40, ground := Ground.data }, { on := 26, ground := Ground.guard }], guard := some (26, false) }) (v := ?vqa41) rfl (by kernel_rfl) (by kernel_rfl) (by kernel_rfl) (fun _ _ _ h => h) (Or.inl ⟨by rfl, ?hyqa41⟩) hHeld ?restqa41
                    case hyqa41 => (intro w hSw; obtain ⟨p1, p2, -, -, p5, -⟩ := HV.out w hSw; go_simp; try with_reducible rfl)
                    try simp only [Act.put, List.setIfInBounds_toArray, List.set_cons_zero, List.set_cons_succ]
                    refine wpAnyH_take (i := 42) (oi := { dst := some 176, op := Op.binOp BinOp.neq 3 (Operand.tmp 171) (Operand.tmp 175) 3, type := 4, pos := "law.go:114", after := #[{ on := 37, ground := Ground.data }, { on := 41, ground := Ground.data }, { on := 26, ground := Ground.guard }], guard := some (26, false) }) (v := ?vqa42) rfl (by kernel_rfl) (by kernel_rfl) (by kernel_rfl) (fun _ _ _ h => h) (Or.inl ⟨by rfl, ?hyqa42⟩) hHeld ?restqa42
                    case hyqa42 => (intro w hSw; go_simp; try with_reducible rfl)
                    try simp only [Act.put, List.setIfInBounds_toArray, List.set_cons_zero, List.set_cons_succ]
                    refine wpAnyH_take (i := 43) (oi := { dst := some 177, op := Op.pick (Operand.tmp 160) (Operand.const (Value.bool true)) (Operand.tmp 176), type := 4, pos := "law.go:114", after := #[{ on := 26, ground := Ground.data }, { on := 42, ground := Ground.data }], guard := none }) (v := ?vqa43) rfl (by kernel_rfl) (by kernel_rfl) (by kernel_rfl) (fun _ _ _ h => h) (Or.inl ⟨by rfl, ?hyqa43⟩) hHeld ?restqa43
                    case hyqa43 => (intro w hSw; go_simp; try with_reducible rfl)
                    try simp only [Act.put, List.setIfInBounds_toArray, List.set_cons_zero, List.set_cons_succ]
                    refine wpAnyH_done (by kernel_rfl) ?_ _
                    have HT10 := Lib.hid (And.intro (HT9.out.1.below hHeld.out) (And.intro (HT9.out.2.1.after hHeld.out) (HT9.out.2.2.1.after hHeld.out)))
                    clear hHeld
                    go_wp2_with fail
                    go_roundw
                    case rel => exact ⟨i2 + 1, by omega, by go_num, Lib.hid ⟨d8, HT10.out.1, by omega, by omega, HT10.out.2.1, HT10.out.2.2⟩⟩
                    case measure => simp [intOf]; omega
                  · obtain rfl : i2 = k := by omega
                    obtain ⟨d2, htr2, -⟩ := HR2.out
                    have HN9 := Lib.hid htr2.on
                    clear htr2
                    go_wp2_with fail
                    refine (falive_any wr).mono ?_
                    rintro e w9 ⟨rfl, hb9⟩
                    have HF := Lib.hid (HN9.out.below hb9).bel
                    clear hb9
                    go_wp2_with fail
                    go_ret
                    exact ⟨rfl, HF.out⟩
              · have HSC := Lib.hid (scan_frames (ws.take k) t (fun q hq => HTR.out.2.2.1 q (List.mem_of_mem_take hq)) ht)
                have hE0 : (flatR (ws.take k)).length + (t : List UInt8).length = z := by have h := HBB.out.len; rwa [List.length_append] at h
                refine (fscan_any wr g d _ A8 z c8 _ HTR.out.1.on.tab ⟨hd0, by omega⟩ HBB.out (fun j hj _ => by omega) (by omega)).mono ?_
                rintro e w6 ⟨A6, c6, rfl, hp6, hG6, d6, ht6, hd6, hd6'⟩
                have HT6 := Lib.hid (HTR.out.1.turn ht6 hG6)
                have HB6 := Lib.hid (HBB.out.keep (S' := fun j => w1.heap.size ≤ j) (fun p hp hlt => World.cell?_of_block (hG6.block p.block hlt (fun e => by injection e with e; have hp' : w1.heap.size ≤ p.block := hp; omega))) (fun _ h _ => h))
                rw [HSC.out.1] at hp6 ⊢
                rw [HSC.out.2, pls_end, pls_len, List.length_take_of_le (by have := HTR.out.2.2.2.1; omega)]
                rw [pls_len, List.length_take_of_le (by have := HTR.out.2.2.2.1; omega)] at hp6
                have HP6 := Lib.hid (hp6.keepC (S' := fun j => w1.heap.size ≤ j) (fun _ _ _ hu => hu) (fun j hj _ => Nat.le_trans HTR.out.1.base.2 hj))
                have hd6a : 0 ≤ d6 ∧ d6 ≤ 500000 := by omega
                obtain ⟨E0, hE⟩ : ∃ E0, E0 = (flatR (ws.take k)).length := ⟨_, rfl⟩
                rw [← hE] at hE0 ⊢
                have hEL : E0 < z := by have := List.length_pos_iff.2 ht0; omega
                have hEL1 : ¬ (z : Int) < (E0 : Int) := by omega
                have hEL2 : ((E0 : Int) == (z : Int)) = false := by rw [beq_eq_false_iff_ne]; omega
                rw [if_neg ht0]
                have HES := Lib.hid hE
                clear ht6 hG6 hp6 hE
                go_wp2_with fail
                have hWm : k ≤ m := by omega
                obtain ⟨wo, hwo⟩ : ∃ wo, wo = wr := ⟨_, rfl⟩
                subst hwo
                rw [show decide (z < E0) = false from decide_eq_false (by omega)]
                go_loopw [16] (fun v16 wr2 => ∃ i2 : Nat, i2 ≤ k ∧ v16 = .int .i64 (i2 : Int) ∧ Hid (∃ d2, TR w' w1.heap.size g d2 wr2 (.slice Aa La ca) (.slice (some ⟨b, 0, none⟩) m ce) (.slice Aw m cw) (flatR ws) (endsL ws) qs ∧ 0 ≤ d2 ∧ d2 ≤ 500000 + 110000 * (i2 : Int) ∧ PQ wr2 (fun j => w1.heap.size ≤ j) A6 k c6 (pls (ws.take k) 0) ∧ Bs wr2 (fun j => w1.heap.size ≤ j) A8 z c8 (flatR (ws.take k) ++ t))) (fun v16 _ => k - (intOf v16).toNat)
                case atStart => exact ⟨0, by omega, rfl, Lib.hid ⟨d6, HT6.out, by omega, by omega, HP6.out, HB6.out⟩⟩
                case round =>
                  obtain ⟨i2, hi2, rfl, HR2⟩ := hrel
                  by_cases hl2 : i2 < k
                  · have hl2' : (i2 : Int) < (k : Int) := by omega
                    have hl2m : (i2 : Int) < (m : Int) := by omega
                    obtain ⟨d2, htr2, hd20, hd21, hpq2, hbs2⟩ := HR2.out
                    obtain ⟨r, hr⟩ : ∃ r, ws[i2]? = some r := ⟨_, List.getElem?_eq_getElem (by have := HTR.out.2.2.2.1; omega)⟩
                    have hok := HTR.out.2.2.1 r (List.mem_of_getElem? hr)
                    obtain ⟨hzl, hfr, hpl⟩ := frame_at (W := k) (t := t) hr hl2 hok
                    have hwl : (flatR (ws.take k)).length ≤ z := by rw [← HBB.out.len, List.length_append]; omega
                    have hfl := frOf_len r
                    have hfle := frOf_le hok
                    have hel : (endsL ws).length = m := by unfold endsL; simp; exact HTR.out.2.2.2.1
                    obtain ⟨be, hbe, hbeg, hce⟩ := own_int (hel ▸ htr2.end_) (show i2 < m by omega) (endsL_at (by have := HTR.out.2.2.2.1; omega))
                    have hql : qs.length = m := by have h := congrArg List.length HTR.out.2.1; rw [List.length_map, HTR.out.2.2.2.1] at h; exact h
                    obtain ⟨bw, Bw, dw, hbw, hbwg, hcw, hbsw⟩ := (hql ▸ htr2.wnt : QO wr (Lo w'.heap.size) w1.heap.size (.slice Aw m cw) m qs).at_ HTR.out.2.1 hr
                    obtain ⟨ad, x, B, dd, rp, had, hsb, hrp, hxe, hc, hb⟩ := hpq2.at_ i2 hl2
                    have hrp' := hrp.out.1.symm.trans hpl
                    injection hrp' with hrp'
                    subst hrp'
                    obtain ⟨Z, hZ⟩ : ∃ Z, Z = (flatR (ws.take i2)).length := ⟨_, rfl⟩
                    obtain ⟨LF, hLF⟩ : ∃ LF, LF = (frOf r).length := ⟨_, rfl⟩
                    have hEN : (flatR (ws.take (i2 + 1))).length = Z + LF := by rw [flatR_take hr, List.length_append, hZ, hLF]
                    rw [hEN] at hce
                    rw [← hZ, ← hLF] at hfr hc
                    rw [← hZ, ← hLF] at hzl
                    rw [← hLF] at hfl hfle
                    have hkn : ((r.k.toNat : Nat) : Int) = r.k := by have := hok.1; omega
                    subst had
                    have hxg : g < x.block := by rw [← hxe, block_of_add]; have hsb' : w1.heap.size ≤ ad.block := hsb; omega
                    have hnr := r.hn
                    have hb5 := hok.2.2
                    cases hbe
                    obtain rfl := hbw
                    have HQ2 := Lib.hid (And.intro htr2 (And.intro hd20 (And.intro hd21 (And.intro hpq2 (And.intro hbs2 (And.intro hce (And.intro hcw (And.intro hbsw (And.intro hc.out (And.intro hb hfr))))))))))
                    obtain ⟨x0, -, -⟩ := PQ.cells (r := ⟨Z, LF, r.k.toNat, r.nm, r.bs⟩) hc.out
                    clear HR2 htr2 hpq2 hbs2 hr hpl hce hcw hbsw hrp hc hb hfr hZ hLF hEN hel hql hsb
                    go_wp2_with fail
                    refine (fat_any wr g d2 (fun j => w1.heap.size ≤ j) A8 z c8 Z _ HQ2.out.1.on.tab ⟨by omega, by omega⟩ HQ2.out.2.2.2.2.1 (fun j hj _ => by have hj' : w1.heap.size ≤ j := hj; omega) (by omega) (by omega)).mono ?_
                    intro e w8 he
                    obtain ⟨K3, nm3, b3, m3, f3, rfl, hnm3, -, hr3, d8, ht8, hd8, hd8', hG8⟩ := he
                    rw [HQ2.out.2.2.2.2.2.2.2.2.2.2] at hr3
                    obtain ⟨A3, c3, hK, hN, hB, -, hf, hb3⟩ := hr3
                    subst hK hN hB hf
                    have HT8 := Lib.hid (And.intro (HQ2.out.1.turn ht8 hG8) (And.intro (HQ2.out.2.2.2.1.keepC (S' := fun j => w1.heap.size ≤ j) (fun p u hp hu => (World.cell?_of_block (hG8.block p.block (World.block_lt_of_cell? _ _ hu) (fun e => by injection e with e; have hp' : w1.heap.size ≤ p.block := hp; omega))).trans hu) (fun _ h _ => h)) (And.intro (HQ2.out.2.2.2.2.1.keepC (S' := fun j => w1.heap.size ≤ j) (fun p u hp hu => (World.cell?_of_block (hG8.block p.block (World.block_lt_of_cell? _ _ hu) (fun e => by injection e with e; have hp' : w1.heap.size ≤ p.block := hp; omega))).trans hu) (fun _ h _ => h)) hb3)))
                    have HG8 : Hid (∀ (p : Addr) u, p.block ≠ g → wr.cell? p = some u → w8.cell? p = some u) := Lib.hid fun p u hp hu => (World.cell?_of_block (hG8.block p.block (World.block_lt_of_cell? _ _ hu) (fun e => by injection e with e; exact hp e))).trans hu
                    clear ht8 hG8 hb3 x0
                    go_wp2_with (first | (with_reducible show wpList Try.prog _ _ ({ dst := none, op := Op.store 109 (Operand.tmp 17) (Operand.tmp 132), type := _, pos := _, after := _, guard := none } :: _) _ _; refine wl_storeK rfl (.tmp 17) (.tmp 132) 109 rfl (.inl rfl) rfl rfl (Blk.new _ _ _) rfl hnr rfl ?_; intro w9 hb9 hf9 hk9; go_must ((have h89 : Below w8.heap.size w8 w9 := ((Below.refl _ w8).alloc (Nat.le_refl _) _).trans (hf9 _ (Nat.le_refl _)); have HT9 := Lib.hid (And.intro (HT8.out.1.below h89) (And.intro (HT8.out.2.1.after h89) (And.intro (HT8.out.2.2.1.after h89) (And.intro (HT8.out.2.2.2.after h89) (And.intro hb9 h89))))))); clear hb9 hf9 hk9 h89))
                    have hwr2 : IntKind.i64.wrap ((Z : Int) + (LF : Int)) = ((Z + LF : Nat) : Int) := by unfold IntKind.wrap; simp [IntKind.bits, IntKind.signed]; omega
                    have HV : Hid (∀ W, Hid (Below w9.heap.size w9 W) → W.cell? x = some (.int .i64 (Z : Int)) ∧ W.cell? ⟨x.block, x.off + 1, none⟩ = some (.int .i64 (LF : Int)) ∧ W.rangeAt x.block (x.off + 2) (RC r.k r.nm (.slice B r.bs.length dd)).toList ∧ (∀ j v, (RC r.k r.nm (.slice Bw r.bs.length dw))[j]? = some v → W.cell? ((⟨bw, i2 * 34, none⟩ : Addr).add j) = some v) ∧ W.cell? ⟨b, i2, none⟩ = some (.int .i64 ((Z + LF : Nat) : Int)) ∧ Blk W w8.heap.size 109 (RC r.k r.nm (.slice A3 r.bs.length c3)) ∧ Bs W AnyB B r.bs.length dd r.bs ∧ Bs W AnyB Bw r.bs.length dw r.bs ∧ Bs W AnyB A3 r.bs.length c3 r.bs) := Lib.hid fun W hW => by
                      have mv : ∀ (p : Addr) u, p.block ≠ g → wr.cell? p = some u → W.cell? p = some u := fun p u hp hu => by
                        have h8 := HG8.out p u hp hu
                        have h9 := (HT9.out.2.2.2.2.2.cell (World.block_lt_of_cell? _ _ h8)).trans h8
                        exact (hW.out.cell (World.block_lt_of_cell? _ _ h9)).trans h9
                      obtain ⟨p1, p2, p3⟩ := PQ.cells (r := ⟨Z, LF, r.k.toNat, r.nm, r.bs⟩) HQ2.out.2.2.2.2.2.2.2.2.1
                      simp only [hkn] at p3
                      have hgn := HN1.out.new
                      exact ⟨mv _ _ (by omega) p1, mv _ _ (by show x.block ≠ g; omega) p2, fun j v hv => mv _ _ (by show x.block ≠ g; omega) (p3 j v hv), fun j v hv => by rw [Addr.add_mid]; exact mv _ _ (by show bw ≠ g; omega) (HQ2.out.2.2.2.2.2.2.1 j v hv), mv _ _ (by show b ≠ g; omega) HQ2.out.2.2.2.2.2.1, HT9.out.2.2.2.2.1.after hW.out, HQ2.out.2.2.2.2.2.2.2.2.2.1.keepC (fun p u hp hu => mv p u (by have hp' : w1.heap.size ≤ p.block := hp; omega) hu) (fun _ _ _ => trivial), HQ2.out.2.2.2.2.2.2.2.1.keepC (fun p u hp hu => mv p u (by have hp' : p.block < w'.heap.size := hp; omega) hu) (fun _ _ _ => trivial), (HT9.out.2.2.2.1.after hW.out).any⟩
                    refine wp_region_held_drew (S := fun w' => Hid (Below w9.heap.size w9 w')) (by kernel_rfl) (Lib.hid ((Below.refl _ _).drew)) (fun hHeld => ?_)
                    refine wpAnyH_take (i := 0) (oi := { dst := some 134, op := Op.move (Operand.tmp 13), type := 115, pos := "law.go:114", after := #[], guard := none }) (v := ?vqb0) rfl (by kernel_rfl) (by kernel_rfl) (by kernel_rfl) (fun _ _ _ h => h) (Or.inl ⟨by rfl, ?hyqb0⟩) hHeld ?restqb0
                    case hyqb0 => (intro w hSw; go_simp; try with_reducible rfl)
                    try simp only [Act.put, List.setIfInBounds_toArray, List.set_cons_zero, List.set_cons_succ]
                    refine wpAnyH_take (i := 1) (oi := { dst := some 135, op := Op.move (Operand.tmp 16), type := 3, pos := "law.go:114", after := #[], guard := none }) (v := ?vqb1) rfl (by kernel_rfl) (by kernel_rfl) (by kernel_rfl) (fun _ _ _ h => h) (Or.inl ⟨by rfl, ?hyqb1⟩) hHeld ?restqb1
                    case hyqb1 => (intro w hSw; go_simp; try with_reducible rfl)
                    try simp only [Act.put, List.setIfInBounds_toArray, List.set_cons_zero, List.set_cons_succ]
                    refine wpAnyH_take (i := 2) (oi := { dst := some 136, op := Op.indexAddr 115 (Operand.tmp 134) (Operand.tmp 135), type := 0, pos := "law.go:114", after := #[{ on := 0, ground := Ground.data }, { on := 1, ground := Ground.data }], guard := none }) (v := ?vqb2) rfl (by kernel_rfl) (by kernel_rfl) (by kernel_rfl) (fun _ _ _ h => h) (Or.inl ⟨by rfl, ?hyqb2⟩) hHeld ?restqb2
                    case hyqb2 => (intro w hSw; go_simp; try with_reducible rfl)
                    try simp only [Act.put, List.setIfInBounds_toArray, List.set_cons_zero, List.set_cons_succ]
                    refine wpAnyH_take (i := 3) (oi := { dst := some 137, op := Op.fieldAddr 134 (Operand.tmp 136) 2, type := 0, pos := "law.go:114", after := #[{ on := 2, ground := Ground.data }], guard := none }) (v := ?vqb3) rfl (by kernel_rfl) (by kernel_rfl) (by kernel_rfl) (fun _ _ _ h => h) (Or.inl ⟨by rfl, ?hyqb3⟩) hHeld ?restqb3
                    case hyqb3 => (intro w hSw; go_simp; try with_reducible rfl)
                    try simp only [Act.put, List.setIfInBounds_toArray, List.set_cons_zero, List.set_cons_succ]
                    refine wpAnyH_take (i := 4) (oi := { dst := some 138, op := Op.load 109 (Operand.tmp 137), type := 109, pos := "law.go:114", after := #[{ on := 3, ground := Ground.data }], guard := none }) (v := _) rfl (by kernel_rfl) (by kernel_rfl) (by kernel_rfl) (fun _ _ _ h => h) (yields_mid rfl (.inl rfl) rfl rfl hnr (fun _ h => (HV.out _ h).2.2.1)) hHeld ?_
                    try simp only [Act.put, List.setIfInBounds_toArray, List.set_cons_zero, List.set_cons_succ]
                    refine wpAnyH_take (i := 6) (oi := { dst := some 140, op := Op.move (Operand.tmp 8), type := 129, pos := "law.go:114", after := #[], guard := none }) (v := ?vqb6) rfl (by kernel_rfl) (by kernel_rfl) (by kernel_rfl) (fun _ _ _ h => h) (Or.inl ⟨by rfl, ?hyqb6⟩) hHeld ?restqb6
                    case hyqb6 => (intro w hSw; go_simp; try with_reducible rfl)
                    try simp only [Act.put, List.setIfInBounds_toArray, List.set_cons_zero, List.set_cons_succ]
                    refine wpAnyH_take (i := 7) (oi := { dst := some 141, op := Op.move (Operand.tmp 16), type := 3, pos := "law.go:114", after := #[], guard := none }) (v := ?vqb7) rfl (by kernel_rfl) (by kernel_rfl) (by kernel_rfl) (fun _ _ _ h => h) (Or.inl ⟨by rfl, ?hyqb7⟩) hHeld ?restqb7
                    case hyqb7 => (intro w hSw; go_simp; try with_reducible rfl)
                    try simp only [Act.put, List.setIfInBounds_toArray, List.set_cons_zero, List.set_cons_succ]
                    refine wpAnyH_take (i := 8) (oi := { dst := some 142, op := Op.indexAddr 129 (Operand.tmp 140) (Operand.tmp 141), type := 0, pos := "law.go:114", after := #[{ on := 6, ground := Ground.data }, { on := 7, ground := Ground.data }], guard := none }) (v := ?vqb8) rfl (by kernel_rfl) (by kernel_rfl) (by kernel_rfl) (fun _ _ _ h => h) (Or.inl ⟨by rfl, ?hyqb8⟩) hHeld ?restqb8
                    case hyqb8 => (intro w hSw; go_simp; try with_reducible rfl)
                    try simp only [Act.put, List.setIfInBounds_toArray, List.set_cons_zero, List.set_cons_succ]
                    refine wpAnyH_take (i := 9) (oi := { dst := some 143, op := Op.load 112 (Operand.tmp 142), type := 112, pos := "law.go:114", after := #[{ on := 8, ground := Ground.data }], guard := none }) (v := _) rfl (by kernel_rfl) (by kernel_rfl) (by kernel_rfl) (fun _ _ _ h => h) (yields_at rfl (.inr rfl) rfl rfl hnr (fun _ h => (HV.out _ h).2.2.2.1)) hHeld ?_
                    try simp only [Act.put, List.setIfInBounds_toArray, List.set_cons_zero, List.set_cons_succ]
                    refine wpAnyH_ready (rs := [5]) (by kernel_rfl) (by simp) ?_
                    refine AllReadyH.cons (o := { dst := some 139, op := Op.call { callee := Callee.value (Operand.func 71), args := #[Operand.tmp 138], argTypes := #[109] }, type := 112, pos := "law.go:114", after := #[{ on := 4, ground := Ground.data }], guard := none }) rfl (fun K hK => ?_) AllReadyH.nil
                    go_simp
                    refine (fback_any _ r.k r.nm B r.bs.length dd hnr).mono ?_; rintro e w5 ⟨rfl, hb5⟩
                    refine hK.out _ _ (held_next hHeld hb5) (fun hHeld => ?_)
                    clear hK K
                    try simp only [Act.put, List.setIfInBounds_toArray, List.set_cons_zero, List.set_cons_succ]
                    refine wpAnyH_ready (rs := [10]) (by kernel_rfl) (by simp) ?_
                    refine AllReadyH.cons (o := { dst := some 144, op := Op.call { callee := Callee.value (Operand.func 70), args := #[Operand.tmp 139, Operand.tmp 143], argTypes := #[112, 112] }, type := 4, pos := "law.go:114", after := #[{ on := 5, ground := Ground.data }, { on := 9, ground := Ground.data }, { on := 5, ground := Ground.chain }], guard := none }) rfl (fun K hK => ?_) AllReadyH.nil
                    go_simp
                    refine (frsame_any _ AnyB AnyB r.k r.k r.nm r.nm B Bw r.bs.length dd r.bs.length dw r.bs r.bs hnr hnr (HV.out _ hHeld).2.2.2.2.2.2.1 (HV.out _ hHeld).2.2.2.2.2.2.2.1 (by omega) (by omega)).mono ?_; rintro e w10 ⟨rfl, hb10⟩; rw [decide_eq_true (show (r.k = r.k ∧ r.nm = r.nm ∧ r.bs = r.bs) from ⟨rfl, rfl, rfl⟩)]
                    refine hK.out _ _ (held_next hHeld hb10) (fun hHeld => ?_)
                    clear hK K
                    try simp only [Act.put, List.setIfInBounds_toArray, List.set_cons_zero, List.set_cons_succ]
                    refine wpAnyH_take (i := 11) (oi := { dst := some 145, op := Op.unOp UnOp.not 4 (Operand.tmp 144), type := 4, pos := "law.go:114", after := #[{ on := 10, ground := Ground.data }], guard := none }) (v := ?vqb11) rfl (by kernel_rfl) (by kernel_rfl) (by kernel_rfl) (fun _ _ _ h => h) (Or.inl ⟨by rfl, ?hyqb11⟩) hHeld ?restqb11
                    case hyqb11 => (intro w hSw; go_simp; try with_reducible rfl)
                    try simp only [Act.put, List.setIfInBounds_toArray, List.set_cons_zero, List.set_cons_succ]
                    refine wpAnyH_take (i := 12) (oi := { dst := some 146, op := Op.move (Operand.tmp 145), type := 4, pos := "law.go:114", after := #[{ on := 11, ground := Ground.data }, { on := 10, ground := Ground.chain }], guard := none }) (v := ?vqb12) rfl (by kernel_rfl) (by kernel_rfl) (by kernel_rfl) (fun _ _ _ h => h) (Or.inl ⟨by rfl, ?hyqb12⟩) hHeld ?restqb12
                    case hyqb12 => (intro w hSw; go_simp; try with_reducible rfl)
                    try simp only [Act.put, List.setIfInBounds_toArray, List.set_cons_zero, List.set_cons_succ]
                    refine wpAnyH_take (i := 13) (oi := { dst := some 147, op := Op.move (Operand.tmp 18), type := 28, pos := "law.go:114", after := #[{ on := 12, ground := Ground.guard }], guard := some (12, false) }) (v := ?vqb13) rfl (by kernel_rfl) (by kernel_rfl) (by kernel_rfl) (fun _ _ _ h => h) (Or.inl ⟨by rfl, ?hyqb13⟩) hHeld ?restqb13
                    case hyqb13 => (intro w hSw; go_simp; try with_reducible rfl)
                    try simp only [Act.put, List.setIfInBounds_toArray, List.set_cons_zero, List.set_cons_succ]
                    refine wpAnyH_take (i := 14) (oi := { dst := some 148, op := Op.binOp BinOp.neq 28 (Operand.tmp 147) (Operand.const (Value.int IntKind.i64 0)) 28, type := 4, pos := "law.go:114", after := #[{ on := 13, ground := Ground.data }, { on := 12, ground := Ground.guard }], guard := some (12, false) }) (v := ?vqb14) rfl (by kernel_rfl) (by kernel_rfl) (by kernel_rfl) (fun _ _ _ h => h) (Or.inl ⟨by rfl, ?hyqb14⟩) hHeld ?restqb14
                    case hyqb14 => (intro w hSw; go_simp; try with_reducible rfl)
                    try simp only [Act.put, List.setIfInBounds_toArray, List.set_cons_zero, List.set_cons_succ]
                    refine wpAnyH_take (i := 15) (oi := { dst := some 149, op := Op.pick (Operand.tmp 146) (Operand.const (Value.bool true)) (Operand.tmp 148), type := 4, pos := "law.go:114", after := #[{ on := 12, ground := Ground.data }, { on := 14, ground := Ground.data }], guard := none }) (v := ?vqb15) rfl (by kernel_rfl) (by kernel_rfl) (by kernel_rfl) (fun _ _ _ h => h) (Or.inl ⟨by rfl, ?hyqb15⟩) hHeld ?restqb15
                    case hyqb15 => (intro w hSw; go_simp; try with_reducible rfl)
                    try simp only [Act.put, List.setIfInBounds_toArray, List.set_cons_zero, List.set_cons_succ]
                    refine wpAnyH_take (i := 16) (oi := { dst := some 150, op := Op.move (Operand.tmp 149), type := 4, pos := "law.go:114", after := #[{ on := 15, ground := Ground.data }, { on := 12, ground := Ground.chain }], guard := none }) (v := ?vqb16) rfl (by kernel_rfl) (by kernel_rfl) (by kernel_rfl) (fun _ _ _ h => h) (Or.inl ⟨by rfl, ?hyqb16⟩) hHeld ?restqb16
                    case hyqb16 => (intro w hSw; go_simp; try with_reducible rfl)
                    try simp only [Act.put, List.setIfInBounds_toArray, List.set_cons_zero, List.set_cons_succ]
                    refine wpAnyH_take (i := 17) (oi := { dst := some 151, op := Op.load 109 (Operand.tmp 17), type := 109, pos := "law.go:114", after := #[{ on := 16, ground := Ground.guard }], guard := some (16, false) }) (v := _) rfl (by kernel_rfl) (by kernel_rfl) (by kernel_rfl) (fun _ _ _ h => h) (yields_rec rfl (.inl rfl) rfl rfl hnr (fun _ h => (HV.out _ h).2.2.2.2.2.1)) hHeld ?_
                    try simp only [Act.put, List.setIfInBounds_toArray, List.set_cons_zero, List.set_cons_succ]
                    refine wpAnyH_take (i := 18) (oi := { dst := some 152, op := Op.move (Operand.tmp 13), type := 115, pos := "law.go:114", after := #[{ on := 16, ground := Ground.guard }], guard := some (16, false) }) (v := ?vqb18) rfl (by kernel_rfl) (by kernel_rfl) (by kernel_rfl) (fun _ _ _ h => h) (Or.inl ⟨by rfl, ?hyqb18⟩) hHeld ?restqb18
                    case hyqb18 => (intro w hSw; go_simp; try with_reducible rfl)
                    try simp only [Act.put, List.setIfInBounds_toArray, List.set_cons_zero, List.set_cons_succ]
                    refine wpAnyH_take (i := 19) (oi := { dst := some 153, op := Op.move (Operand.tmp 16), type := 3, pos := "law.go:114", after := #[{ on := 16, ground := Ground.guard }], guard := some (16, false) }) (v := ?vqb19) rfl (by kernel_rfl) (by kernel_rfl) (by kernel_rfl) (fun _ _ _ h => h) (Or.inl ⟨by rfl, ?hyqb19⟩) hHeld ?restqb19
                    case hyqb19 => (intro w hSw; go_simp; try with_reducible rfl)
                    try simp only [Act.put, List.setIfInBounds_toArray, List.set_cons_zero, List.set_cons_succ]
                    refine wpAnyH_take (i := 20) (oi := { dst := some 154, op := Op.indexAddr 115 (Operand.tmp 152) (Operand.tmp 153), type := 0, pos := "law.go:114", after := #[{ on := 18, ground := Ground.data }, { on := 19, ground := Ground.data }, { on := 16, ground := Ground.guard }], guard := some (16, false) }) (v := ?vqb20) rfl (by kernel_rfl) (by kernel_rfl) (by kernel_rfl) (fun _ _ _ h => h) (Or.inl ⟨by rfl, ?hyqb20⟩) hHeld ?restqb20
                    case hyqb20 => (intro w hSw; go_simp; try with_reducible rfl)
                    try simp only [Act.put, List.setIfInBounds_toArray, List.set_cons_zero, List.set_cons_succ]
                    refine wpAnyH_take (i := 21) (oi := { dst := some 155, op := Op.fieldAddr 134 (Operand.tmp 154) 2, type := 0, pos := "law.go:114", after := #[{ on := 20, ground := Ground.data }, { on := 16, ground := Ground.guard }], guard := some (16, false) }) (v := ?vqb21) rfl (by kernel_rfl) (by kernel_rfl) (by kernel_rfl) (fun _ _ _ h => h) (Or.inl ⟨by rfl, ?hyqb21⟩) hHeld ?restqb21
                    case hyqb21 => (intro w hSw; go_simp; try with_reducible rfl)
                    try simp only [Act.put, List.setIfInBounds_toArray, List.set_cons_zero, List.set_cons_succ]
                    refine wpAnyH_take (i := 22) (oi := { dst := some 156, op := Op.load 109 (Operand.tmp 155), type := 109, pos := "law.go:114", after := #[{ on := 21, ground := Ground.data }, { on := 16, ground := Ground.guard }], guard := some (16, false) }) (v := _) rfl (by kernel_rfl) (by kernel_rfl) (by kernel_rfl) (fun _ _ _ h => h) (yields_mid rfl (.inl rfl) rfl rfl hnr (fun _ h => (HV.out _ h).2.2.1)) hHeld ?_
                    try simp only [Act.put, List.setIfInBounds_toArray, List.set_cons_zero, List.set_cons_succ]
                    refine wpAnyH_ready (rs := [23]) (by kernel_rfl) (by simp) ?_
                    refine AllReadyH.cons (o := { dst := some 157, op := Op.call { callee := Callee.value (Operand.func 78), args := #[Operand.tmp 151, Operand.tmp 156], argTypes := #[109, 109] }, type := 4, pos := "law.go:114", after := #[{ on := 17, ground := Ground.data }, { on := 22, ground := Ground.data }, { on := 16, ground := Ground.chain }, { on := 16, ground := Ground.guard }], guard := some (16, false) }) rfl (fun K hK => ?_) AllReadyH.nil
                    go_simp
                    refine (fsame_any _ AnyB AnyB r.k r.k r.nm r.nm A3 B r.bs.length c3 r.bs.length dd r.bs r.bs hnr hnr (HV.out _ hHeld).2.2.2.2.2.2.2.2 (HV.out _ hHeld).2.2.2.2.2.2.1).mono ?_; rintro e w23 ⟨rfl, hb23⟩; rw [decide_eq_true (show (r.k = r.k ∧ r.nm = r.nm ∧ r.bs = r.bs) from ⟨rfl, rfl, rfl⟩)]
                    refine hK.out _ _ (held_next hHeld hb23) (fun hHeld => ?_)
                    clear hK K
                    try simp only [Act.put, List.setIfInBounds_toArray, List.set_cons_zero, List.set_cons_succ]
                    refine wpAnyH_take (i := 24) (oi := { dst := some 158, op := Op.unOp UnOp.not 4 (Operand.tmp 157), type := 4, pos := "law.go:114", after := #[{ on := 23, ground := Ground.data }, { on := 16, ground := Ground.guard }], guard := some (16, false) }) (v := ?vqb24) rfl (by kernel_rfl) (by kernel_rfl) (by kernel_rfl) (fun _ _ _ h => h) (Or.inl ⟨by rfl, ?hyqb24⟩) hHeld ?restqb24
                    case hyqb24 => (intro w hSw; go_simp; try with_reducible rfl)
                    try simp only [Act.put, List.setIfInBounds_toArray, List.set_cons_zero, List.set_cons_succ]
                    refine wpAnyH_take (i := 25) (oi := { dst := some 159, op := Op.pick (Operand.tmp 150) (Operand.const (Value.bool true)) (Operand.tmp 158), type := 4, pos := "law.go:114", after := #[{ on := 16, ground := Ground.data }, { on := 24, ground := Ground.data }], guard := none }) (v := ?vqb25) rfl (by kernel_rfl) (by kernel_rfl) (by kernel_rfl) (fun _ _ _ h => h) (Or.inl ⟨by rfl, ?hyqb25⟩) hHeld ?restqb25
                    case hyqb25 => (intro w hSw; go_simp; try with_reducible rfl)
                    try simp only [Act.put, List.setIfInBounds_toArray, List.set_cons_zero, List.set_cons_succ]
                    refine wpAnyH_take (i := 26) (oi := { dst := some 160, op := Op.move (Operand.tmp 159), type := 4, pos := "law.go:114", after := #[{ on := 25, ground := Ground.data }, { on := 23, ground := Ground.chain }], guard := none }) (v := ?vqb26) rfl (by kernel_rfl) (by kernel_rfl) (by kernel_rfl) (fun _ _ _ h => h) (Or.inl ⟨by rfl, ?hyqb26⟩) hHeld ?restqb26
                    case hyqb26 => (intro w hSw; go_simp; try with_reducible rfl)
                    try simp only [Act.put, List.setIfInBounds_toArray, List.set_cons_zero, List.set_cons_succ]
                    refine wpAnyH_take (i := 27) (oi := { dst := some 161, op := Op.move (Operand.tmp 13), type := 115, pos := "law.go:114", after := #[{ on := 26, ground := Ground.guard }], guard := some (26, false) }) (v := ?vqb27) rfl (by kernel_rfl) (by kernel_rfl) (by kernel_rfl) (fun _ _ _ h => h) (Or.inl ⟨by rfl, ?hyqb27⟩) hHeld ?restqb27
                    case hyqb27 => (intro w hSw; go_simp; try with_reducible rfl)
                    try simp only [Act.put, List.setIfInBounds_toArray, List.set_cons_zero, List.set_cons_succ]
                    refine wpAnyH_take (i := 28) (oi := { dst := some 162, op := Op.move (Operand.tmp 16), type := 3, pos := "law.go:114", after := #[{ on := 26, ground := Ground.guard }], guard := some (26, false) }) (v := ?vqb28) rfl (by kernel_rfl) (by kernel_rfl) (by kernel_rfl) (fun _ _ _ h => h) (Or.inl ⟨by rfl, ?hyqb28⟩) hHeld ?restqb28
                    case hyqb28 => (intro w hSw; go_simp; try with_reducible rfl)
                    try simp only [Act.put, List.setIfInBounds_toArray, List.set_cons_zero, List.set_cons_succ]
                    refine wpAnyH_take (i := 29) (oi := { dst := some 163, op := Op.indexAddr 115 (Operand.tmp 161) (Operand.tmp 162), type := 0, pos := "law.go:114", after := #[{ on := 27, ground := Ground.data }, { on := 28, ground := Ground.data }, { on := 26, ground := Ground.guard }], guard := some (26, false) }) (v := ?vqb29) rfl (by kernel_rfl) (by kernel_rfl) (by kernel_rfl) (fun _ _ _ h => h) (Or.inl ⟨by rfl, ?hyqb29⟩) hHeld ?restqb29
                    case hyqb29 => (intro w hSw; go_simp; try with_reducible rfl)
                    try simp only [Act.put, List.setIfInBounds_toArray, List.set_cons_zero, List.set_cons_succ]
                    refine wpAnyH_take (i := 30) (oi := { dst := some 164, op := Op.fieldAddr 134 (Operand.tmp 163) 0, type := 0, pos := "law.go:114", after := #[{ on := 29, ground := Ground.data }, { on := 26, ground := Ground.guard }], guard := some (26, false) }) (v := ?vqb30) rfl (by kernel_rfl) (by kernel_rfl) (by kernel_rfl) (fun _ _ _ h => h) (Or.inl ⟨by rfl, ?hyqb30⟩) hHeld ?restqb30
                    case hyqb30 => (intro w hSw; go_simp; try with_reducible rfl)
                    try simp only [Act.put, List.setIfInBounds_toArray, List.set_cons_zero, List.set_cons_succ]
                    refine wpAnyH_take (i := 31) (oi := { dst := some 165, op := Op.load 3 (Operand.tmp 164), type := 3, pos := "law.go:114", after := #[{ on := 30, ground := Ground.data }, { on := 26, ground := Ground.guard }], guard := some (26, false) }) (v := ?vqb31) rfl (by kernel_rfl) (by kernel_rfl) (by kernel_rfl) (fun _ _ _ h => h) (Or.inl ⟨by rfl, ?hyqb31⟩) hHeld ?restqb31
                    case hyqb31 => (intro w hSw; obtain ⟨p1, p2, -, -, p5, -⟩ := HV.out w hSw; go_simp; try with_reducible rfl)
                    try simp only [Act.put, List.setIfInBounds_toArray, List.set_cons_zero, List.set_cons_succ]
                    refine wpAnyH_take (i := 32) (oi := { dst := some 166, op := Op.move (Operand.tmp 13), type := 115, pos := "law.go:114", after := #[{ on := 26, ground := Ground.guard }], guard := some (26, false) }) (v := ?vqb32) rfl (by kernel_rfl) (by kernel_rfl) (by kernel_rfl) (fun _ _ _ h => h) (Or.inl ⟨by rfl, ?hyqb32⟩) hHeld ?restqb32
                    case hyqb32 => (intro w hSw; go_simp; try with_reducible rfl)
                    try simp only [Act.put, List.setIfInBounds_toArray, List.set_cons_zero, List.set_cons_succ]
                    refine wpAnyH_take (i := 33) (oi := { dst := some 167, op := Op.move (Operand.tmp 16), type := 3, pos := "law.go:114", after := #[{ on := 26, ground := Ground.guard }], guard := some (26, false) }) (v := ?vqb33) rfl (by kernel_rfl) (by kernel_rfl) (by kernel_rfl) (fun _ _ _ h => h) (Or.inl ⟨by rfl, ?hyqb33⟩) hHeld ?restqb33
                    case hyqb33 => (intro w hSw; go_simp; try with_reducible rfl)
                    try simp only [Act.put, List.setIfInBounds_toArray, List.set_cons_zero, List.set_cons_succ]
                    refine wpAnyH_take (i := 34) (oi := { dst := some 168, op := Op.indexAddr 115 (Operand.tmp 166) (Operand.tmp 167), type := 0, pos := "law.go:114", after := #[{ on := 32, ground := Ground.data }, { on := 33, ground := Ground.data }, { on := 26, ground := Ground.guard }], guard := some (26, false) }) (v := ?vqb34) rfl (by kernel_rfl) (by kernel_rfl) (by kernel_rfl) (fun _ _ _ h => h) (Or.inl ⟨by rfl, ?hyqb34⟩) hHeld ?restqb34
                    case hyqb34 => (intro w hSw; go_simp; try with_reducible rfl)
                    try simp only [Act.put, List.setIfInBounds_toArray, List.set_cons_zero, List.set_cons_succ]
                    refine wpAnyH_take (i := 35) (oi := { dst := some 169, op := Op.fieldAddr 134 (Operand.tmp 168) 1, type := 0, pos := "law.go:114", after := #[{ on := 34, ground := Ground.data }, { on := 26, ground := Ground.guard }], guard := some (26, false) }) (v := ?vqb35) rfl (by kernel_rfl) (by kernel_rfl) (by kernel_rfl) (fun _ _ _ h => h) (Or.inl ⟨by rfl, ?hyqb35⟩) hHeld ?restqb35
                    case hyqb35 => (intro w hSw; go_simp; try with_reducible rfl)
                    try simp only [Act.put, List.setIfInBounds_toArray, List.set_cons_zero, List.set_cons_succ]
                    refine wpAnyH_take (i := 36) (oi := { dst := some 170, op := Op.load 3 (Operand.tmp 169), type := 3, pos := "law.go:114", after := #[{ on := 35, ground := Ground.data }, { on := 26, ground := Ground.guard }], guard := some (26, false) }) (v := ?vqb36) rfl (by kernel_rfl) (by kernel_rfl) (by kernel_rfl) (fun _ _ _ h => h) (Or.inl ⟨by rfl, ?hyqb36⟩) hHeld ?restqb36
                    case hyqb36 => (intro w hSw; obtain ⟨p1, p2, -, -, p5, -⟩ := HV.out w hSw; go_simp; try with_reducible rfl)
                    try simp only [Act.put, List.setIfInBounds_toArray, List.set_cons_zero, List.set_cons_succ]
                    refine wpAnyH_take (i := 37) (oi := { dst := some 171, op := Op.binOp BinOp.add 3 (Operand.tmp 165) (Operand.tmp 170) 3, type := 3, pos := "law.go:114", after := #[{ on := 31, ground := Ground.data }, { on := 36, ground := Ground.data }, { on := 26, ground := Ground.guard }], guard := some (26, false) }) (v := ?vqb37) rfl (by kernel_rfl) (by kernel_rfl) (by kernel_rfl) (fun _ _ _ h => h) (Or.inl ⟨by rfl, ?hyqb37⟩) hHeld ?restqb37
                    case hyqb37 => (intro w hSw; go_simp; try with_reducible rfl)
                    try simp only [Act.put, List.setIfInBounds_toArray, List.set_cons_zero, List.set_cons_succ]
                    refine wpAnyH_take (i := 38) (oi := { dst := some 172, op := Op.move (Operand.tmp 7), type := 76, pos := "law.go:114", after := #[{ on := 26, ground := Ground.guard }], guard := some (26, false) }) (v := ?vqb38) rfl (by kernel_rfl) (by kernel_rfl) (by kernel_rfl) (fun _ _ _ h => h) (Or.inl ⟨by rfl, ?hyqb38⟩) hHeld ?restqb38
                    case hyqb38 => (intro w hSw; go_simp; try with_reducible rfl)
                    try simp only [Act.put, List.setIfInBounds_toArray, List.set_cons_zero, List.set_cons_succ]
                    refine wpAnyH_take (i := 39) (oi := { dst := some 173, op := Op.move (Operand.tmp 16), type := 3, pos := "law.go:114", after := #[{ on := 26, ground := Ground.guard }], guard := some (26, false) }) (v := ?vqb39) rfl (by kernel_rfl) (by kernel_rfl) (by kernel_rfl) (fun _ _ _ h => h) (Or.inl ⟨by rfl, ?hyqb39⟩) hHeld ?restqb39
                    case hyqb39 => (intro w hSw; go_simp; try with_reducible rfl)
                    try simp only [Act.put, List.setIfInBounds_toArray, List.set_cons_zero, List.set_cons_succ]
                    refine wpAnyH_take (i := 40) (oi := { dst := some 174, op := Op.indexAddr 76 (Operand.tmp 172) (Operand.tmp 173), type := 0, pos := "law.go:114", after := #[{ on := 38, ground := Ground.data }, { on := 39, ground := Ground.data }, { on := 26, ground := Ground.guard }], guard := some (26, false) }) (v := ?vqb40) rfl (by kernel_rfl) (by kernel_rfl) (by kernel_rfl) (fun _ _ _ h => h) (Or.inl ⟨by rfl, ?hyqb40⟩) hHeld ?restqb40
                    case hyqb40 => (intro w hSw; go_simp; try with_reducible rfl)
                    try simp only [Act.put, List.setIfInBounds_toArray, List.set_cons_zero, List.set_cons_succ]
                    refine wpAnyH_take (i := 41) (oi := { dst := some 175, op := Op.load 3 (Operand.tmp 174), type := 3, pos := "law.go:114", after := #[{ on := 40, ground := Ground.data }, { on := 26, ground := Ground.guard }], guard := some (26, false) }) (v := ?vqb41) rfl (by kernel_rfl) (by kernel_rfl) (by kernel_rfl) (fun _ _ _ h => h) (Or.inl ⟨by rfl, ?hyqb41⟩) hHeld ?restqb41
                    case hyqb41 => (intro w hSw; obtain ⟨p1, p2, -, -, p5, -⟩ := HV.out w hSw; go_simp; try with_reducible rfl)
                    try simp only [Act.put, List.setIfInBounds_toArray, List.set_cons_zero, List.set_cons_succ]
                    refine wpAnyH_take (i := 42) (oi := { dst := some 176, op := Op.binOp BinOp.neq 3 (Operand.tmp 171) (Operand.tmp 175) 3, type := 4, pos := "law.go:114", after := #[{ on := 37, ground := Ground.data }, { on := 41, ground := Ground.data }, { on := 26, ground := Ground.guard }], guard := some (26, false) }) (v := ?vqb42) rfl (by kernel_rfl) (by kernel_rfl) (by kernel_rfl) (fun _ _ _ h => h) (Or.inl ⟨by rfl, ?hyqb42⟩) hHeld ?restqb42
                    case hyqb42 => (intro w hSw; go_simp; try with_reducible rfl)
                    try simp only [Act.put, List.setIfInBounds_toArray, List.set_cons_zero, List.set_cons_succ]
                    refine wpAnyH_take (i := 43) (oi := { dst := some 177, op := Op.pick (Operand.tmp 160) (Operand.const (Value.bool true)) (Operand.tmp 176), type := 4, pos := "law.go:114", after := #[{ on := 26, ground := Ground.data }, { on := 42, ground := Ground.data }], guard := none }) (v := ?vqb43) rfl (by kernel_rfl) (by kernel_rfl) (by kernel_rfl) (fun _ _ _ h => h) (Or.inl ⟨by rfl, ?hyqb43⟩) hHeld ?restqb43
                    case hyqb43 => (intro w hSw; go_simp; try with_reducible rfl)
                    try simp only [Act.put, List.setIfInBounds_toArray, List.set_cons_zero, List.set_cons_succ]
                    refine wpAnyH_done (by kernel_rfl) ?_ _
                    have HT10 := Lib.hid (And.intro (HT9.out.1.below hHeld.out) (And.intro (HT9.out.2.1.after hHeld.out) (HT9.out.2.2.1.after hHeld.out)))
                    clear hHeld
                    go_wp2_with fail
                    go_roundw
                    case rel => exact ⟨i2 + 1, by omega, by go_num, Lib.hid ⟨d8, HT10.out.1, by omega, by omega, HT10.out.2.1, HT10.out.2.2⟩⟩
                    case measure => simp [intOf]; omega
                  · obtain rfl : i2 = k := by omega
                    obtain ⟨d2, htr2, -⟩ := HR2.out
                    have HN9 := Lib.hid htr2.on
                    clear htr2
                    go_wp2_with fail
                    refine (falive_any wr).mono ?_
                    rintro e w9 ⟨rfl, hb9⟩
                    have HF := Lib.hid (HN9.out.below hb9).bel
                    clear hb9
                    go_wp2_with fail
                    go_ret
                    exact ⟨rfl, HF.out⟩
          · exfalso
            have hk' : k = ws.length := by have := HTR.out.2.2.2.1; omega
            rcases Nat.eq_zero_or_pos k with h0 | h0
            · have := HTR.out.2.2.2.2; have := HTR.out.2.2.2.1; omega
            · have h1 := HK.out (k - 1) (by omega)
              rw [show k - 1 + 1 = k by omega, List.take_of_length_le (by omega), HTR.out.2.2.2.2] at h1
              omega
      · have HBB : Hid (Bs wr (fun j => w1.heap.size ≤ j) Aa La ca (flatR (ws.take m) ++ [])) := Lib.hid (by
          rw [List.append_nil, List.take_of_length_le (by have := HTR.out.2.2.2.1; omega)]
          exact Bs.mk HTR.out.2.2.2.2 (by obtain ⟨_, _, he, hc⟩ := own_shape (HTR.out.2.2.2.2 ▸ HTR.out.1.byt); cases he; exact hc) (Reads.of_own (HTR.out.2.2.2.2 ▸ HTR.out.1.byt)))
        by_cases q1 : 0 ≤ z
        · have q2 : ¬ z < (La : Int) := by omega
          clear hcut
          go_wp2_with fail
          have HSC := Lib.hid (scan_frames (ws.take m) [] (fun q hq => HTR.out.2.2.1 q (List.mem_of_mem_take hq)) (.inl rfl))
          have hE0 : (flatR (ws.take m)).length + ([] : List UInt8).length = La := by have h := HBB.out.len; rwa [List.length_append] at h
          refine (fscan_any wr g d _ Aa La ca _ HTR.out.1.on.tab ⟨hd0, by omega⟩ HBB.out (fun j hj _ => by omega) (by omega)).mono ?_
          rintro e w6 ⟨A6, c6, rfl, hp6, hG6, d6, ht6, hd6, hd6'⟩
          have HT6 := Lib.hid (HTR.out.1.turn ht6 hG6)
          have HB6 := Lib.hid (HBB.out.keep (S' := fun j => w1.heap.size ≤ j) (fun p hp hlt => World.cell?_of_block (hG6.block p.block hlt (fun e => by injection e with e; have hp' : w1.heap.size ≤ p.block := hp; omega))) (fun _ h _ => h))
          rw [HSC.out.1] at hp6 ⊢
          rw [HSC.out.2, pls_end, pls_len, List.length_take_of_le (by have := HTR.out.2.2.2.1; omega)]
          rw [pls_len, List.length_take_of_le (by have := HTR.out.2.2.2.1; omega)] at hp6
          have HP6 := Lib.hid (hp6.keepC (S' := fun j => w1.heap.size ≤ j) (fun _ _ _ hu => hu) (fun j hj _ => Nat.le_trans HTR.out.1.base.2 hj))
          have hd6a : 0 ≤ d6 ∧ d6 ≤ 500000 := by omega
          obtain ⟨E0, hE⟩ : ∃ E0, E0 = (flatR (ws.take m)).length := ⟨_, rfl⟩
          rw [← hE] at hE0 ⊢
          have hEL : E0 = La := by simpa using hE0
          rw [hEL]
          rw [if_pos rfl]
          have HES := Lib.hid hE
          clear ht6 hG6 hp6 hE
          go_wp2_with fail
          have hWm : m ≤ m := by omega
          obtain ⟨wo, hwo⟩ : ∃ wo, wo = wr := ⟨_, rfl⟩
          subst hwo
          go_loopw [16] (fun v16 wr2 => ∃ i2 : Nat, i2 ≤ m ∧ v16 = .int .i64 (i2 : Int) ∧ Hid (∃ d2, TR w' w1.heap.size g d2 wr2 (.slice Aa La ca) (.slice Ae m ce) (.slice Aw m cw) (flatR ws) (endsL ws) qs ∧ 0 ≤ d2 ∧ d2 ≤ 500000 + 110000 * (i2 : Int) ∧ PQ wr2 (fun j => w1.heap.size ≤ j) A6 m c6 (pls (ws.take m) 0) ∧ Bs wr2 (fun j => w1.heap.size ≤ j) Aa La ca (flatR (ws.take m) ++ []))) (fun v16 _ => m - (intOf v16).toNat)
          case atStart => exact ⟨0, by omega, rfl, Lib.hid ⟨d6, HT6.out, by omega, by omega, HP6.out, HB6.out⟩⟩
          case round =>
            obtain ⟨i2, hi2, rfl, HR2⟩ := hrel
            by_cases hl2 : i2 < m
            · have hl2' : (i2 : Int) < (m : Int) := by omega
              have hl2m : (i2 : Int) < (m : Int) := by omega
              obtain ⟨d2, htr2, hd20, hd21, hpq2, hbs2⟩ := HR2.out
              obtain ⟨r, hr⟩ : ∃ r, ws[i2]? = some r := ⟨_, List.getElem?_eq_getElem (by have := HTR.out.2.2.2.1; omega)⟩
              have hok := HTR.out.2.2.1 r (List.mem_of_getElem? hr)
              obtain ⟨hzl, hfr, hpl⟩ := frame_at (W := m) (t := []) hr hl2 hok
              have hwl : (flatR (ws.take m)).length ≤ La := by rw [← HBB.out.len, List.length_append]; omega
              have hfl := frOf_len r
              have hfle := frOf_le hok
              have hel : (endsL ws).length = m := by unfold endsL; simp; exact HTR.out.2.2.2.1
              obtain ⟨be, hbe, hbeg, hce⟩ := own_int (hel ▸ htr2.end_) (show i2 < m by omega) (endsL_at (by have := HTR.out.2.2.2.1; omega))
              have hql : qs.length = m := by have h := congrArg List.length HTR.out.2.1; rw [List.length_map, HTR.out.2.2.2.1] at h; exact h
              obtain ⟨bw, Bw, dw, hbw, hbwg, hcw, hbsw⟩ := (hql ▸ htr2.wnt : QO wr (Lo w'.heap.size) w1.heap.size (.slice Aw m cw) m qs).at_ HTR.out.2.1 hr
              obtain ⟨ad, x, B, dd, rp, had, hsb, hrp, hxe, hc, hb⟩ := hpq2.at_ i2 hl2
              have hrp' := hrp.out.1.symm.trans hpl
              injection hrp' with hrp'
              subst hrp'
              obtain ⟨Z, hZ⟩ : ∃ Z, Z = (flatR (ws.take i2)).length := ⟨_, rfl⟩
              obtain ⟨LF, hLF⟩ : ∃ LF, LF = (frOf r).length := ⟨_, rfl⟩
              have hEN : (flatR (ws.take (i2 + 1))).length = Z + LF := by rw [flatR_take hr, List.length_append, hZ, hLF]
              rw [hEN] at hce
              rw [← hZ, ← hLF] at hfr hc
              rw [← hZ, ← hLF] at hzl
              rw [← hLF] at hfl hfle
              have hkn : ((r.k.toNat : Nat) : Int) = r.k := by have := hok.1; omega
              subst had
              have hxg : g < x.block := by rw [← hxe, block_of_add]; have hsb' : w1.heap.size ≤ ad.block := hsb; omega
              have hnr := r.hn
              have hb5 := hok.2.2
              obtain rfl := hbe
              obtain rfl := hbw
              have HQ2 := Lib.hid (And.intro htr2 (And.intro hd20 (And.intro hd21 (And.intro hpq2 (And.intro hbs2 (And.intro hce (And.intro hcw (And.intro hbsw (And.intro hc.out (And.intro hb hfr))))))))))
              obtain ⟨x0, -, -⟩ := PQ.cells (r := ⟨Z, LF, r.k.toNat, r.nm, r.bs⟩) hc.out
              clear HR2 htr2 hpq2 hbs2 hr hpl hce hcw hbsw hrp hc hb hfr hZ hLF hEN hel hql hsb
              go_wp2_with fail
              refine (fat_any wr g d2 (fun j => w1.heap.size ≤ j) Aa La ca Z _ HQ2.out.1.on.tab ⟨by omega, by omega⟩ HQ2.out.2.2.2.2.1 (fun j hj _ => by have hj' : w1.heap.size ≤ j := hj; omega) (by omega) (by omega)).mono ?_
              intro e w8 he
              obtain ⟨K3, nm3, b3, m3, f3, rfl, hnm3, -, hr3, d8, ht8, hd8, hd8', hG8⟩ := he
              rw [HQ2.out.2.2.2.2.2.2.2.2.2.2] at hr3
              obtain ⟨A3, c3, hK, hN, hB, -, hf, hb3⟩ := hr3
              subst hK hN hB hf
              have HT8 := Lib.hid (And.intro (HQ2.out.1.turn ht8 hG8) (And.intro (HQ2.out.2.2.2.1.keepC (S' := fun j => w1.heap.size ≤ j) (fun p u hp hu => (World.cell?_of_block (hG8.block p.block (World.block_lt_of_cell? _ _ hu) (fun e => by injection e with e; have hp' : w1.heap.size ≤ p.block := hp; omega))).trans hu) (fun _ h _ => h)) (And.intro (HQ2.out.2.2.2.2.1.keepC (S' := fun j => w1.heap.size ≤ j) (fun p u hp hu => (World.cell?_of_block (hG8.block p.block (World.block_lt_of_cell? _ _ hu) (fun e => by injection e with e; have hp' : w1.heap.size ≤ p.block := hp; omega))).trans hu) (fun _ h _ => h)) hb3)))
              have HG8 : Hid (∀ (p : Addr) u, p.block ≠ g → wr.cell? p = some u → w8.cell? p = some u) := Lib.hid fun p u hp hu => (World.cell?_of_block (hG8.block p.block (World.block_lt_of_cell? _ _ hu) (fun e => by injection e with e; exact hp e))).trans hu
              clear ht8 hG8 hb3 x0
              go_wp2_with (first | (with_reducible show wpList Try.prog _ _ ({ dst := none, op := Op.store 109 (Operand.tmp 17) (Operand.tmp 132), type := _, pos := _, after := _, guard := none } :: _) _ _; refine wl_storeK rfl (.tmp 17) (.tmp 132) 109 rfl (.inl rfl) rfl rfl (Blk.new _ _ _) rfl hnr rfl ?_; intro w9 hb9 hf9 hk9; go_must ((have h89 : Below w8.heap.size w8 w9 := ((Below.refl _ w8).alloc (Nat.le_refl _) _).trans (hf9 _ (Nat.le_refl _)); have HT9 := Lib.hid (And.intro (HT8.out.1.below h89) (And.intro (HT8.out.2.1.after h89) (And.intro (HT8.out.2.2.1.after h89) (And.intro (HT8.out.2.2.2.after h89) (And.intro hb9 h89))))))); clear hb9 hf9 hk9 h89))
              have hwr2 : IntKind.i64.wrap ((Z : Int) + (LF : Int)) = ((Z + LF : Nat) : Int) := by unfold IntKind.wrap; simp [IntKind.bits, IntKind.signed]; omega
              have HV : Hid (∀ W, Hid (Below w9.heap.size w9 W) → W.cell? x = some (.int .i64 (Z : Int)) ∧ W.cell? ⟨x.block, x.off + 1, none⟩ = some (.int .i64 (LF : Int)) ∧ W.rangeAt x.block (x.off + 2) (RC r.k r.nm (.slice B r.bs.length dd)).toList ∧ (∀ j v, (RC r.k r.nm (.slice Bw r.bs.length dw))[j]? = some v → W.cell? ((⟨bw, i2 * 34, none⟩ : Addr).add j) = some v) ∧ W.cell? ⟨be, i2, none⟩ = some (.int .i64 ((Z + LF : Nat) : Int)) ∧ Blk W w8.heap.size 109 (RC r.k r.nm (.slice A3 r.bs.length c3)) ∧ Bs W AnyB B r.bs.length dd r.bs ∧ Bs W AnyB Bw r.bs.length dw r.bs ∧ Bs W AnyB A3 r.bs.length c3 r.bs) := Lib.hid fun W hW => by
                have mv : ∀ (p : Addr) u, p.block ≠ g → wr.cell? p = some u → W.cell? p = some u := fun p u hp hu => by
                  have h8 := HG8.out p u hp hu
                  have h9 := (HT9.out.2.2.2.2.2.cell (World.block_lt_of_cell? _ _ h8)).trans h8
                  exact (hW.out.cell (World.block_lt_of_cell? _ _ h9)).trans h9
                obtain ⟨p1, p2, p3⟩ := PQ.cells (r := ⟨Z, LF, r.k.toNat, r.nm, r.bs⟩) HQ2.out.2.2.2.2.2.2.2.2.1
                simp only [hkn] at p3
                have hgn := HN1.out.new
                exact ⟨mv _ _ (by omega) p1, mv _ _ (by show x.block ≠ g; omega) p2, fun j v hv => mv _ _ (by show x.block ≠ g; omega) (p3 j v hv), fun j v hv => by rw [Addr.add_mid]; exact mv _ _ (by show bw ≠ g; omega) (HQ2.out.2.2.2.2.2.2.1 j v hv), mv _ _ (by show be ≠ g; omega) HQ2.out.2.2.2.2.2.1, HT9.out.2.2.2.2.1.after hW.out, HQ2.out.2.2.2.2.2.2.2.2.2.1.keepC (fun p u hp hu => mv p u (by have hp' : w1.heap.size ≤ p.block := hp; omega) hu) (fun _ _ _ => trivial), HQ2.out.2.2.2.2.2.2.2.1.keepC (fun p u hp hu => mv p u (by have hp' : p.block < w'.heap.size := hp; omega) hu) (fun _ _ _ => trivial), (HT9.out.2.2.2.1.after hW.out).any⟩
              refine wp_region_held_drew (S := fun w' => Hid (Below w9.heap.size w9 w')) (by kernel_rfl) (Lib.hid ((Below.refl _ _).drew)) (fun hHeld => ?_)
              refine wpAnyH_take (i := 0) (oi := { dst := some 134, op := Op.move (Operand.tmp 13), type := 115, pos := "law.go:114", after := #[], guard := none }) (v := ?vqc0) rfl (by kernel_rfl) (by kernel_rfl) (by kernel_rfl) (fun _ _ _ h => h) (Or.inl ⟨by rfl, ?hyqc0⟩) hHeld ?restqc0
              case hyqc0 => (intro w hSw; go_simp; try with_reducible rfl)
              try simp only [Act.put, List.setIfInBounds_toArray, List.set_cons_zero, List.set_cons_succ]
              refine wpAnyH_take (i := 1) (oi := { dst := some 135, op := Op.move (Operand.tmp 16), type := 3, pos := "law.go:114", after := #[], guard := none }) (v := ?vqc1) rfl (by kernel_rfl) (by kernel_rfl) (by kernel_rfl) (fun _ _ _ h => h) (Or.inl ⟨by rfl, ?hyqc1⟩) hHeld ?restqc1
              case hyqc1 => (intro w hSw; go_simp; try with_reducible rfl)
              try simp only [Act.put, List.setIfInBounds_toArray, List.set_cons_zero, List.set_cons_succ]
              refine wpAnyH_take (i := 2) (oi := { dst := some 136, op := Op.indexAddr 115 (Operand.tmp 134) (Operand.tmp 135), type := 0, pos := "law.go:114", after := #[{ on := 0, ground := Ground.data }, { on := 1, ground := Ground.data }], guard := none }) (v := ?vqc2) rfl (by kernel_rfl) (by kernel_rfl) (by kernel_rfl) (fun _ _ _ h => h) (Or.inl ⟨by rfl, ?hyqc2⟩) hHeld ?restqc2
              case hyqc2 => (intro w hSw; go_simp; try with_reducible rfl)
              try simp only [Act.put, List.setIfInBounds_toArray, List.set_cons_zero, List.set_cons_succ]
              refine wpAnyH_take (i := 3) (oi := { dst := some 137, op := Op.fieldAddr 134 (Operand.tmp 136) 2, type := 0, pos := "law.go:114", after := #[{ on := 2, ground := Ground.data }], guard := none }) (v := ?vqc3) rfl (by kernel_rfl) (by kernel_rfl) (by kernel_rfl) (fun _ _ _ h => h) (Or.inl ⟨by rfl, ?hyqc3⟩) hHeld ?restqc3
              case hyqc3 => (intro w hSw; go_simp; try with_reducible rfl)
              try simp only [Act.put, List.setIfInBounds_toArray, List.set_cons_zero, List.set_cons_succ]
              refine wpAnyH_take (i := 4) (oi := { dst := some 138, op := Op.load 109 (Operand.tmp 137), type := 109, pos := "law.go:114", after := #[{ on := 3, ground := Ground.data }], guard := none }) (v := _) rfl (by kernel_rfl) (by kernel_rfl) (by kernel_rfl) (fun _ _ _ h => h) (yields_mid rfl (.inl rfl) rfl rfl hnr (fun _ h => (HV.out _ h).2.2.1)) hHeld ?_
              try simp only [Act.put, List.setIfInBounds_toArray, List.set_cons_zero, List.set_cons_succ]
              refine wpAnyH_take (i := 6) (oi := { dst := some 140, op := Op.move (Operand.tmp 8), type := 129, pos := "law.go:114", after := #[], guard := none }) (v := ?vqc6) rfl (by kernel_rfl) (by kernel_rfl) (by kernel_rfl) (fun _ _ _ h => h) (Or.inl ⟨by rfl, ?hyqc6⟩) hHeld ?restqc6
              case hyqc6 => (intro w hSw; go_simp; try with_reducible rfl)
              try simp only [Act.put, List.setIfInBounds_toArray, List.set_cons_zero, List.set_cons_succ]
              refine wpAnyH_take (i := 7) (oi := { dst := some 141, op := Op.move (Operand.tmp 16), type := 3, pos := "law.go:114", after := #[], guard := none }) (v := ?vqc7) rfl (by kernel_rfl) (by kernel_rfl) (by kernel_rfl) (fun _ _ _ h => h) (Or.inl ⟨by rfl, ?hyqc7⟩) hHeld ?restqc7
              case hyqc7 => (intro w hSw; go_simp; try with_reducible rfl)
              try simp only [Act.put, List.setIfInBounds_toArray, List.set_cons_zero, List.set_cons_succ]
              refine wpAnyH_take (i := 8) (oi := { dst := some 142, op := Op.indexAddr 129 (Operand.tmp 140) (Operand.tmp 141), type := 0, pos := "law.go:114", after := #[{ on := 6, ground := Ground.data }, { on := 7, ground := Ground.data }], guard := none }) (v := ?vqc8) rfl (by kernel_rfl) (by kernel_rfl) (by kernel_rfl) (fun _ _ _ h => h) (Or.inl ⟨by rfl, ?hyqc8⟩) hHeld ?restqc8
              case hyqc8 => (intro w hSw; go_simp; try with_reducible rfl)
              try simp only [Act.put, List.setIfInBounds_toArray, List.set_cons_zero, List.set_cons_succ]
              refine wpAnyH_take (i := 9) (oi := { dst := some 143, op := Op.load 112 (Operand.tmp 142), type := 112, pos := "law.go:114", after := #[{ on := 8, ground := Ground.data }], guard := none }) (v := _) rfl (by kernel_rfl) (by kernel_rfl) (by kernel_rfl) (fun _ _ _ h => h) (yields_at rfl (.inr rfl) rfl rfl hnr (fun _ h => (HV.out _ h).2.2.2.1)) hHeld ?_
              try simp only [Act.put, List.setIfInBounds_toArray, List.set_cons_zero, List.set_cons_succ]
              refine wpAnyH_ready (rs := [5]) (by kernel_rfl) (by simp) ?_
              refine AllReadyH.cons (o := { dst := some 139, op := Op.call { callee := Callee.value (Operand.func 71), args := #[Operand.tmp 138], argTypes := #[109] }, type := 112, pos := "law.go:114", after := #[{ on := 4, ground := Ground.data }], guard := none }) rfl (fun K hK => ?_) AllReadyH.nil
              go_simp
              refine (fback_any _ r.k r.nm B r.bs.length dd hnr).mono ?_; rintro e w5 ⟨rfl, hb5⟩
              refine hK.out _ _ (held_next hHeld hb5) (fun hHeld => ?_)
              clear hK K
              try simp only [Act.put, List.setIfInBounds_toArray, List.set_cons_zero, List.set_cons_succ]
              refine wpAnyH_ready (rs := [10]) (by kernel_rfl) (by simp) ?_
              refine AllReadyH.cons (o := { dst := some 144, op := Op.call { callee := Callee.value (Operand.func 70), args := #[Operand.tmp 139, Operand.tmp 143], argTypes := #[112, 112] }, type := 4, pos := "law.go:114", after := #[{ on := 5, ground := Ground.data }, { on := 9, ground := Ground.data }, { on := 5, ground := Ground.chain }], guard := none }) rfl (fun K hK => ?_) AllReadyH.nil
              go_simp
              refine (frsame_any _ AnyB AnyB r.k r.k r.nm r.nm B Bw r.bs.length dd r.bs.length dw r.bs r.bs hnr hnr (HV.out _ hHeld).2.2.2.2.2.2.1 (HV.out _ hHeld).2.2.2.2.2.2.2.1 (by omega) (by omega)).mono ?_; rintro e w10 ⟨rfl, hb10⟩; rw [decide_eq_true (show (r.k = r.k ∧ r.nm = r.nm ∧ r.bs = r.bs) from ⟨rfl, rfl, rfl⟩)]
              refine hK.out _ _ (held_next hHeld hb10) (fun hHeld => ?_)
              clear hK K
              try simp only [Act.put, List.setIfInBounds_toArray, List.set_cons_zero, List.set_cons_succ]
              refine wpAnyH_take (i := 11) (oi := { dst := some 145, op := Op.unOp UnOp.not 4 (Operand.tmp 144), type := 4, pos := "law.go:114", after := #[{ on := 10, ground := Ground.data }], guard := none }) (v := ?vqc11) rfl (by kernel_rfl) (by kernel_rfl) (by kernel_rfl) (fun _ _ _ h => h) (Or.inl ⟨by rfl, ?hyqc11⟩) hHeld ?restqc11
              case hyqc11 => (intro w hSw; go_simp; try with_reducible rfl)
              try simp only [Act.put, List.setIfInBounds_toArray, List.set_cons_zero, List.set_cons_succ]
              refine wpAnyH_take (i := 12) (oi := { dst := some 146, op := Op.move (Operand.tmp 145), type := 4, pos := "law.go:114", after := #[{ on := 11, ground := Ground.data }, { on := 10, ground := Ground.chain }], guard := none }) (v := ?vqc12) rfl (by kernel_rfl) (by kernel_rfl) (by kernel_rfl) (fun _ _ _ h => h) (Or.inl ⟨by rfl, ?hyqc12⟩) hHeld ?restqc12
              case hyqc12 => (intro w hSw; go_simp; try with_reducible rfl)
              try simp only [Act.put, List.setIfInBounds_toArray, List.set_cons_zero, List.set_cons_succ]
              refine wpAnyH_take (i := 13) (oi := { dst := some 147, op := Op.move (Operand.tmp 18), type := 28, pos := "law.go:114", after := #[{ on := 12, ground := Ground.guard }], guard := some (12, false) }) (v := ?vqc13) rfl (by kernel_rfl) (by kernel_rfl) (by kernel_rfl) (fun _ _ _ h => h) (Or.inl ⟨by rfl, ?hyqc13⟩) hHeld ?restqc13
              case hyqc13 => (intro w hSw; go_simp; try with_reducible rfl)
              try simp only [Act.put, List.setIfInBounds_toArray, List.set_cons_zero, List.set_cons_succ]
              refine wpAnyH_take (i := 14) (oi := { dst := some 148, op := Op.binOp BinOp.neq 28 (Operand.tmp 147) (Operand.const (Value.int IntKind.i64 0)) 28, type := 4, pos := "law.go:114", after := #[{ on := 13, ground := Ground.data }, { on := 12, ground := Ground.guard }], guard := some (12, false) }) (v := ?vqc14) rfl (by kernel_rfl) (by kernel_rfl) (by kernel_rfl) (fun _ _ _ h => h) (Or.inl ⟨by rfl, ?hyqc14⟩) hHeld ?restqc14
              case hyqc14 => (intro w hSw; go_simp; try with_reducible rfl)
              try simp only [Act.put, List.setIfInBounds_toArray, List.set_cons_zero, List.set_cons_succ]
              refine wpAnyH_take (i := 15) (oi := { dst := some 149, op := Op.pick (Operand.tmp 146) (Operand.const (Value.bool true)) (Operand.tmp 148), type := 4, pos := "law.go:114", after := #[{ on := 12, ground := Ground.data }, { on := 14, ground := Ground.data }], guard := none }) (v := ?vqc15) rfl (by kernel_rfl) (by kernel_rfl) (by kernel_rfl) (fun _ _ _ h => h) (Or.inl ⟨by rfl, ?hyqc15⟩) hHeld ?restqc15
              case hyqc15 => (intro w hSw; go_simp; try with_reducible rfl)
              try simp only [Act.put, List.setIfInBounds_toArray, List.set_cons_zero, List.set_cons_succ]
              refine wpAnyH_take (i := 16) (oi := { dst := some 150, op := Op.move (Operand.tmp 149), type := 4, pos := "law.go:114", after := #[{ on := 15, ground := Ground.data }, { on := 12, ground := Ground.chain }], guard := none }) (v := ?vqc16) rfl (by kernel_rfl) (by kernel_rfl) (by kernel_rfl) (fun _ _ _ h => h) (Or.inl ⟨by rfl, ?hyqc16⟩) hHeld ?restqc16
              case hyqc16 => (intro w hSw; go_simp; try with_reducible rfl)
              try simp only [Act.put, List.setIfInBounds_toArray, List.set_cons_zero, List.set_cons_succ]
              refine wpAnyH_take (i := 17) (oi := { dst := some 151, op := Op.load 109 (Operand.tmp 17), type := 109, pos := "law.go:114", after := #[{ on := 16, ground := Ground.guard }], guard := some (16, false) }) (v := _) rfl (by kernel_rfl) (by kernel_rfl) (by kernel_rfl) (fun _ _ _ h => h) (yields_rec rfl (.inl rfl) rfl rfl hnr (fun _ h => (HV.out _ h).2.2.2.2.2.1)) hHeld ?_
              try simp only [Act.put, List.setIfInBounds_toArray, List.set_cons_zero, List.set_cons_succ]
              refine wpAnyH_take (i := 18) (oi := { dst := some 152, op := Op.move (Operand.tmp 13), type := 115, pos := "law.go:114", after := #[{ on := 16, ground := Ground.guard }], guard := some (16, false) }) (v := ?vqc18) rfl (by kernel_rfl) (by kernel_rfl) (by kernel_rfl) (fun _ _ _ h => h) (Or.inl ⟨by rfl, ?hyqc18⟩) hHeld ?restqc18
              case hyqc18 => (intro w hSw; go_simp; try with_reducible rfl)
              try simp only [Act.put, List.setIfInBounds_toArray, List.set_cons_zero, List.set_cons_succ]
              refine wpAnyH_take (i := 19) (oi := { dst := some 153, op := Op.move (Operand.tmp 16), type := 3, pos := "law.go:114", after := #[{ on := 16, ground := Ground.guard }], guard := some (16, false) }) (v := ?vqc19) rfl (by kernel_rfl) (by kernel_rfl) (by kernel_rfl) (fun _ _ _ h => h) (Or.inl ⟨by rfl, ?hyqc19⟩) hHeld ?restqc19
              case hyqc19 => (intro w hSw; go_simp; try with_reducible rfl)
              try simp only [Act.put, List.setIfInBounds_toArray, List.set_cons_zero, List.set_cons_succ]
              refine wpAnyH_take (i := 20) (oi := { dst := some 154, op := Op.indexAddr 115 (Operand.tmp 152) (Operand.tmp 153), type := 0, pos := "law.go:114", after := #[{ on := 18, ground := Ground.data }, { on := 19, ground := Ground.data }, { on := 16, ground := Ground.guard }], guard := some (16, false) }) (v := ?vqc20) rfl (by kernel_rfl) (by kernel_rfl) (by kernel_rfl) (fun _ _ _ h => h) (Or.inl ⟨by rfl, ?hyqc20⟩) hHeld ?restqc20
              case hyqc20 => (intro w hSw; go_simp; try with_reducible rfl)
              try simp only [Act.put, List.setIfInBounds_toArray, List.set_cons_zero, List.set_cons_succ]
              refine wpAnyH_take (i := 21) (oi := { dst := some 155, op := Op.fieldAddr 134 (Operand.tmp 154) 2, type := 0, pos := "law.go:114", after := #[{ on := 20, ground := Ground.data }, { on := 16, ground := Ground.guard }], guard := some (16, false) }) (v := ?vqc21) rfl (by kernel_rfl) (by kernel_rfl) (by kernel_rfl) (fun _ _ _ h => h) (Or.inl ⟨by rfl, ?hyqc21⟩) hHeld ?restqc21
              case hyqc21 => (intro w hSw; go_simp; try with_reducible rfl)
              try simp only [Act.put, List.setIfInBounds_toArray, List.set_cons_zero, List.set_cons_succ]
              refine wpAnyH_take (i := 22) (oi := { dst := some 156, op := Op.load 109 (Operand.tmp 155), type := 109, pos := "law.go:114", after := #[{ on := 21, ground := Ground.data }, { on := 16, ground := Ground.guard }], guard := some (16, false) }) (v := _) rfl (by kernel_rfl) (by kernel_rfl) (by kernel_rfl) (fun _ _ _ h => h) (yields_mid rfl (.inl rfl) rfl rfl hnr (fun _ h => (HV.out _ h).2.2.1)) hHeld ?_
              try simp only [Act.put, List.setIfInBounds_toArray, List.set_cons_zero, List.set_cons_succ]
              refine wpAnyH_ready (rs := [23]) (by kernel_rfl) (by simp) ?_
              refine AllReadyH.cons (o := { dst := some 157, op := Op.call { callee := Callee.value (Operand.func 78), args := #[Operand.tmp 151, Operand.tmp 156], argTypes := #[109, 109] }, type := 4, pos := "law.go:114", after := #[{ on := 17, ground := Ground.data }, { on := 22, ground := Ground.data }, { on := 16, ground := Ground.chain }, { on := 16, ground := Ground.guard }], guard := some (16, false) }) rfl (fun K hK => ?_) AllReadyH.nil
              go_simp
              refine (fsame_any _ AnyB AnyB r.k r.k r.nm r.nm A3 B r.bs.length c3 r.bs.length dd r.bs r.bs hnr hnr (HV.out _ hHeld).2.2.2.2.2.2.2.2 (HV.out _ hHeld).2.2.2.2.2.2.1).mono ?_; rintro e w23 ⟨rfl, hb23⟩; rw [decide_eq_true (show (r.k = r.k ∧ r.nm = r.nm ∧ r.bs = r.bs) from ⟨rfl, rfl, rfl⟩)]
              refine hK.out _ _ (held_next hHeld hb23) (fun hHeld => ?_)
              clear hK K
              try simp only [Act.put, List.setIfInBounds_toArray, List.set_cons_zero, List.set_cons_succ]
              refine wpAnyH_take (i := 24) (oi := { dst := some 158, op := Op.unOp UnOp.not 4 (Operand.tmp 157), type := 4, pos := "law.go:114", after := #[{ on := 23, ground := Ground.data }, { on := 16, ground := Ground.guard }], guard := some (16, false) }) (v := ?vqc24) rfl (by kernel_rfl) (by kernel_rfl) (by kernel_rfl) (fun _ _ _ h => h) (Or.inl ⟨by rfl, ?hyqc24⟩) hHeld ?restqc24
              case hyqc24 => (intro w hSw; go_simp; try with_reducible rfl)
              try simp only [Act.put, List.setIfInBounds_toArray, List.set_cons_zero, List.set_cons_succ]
              refine wpAnyH_take (i := 25) (oi := { dst := some 159, op := Op.pick (Operand.tmp 150) (Operand.const (Value.bool true)) (Operand.tmp 158), type := 4, pos := "law.go:114", after := #[{ on := 16, ground := Ground.data }, { on := 24, ground := Ground.data }], guard := none }) (v := ?vqc25) rfl (by kernel_rfl) (by kernel_rfl) (by kernel_rfl) (fun _ _ _ h => h) (Or.inl ⟨by rfl, ?hyqc25⟩) hHeld ?restqc25
              case hyqc25 => (intro w hSw; go_simp; try with_reducible rfl)
              try simp only [Act.put, List.setIfInBounds_toArray, List.set_cons_zero, List.set_cons_succ]
              refine wpAnyH_take (i := 26) (oi := { dst := some 160, op := Op.move (Operand.tmp 159), type := 4, pos := "law.go:114", after := #[{ on := 25, ground := Ground.data }, { on := 23, ground := Ground.chain }], guard := none }) (v := ?vqc26) rfl (by kernel_rfl) (by kernel_rfl) (by kernel_rfl) (fun _ _ _ h => h) (Or.inl ⟨by rfl, ?hyqc26⟩) hHeld ?restqc26
              case hyqc26 => (intro w hSw; go_simp; try with_reducible rfl)
              try simp only [Act.put, List.setIfInBounds_toArray, List.set_cons_zero, List.set_cons_succ]
              refine wpAnyH_take (i := 27) (oi := { dst := some 161, op := Op.move (Operand.tmp 13), type := 115, pos := "law.go:114", after := #[{ on := 26, ground := Ground.guard }], guard := some (26, false) }) (v := ?vqc27) rfl (by kernel_rfl) (by kernel_rfl) (by kernel_rfl) (fun _ _ _ h => h) (Or.inl ⟨by rfl, ?hyqc27⟩) hHeld ?restqc27
              case hyqc27 => (intro w hSw; go_simp; try with_reducible rfl)
              try simp only [Act.put, List.setIfInBounds_toArray, List.set_cons_zero, List.set_cons_succ]
              refine wpAnyH_take (i := 28) (oi := { dst := some 162, op := Op.move (Operand.tmp 16), type := 3, pos := "law.go:114", after := #[{ on := 26, ground := Ground.guard }], guard := some (26, false) }) (v := ?vqc28) rfl (by kernel_rfl) (by kernel_rfl) (by kernel_rfl) (fun _ _ _ h => h) (Or.inl ⟨by rfl, ?hyqc28⟩) hHeld ?restqc28
              case hyqc28 => (intro w hSw; go_simp; try with_reducible rfl)
              try simp only [Act.put, List.setIfInBounds_toArray, List.set_cons_zero, List.set_cons_succ]
              refine wpAnyH_take (i := 29) (oi := { dst := some 163, op := Op.indexAddr 115 (Operand.tmp 161) (Operand.tmp 162), type := 0, pos := "law.go:114", after := #[{ on := 27, ground := Ground.data }, { on := 28, ground := Ground.data }, { on := 26, ground := Ground.guard }], guard := some (26, false) }) (v := ?vqc29) rfl (by kernel_rfl) (by kernel_rfl) (by kernel_rfl) (fun _ _ _ h => h) (Or.inl ⟨by rfl, ?hyqc29⟩) hHeld ?restqc29
              case hyqc29 => (intro w hSw; go_simp; try with_reducible rfl)
              try simp only [Act.put, List.setIfInBounds_toArray, List.set_cons_zero, List.set_cons_succ]
              refine wpAnyH_take (i := 30) (oi := { dst := some 164, op := Op.fieldAddr 134 (Operand.tmp 163) 0, type := 0, pos := "law.go:114", after := #[{ on := 29, ground := Ground.data }, { on := 26, ground := Ground.guard }], guard := some (26, false) }) (v := ?vqc30) rfl (by kernel_rfl) (by kernel_rfl) (by kernel_rfl) (fun _ _ _ h => h) (Or.inl ⟨by rfl, ?hyqc30⟩) hHeld ?restqc30
              case hyqc30 => (intro w hSw; go_simp; try with_reducible rfl)
              try simp only [Act.put, List.setIfInBounds_toArray, List.set_cons_zero, List.set_cons_succ]
              refine wpAnyH_take (i := 31) (oi := { dst := some 165, op := Op.load 3 (Operand.tmp 164), type := 3, pos := "law.go:114", after := #[{ on := 30, ground := Ground.data }, { on := 26, ground := Ground.guard }], guard := some (26, false) }) (v := ?vqc31) rfl (by kernel_rfl) (by kernel_rfl) (by kernel_rfl) (fun _ _ _ h => h) (Or.inl ⟨by rfl, ?hyqc31⟩) hHeld ?restqc31
              case hyqc31 => (intro w hSw; obtain ⟨p1, p2, -, -, p5, -⟩ := HV.out w hSw; go_simp; try with_reducible rfl)
              try simp only [Act.put, List.setIfInBounds_toArray, List.set_cons_zero, List.set_cons_succ]
              refine wpAnyH_take (i := 32) (oi := { dst := some 166, op := Op.move (Operand.tmp 13), type := 115, pos := "law.go:114", after := #[{ on := 26, ground := Ground.guard }], guard := some (26, false) }) (v := ?vqc32) rfl (by kernel_rfl) (by kernel_rfl) (by kernel_rfl) (fun _ _ _ h => h) (Or.inl ⟨by rfl, ?hyqc32⟩) hHeld ?restqc32
              case hyqc32 => (intro w hSw; go_simp; try with_reducible rfl)
              try simp only [Act.put, List.setIfInBounds_toArray, List.set_cons_zero, List.set_cons_succ]
              refine wpAnyH_take (i := 33) (oi := { dst := some 167, op := Op.move (Operand.tmp 16), type := 3, pos := "law.go:114", after := #[{ on := 26, ground := Ground.guard }], guard := some (26, false) }) (v := ?vqc33) rfl (by kernel_rfl) (by kernel_rfl) (by kernel_rfl) (fun _ _ _ h => h) (Or.inl ⟨by rfl, ?hyqc33⟩) hHeld ?restqc33
              case hyqc33 => (intro w hSw; go_simp; try with_reducible rfl)
              try simp only [Act.put, List.setIfInBounds_toArray, List.set_cons_zero, List.set_cons_succ]
              refine wpAnyH_take (i := 34) (oi := { dst := some 168, op := Op.indexAddr 115 (Operand.tmp 166) (Operand.tmp 167), type := 0, pos := "law.go:114", after := #[{ on := 32, ground := Ground.data }, { on := 33, ground := Ground.data }, { on := 26, ground := Ground.guard }], guard := some (26, false) }) (v := ?vqc34) rfl (by kernel_rfl) (by kernel_rfl) (by kernel_rfl) (fun _ _ _ h => h) (Or.inl ⟨by rfl, ?hyqc34⟩) hHeld ?restqc34
              case hyqc34 => (intro w hSw; go_simp; try with_reducible rfl)
              try simp only [Act.put, List.setIfInBounds_toArray, List.set_cons_zero, List.set_cons_succ]
              refine wpAnyH_take (i := 35) (oi := { dst := some 169, op := Op.fieldAddr 134 (Operand.tmp 168) 1, type := 0, pos := "law.go:114", after := #[{ on := 34, ground := Ground.data }, { on := 26, ground := Ground.guard }], guard := some (26, false) }) (v := ?vqc35) rfl (by kernel_rfl) (by kernel_rfl) (by kernel_rfl) (fun _ _ _ h => h) (Or.inl ⟨by rfl, ?hyqc35⟩) hHeld ?restqc35
              case hyqc35 => (intro w hSw; go_simp; try with_reducible rfl)
              try simp only [Act.put, List.setIfInBounds_toArray, List.set_cons_zero, List.set_cons_succ]
              refine wpAnyH_take (i := 36) (oi := { dst := some 170, op := Op.load 3 (Operand.tmp 169), type := 3, pos := "law.go:114", after := #[{ on := 35, ground := Ground.data }, { on := 26, ground := Ground.guard }], guard := some (26, false) }) (v := ?vqc36) rfl (by kernel_rfl) (by kernel_rfl) (by kernel_rfl) (fun _ _ _ h => h) (Or.inl ⟨by rfl, ?hyqc36⟩) hHeld ?restqc36
              case hyqc36 => (intro w hSw; obtain ⟨p1, p2, -, -, p5, -⟩ := HV.out w hSw; go_simp; try with_reducible rfl)
              try simp only [Act.put, List.setIfInBounds_toArray, List.set_cons_zero, List.set_cons_succ]
              refine wpAnyH_take (i := 37) (oi := { dst := some 171, op := Op.binOp BinOp.add 3 (Operand.tmp 165) (Operand.tmp 170) 3, type := 3, pos := "law.go:114", after := #[{ on := 31, ground := Ground.data }, { on := 36, ground := Ground.data }, { on := 26, ground := Ground.guard }], guard := some (26, false) }) (v := ?vqc37) rfl (by kernel_rfl) (by kernel_rfl) (by kernel_rfl) (fun _ _ _ h => h) (Or.inl ⟨by rfl, ?hyqc37⟩) hHeld ?restqc37
              case hyqc37 => (intro w hSw; go_simp; try with_reducible rfl)
              try simp only [Act.put, List.setIfInBounds_toArray, List.set_cons_zero, List.set_cons_succ]
              refine wpAnyH_take (i := 38) (oi := { dst := some 172, op := Op.move (Operand.tmp 7), type := 76, pos := "law.go:114", after := #[{ on := 26, ground := Ground.guard }], guard := some (26, false) }) (v := ?vqc38) rfl (by kernel_rfl) (by kernel_rfl) (by kernel_rfl) (fun _ _ _ h => h) (Or.inl ⟨by rfl, ?hyqc38⟩) hHeld ?restqc38
              case hyqc38 => (intro w hSw; go_simp; try with_reducible rfl)
              try simp only [Act.put, List.setIfInBounds_toArray, List.set_cons_zero, List.set_cons_succ]
              refine wpAnyH_take (i := 39) (oi := { dst := some 173, op := Op.move (Operand.tmp 16), type := 3, pos := "law.go:114", after := #[{ on := 26, ground := Ground.guard }], guard := some (26, false) }) (v := ?vqc39) rfl (by kernel_rfl) (by kernel_rfl) (by kernel_rfl) (fun _ _ _ h => h) (Or.inl ⟨by rfl, ?hyqc39⟩) hHeld ?restqc39
              case hyqc39 => (intro w hSw; go_simp; try with_reducible rfl)
              try simp only [Act.put, List.setIfInBounds_toArray, List.set_cons_zero, List.set_cons_succ]
              refine wpAnyH_take (i := 40) (oi := { dst := some 174, op := Op.indexAddr 76 (Operand.tmp 172) (Operand.tmp 173), type := 0, pos := "law.go:114", after := #[{ on := 38, ground := Ground.data }, { on := 39, ground := Ground.data }, { on := 26, ground := Ground.guard }], guard := some (26, false) }) (v := ?vqc40) rfl (by kernel_rfl) (by kernel_rfl) (by kernel_rfl) (fun _ _ _ h => h) (Or.inl ⟨by rfl, ?hyqc40⟩) hHeld ?restqc40
              case hyqc40 => (intro w hSw; go_simp; try with_reducible rfl)
              try simp only [Act.put, List.setIfInBounds_toArray, List.set_cons_zero, List.set_cons_succ]
              refine wpAnyH_take (i := 41) (oi := { dst := some 175, op := Op.load 3 (Operand.tmp 174), type := 3, pos := "law.go:114", after := #[{ on := 40, ground := Ground.data }, { on := 26, ground := Ground.guard }], guard := some (26, false) }) (v := ?vqc41) rfl (by kernel_rfl) (by kernel_rfl) (by kernel_rfl) (fun _ _ _ h => h) (Or.inl ⟨by rfl, ?hyqc41⟩) hHeld ?restqc41
              case hyqc41 => (intro w hSw; obtain ⟨p1, p2, -, -, p5, -⟩ := HV.out w hSw; go_simp; try with_reducible rfl)
              try simp only [Act.put, List.setIfInBounds_toArray, List.set_cons_zero, List.set_cons_succ]
              refine wpAnyH_take (i := 42) (oi := { dst := some 176, op := Op.binOp BinOp.neq 3 (Operand.tmp 171) (Operand.tmp 175) 3, type := 4, pos := "law.go:114", after := #[{ on := 37, ground := Ground.data }, { on := 41, ground := Ground.data }, { on := 26, ground := Ground.guard }], guard := some (26, false) }) (v := ?vqc42) rfl (by kernel_rfl) (by kernel_rfl) (by kernel_rfl) (fun _ _ _ h => h) (Or.inl ⟨by rfl, ?hyqc42⟩) hHeld ?restqc42
              case hyqc42 => (intro w hSw; go_simp; try with_reducible rfl)
              try simp only [Act.put, List.setIfInBounds_toArray, List.set_cons_zero, List.set_cons_succ]
              refine wpAnyH_take (i := 43) (oi := { dst := some 177, op := Op.pick (Operand.tmp 160) (Operand.const (Value.bool true)) (Operand.tmp 176), type := 4, pos := "law.go:114", after := #[{ on := 26, ground := Ground.data }, { on := 42, ground := Ground.data }], guard := none }) (v := ?vqc43) rfl (by kernel_rfl) (by kernel_rfl) (by kernel_rfl) (fun _ _ _ h => h) (Or.inl ⟨by rfl, ?hyqc43⟩) hHeld ?restqc43
              case hyqc43 => (intro w hSw; go_simp; try with_reducible rfl)
              try simp only [Act.put, List.setIfInBounds_toArray, List.set_cons_zero, List.set_cons_succ]
              refine wpAnyH_done (by kernel_rfl) ?_ _
              have HT10 := Lib.hid (And.intro (HT9.out.1.below hHeld.out) (And.intro (HT9.out.2.1.after hHeld.out) (HT9.out.2.2.1.after hHeld.out)))
              clear hHeld
              go_wp2_with fail
              go_roundw
              case rel => exact ⟨i2 + 1, by omega, by go_num, Lib.hid ⟨d8, HT10.out.1, by omega, by omega, HT10.out.2.1, HT10.out.2.2⟩⟩
              case measure => simp [intOf]; omega
            · obtain rfl : i2 = m := by omega
              obtain ⟨d2, htr2, -⟩ := HR2.out
              have HN9 := Lib.hid htr2.on
              clear htr2
              go_wp2_with fail
              refine (falive_any wr).mono ?_
              rintro e w9 ⟨rfl, hb9⟩
              have HF := Lib.hid (HN9.out.below hb9).bel
              clear hb9
              go_wp2_with fail
              go_ret
              exact ⟨rfl, HF.out⟩
        · clear hcut
          go_wp2_with fail
          have HSC := Lib.hid (scan_frames (ws.take m) [] (fun q hq => HTR.out.2.2.1 q (List.mem_of_mem_take hq)) (.inl rfl))
          have hE0 : (flatR (ws.take m)).length + ([] : List UInt8).length = La := by have h := HBB.out.len; rwa [List.length_append] at h
          refine (fscan_any wr g d _ Aa La ca _ HTR.out.1.on.tab ⟨hd0, by omega⟩ HBB.out (fun j hj _ => by omega) (by omega)).mono ?_
          rintro e w6 ⟨A6, c6, rfl, hp6, hG6, d6, ht6, hd6, hd6'⟩
          have HT6 := Lib.hid (HTR.out.1.turn ht6 hG6)
          have HB6 := Lib.hid (HBB.out.keep (S' := fun j => w1.heap.size ≤ j) (fun p hp hlt => World.cell?_of_block (hG6.block p.block hlt (fun e => by injection e with e; have hp' : w1.heap.size ≤ p.block := hp; omega))) (fun _ h _ => h))
          rw [HSC.out.1] at hp6 ⊢
          rw [HSC.out.2, pls_end, pls_len, List.length_take_of_le (by have := HTR.out.2.2.2.1; omega)]
          rw [pls_len, List.length_take_of_le (by have := HTR.out.2.2.2.1; omega)] at hp6
          have HP6 := Lib.hid (hp6.keepC (S' := fun j => w1.heap.size ≤ j) (fun _ _ _ hu => hu) (fun j hj _ => Nat.le_trans HTR.out.1.base.2 hj))
          have hd6a : 0 ≤ d6 ∧ d6 ≤ 500000 := by omega
          obtain ⟨E0, hE⟩ : ∃ E0, E0 = (flatR (ws.take m)).length := ⟨_, rfl⟩
          rw [← hE] at hE0 ⊢
          have hEL : E0 = La := by simpa using hE0
          rw [hEL]
          rw [if_pos rfl]
          have HES := Lib.hid hE
          clear ht6 hG6 hp6 hE
          go_wp2_with fail
          have hWm : m ≤ m := by omega
          obtain ⟨wo, hwo⟩ : ∃ wo, wo = wr := ⟨_, rfl⟩
          subst hwo
          go_loopw [16] (fun v16 wr2 => ∃ i2 : Nat, i2 ≤ m ∧ v16 = .int .i64 (i2 : Int) ∧ Hid (∃ d2, TR w' w1.heap.size g d2 wr2 (.slice Aa La ca) (.slice Ae m ce) (.slice Aw m cw) (flatR ws) (endsL ws) qs ∧ 0 ≤ d2 ∧ d2 ≤ 500000 + 110000 * (i2 : Int) ∧ PQ wr2 (fun j => w1.heap.size ≤ j) A6 m c6 (pls (ws.take m) 0) ∧ Bs wr2 (fun j => w1.heap.size ≤ j) Aa La ca (flatR (ws.take m) ++ []))) (fun v16 _ => m - (intOf v16).toNat)
          case atStart => exact ⟨0, by omega, rfl, Lib.hid ⟨d6, HT6.out, by omega, by omega, HP6.out, HB6.out⟩⟩
          case round =>
            obtain ⟨i2, hi2, rfl, HR2⟩ := hrel
            by_cases hl2 : i2 < m
            · have hl2' : (i2 : Int) < (m : Int) := by omega
              have hl2m : (i2 : Int) < (m : Int) := by omega
              obtain ⟨d2, htr2, hd20, hd21, hpq2, hbs2⟩ := HR2.out
              obtain ⟨r, hr⟩ : ∃ r, ws[i2]? = some r := ⟨_, List.getElem?_eq_getElem (by have := HTR.out.2.2.2.1; omega)⟩
              have hok := HTR.out.2.2.1 r (List.mem_of_getElem? hr)
              obtain ⟨hzl, hfr, hpl⟩ := frame_at (W := m) (t := []) hr hl2 hok
              have hwl : (flatR (ws.take m)).length ≤ La := by rw [← HBB.out.len, List.length_append]; omega
              have hfl := frOf_len r
              have hfle := frOf_le hok
              have hel : (endsL ws).length = m := by unfold endsL; simp; exact HTR.out.2.2.2.1
              obtain ⟨be, hbe, hbeg, hce⟩ := own_int (hel ▸ htr2.end_) (show i2 < m by omega) (endsL_at (by have := HTR.out.2.2.2.1; omega))
              have hql : qs.length = m := by have h := congrArg List.length HTR.out.2.1; rw [List.length_map, HTR.out.2.2.2.1] at h; exact h
              obtain ⟨bw, Bw, dw, hbw, hbwg, hcw, hbsw⟩ := (hql ▸ htr2.wnt : QO wr (Lo w'.heap.size) w1.heap.size (.slice Aw m cw) m qs).at_ HTR.out.2.1 hr
              obtain ⟨ad, x, B, dd, rp, had, hsb, hrp, hxe, hc, hb⟩ := hpq2.at_ i2 hl2
              have hrp' := hrp.out.1.symm.trans hpl
              injection hrp' with hrp'
              subst hrp'
              obtain ⟨Z, hZ⟩ : ∃ Z, Z = (flatR (ws.take i2)).length := ⟨_, rfl⟩
              obtain ⟨LF, hLF⟩ : ∃ LF, LF = (frOf r).length := ⟨_, rfl⟩
              have hEN : (flatR (ws.take (i2 + 1))).length = Z + LF := by rw [flatR_take hr, List.length_append, hZ, hLF]
              rw [hEN] at hce
              rw [← hZ, ← hLF] at hfr hc
              rw [← hZ, ← hLF] at hzl
              rw [← hLF] at hfl hfle
              have hkn : ((r.k.toNat : Nat) : Int) = r.k := by have := hok.1; omega
              subst had
              have hxg : g < x.block := by rw [← hxe, block_of_add]; have hsb' : w1.heap.size ≤ ad.block := hsb; omega
              have hnr := r.hn
              have hb5 := hok.2.2
              obtain rfl := hbe
              obtain rfl := hbw
              have HQ2 := Lib.hid (And.intro htr2 (And.intro hd20 (And.intro hd21 (And.intro hpq2 (And.intro hbs2 (And.intro hce (And.intro hcw (And.intro hbsw (And.intro hc.out (And.intro hb hfr))))))))))
              obtain ⟨x0, -, -⟩ := PQ.cells (r := ⟨Z, LF, r.k.toNat, r.nm, r.bs⟩) hc.out
              clear HR2 htr2 hpq2 hbs2 hr hpl hce hcw hbsw hrp hc hb hfr hZ hLF hEN hel hql hsb
              go_wp2_with fail
              refine (fat_any wr g d2 (fun j => w1.heap.size ≤ j) Aa La ca Z _ HQ2.out.1.on.tab ⟨by omega, by omega⟩ HQ2.out.2.2.2.2.1 (fun j hj _ => by have hj' : w1.heap.size ≤ j := hj; omega) (by omega) (by omega)).mono ?_
              intro e w8 he
              obtain ⟨K3, nm3, b3, m3, f3, rfl, hnm3, -, hr3, d8, ht8, hd8, hd8', hG8⟩ := he
              rw [HQ2.out.2.2.2.2.2.2.2.2.2.2] at hr3
              obtain ⟨A3, c3, hK, hN, hB, -, hf, hb3⟩ := hr3
              subst hK hN hB hf
              have HT8 := Lib.hid (And.intro (HQ2.out.1.turn ht8 hG8) (And.intro (HQ2.out.2.2.2.1.keepC (S' := fun j => w1.heap.size ≤ j) (fun p u hp hu => (World.cell?_of_block (hG8.block p.block (World.block_lt_of_cell? _ _ hu) (fun e => by injection e with e; have hp' : w1.heap.size ≤ p.block := hp; omega))).trans hu) (fun _ h _ => h)) (And.intro (HQ2.out.2.2.2.2.1.keepC (S' := fun j => w1.heap.size ≤ j) (fun p u hp hu => (World.cell?_of_block (hG8.block p.block (World.block_lt_of_cell? _ _ hu) (fun e => by injection e with e; have hp' : w1.heap.size ≤ p.block := hp; omega))).trans hu) (fun _ h _ => h)) hb3)))
              have HG8 : Hid (∀ (p : Addr) u, p.block ≠ g → wr.cell? p = some u → w8.cell? p = some u) := Lib.hid fun p u hp hu => (World.cell?_of_block (hG8.block p.block (World.block_lt_of_cell? _ _ hu) (fun e => by injection e with e; exact hp e))).trans hu
              clear ht8 hG8 hb3 x0
              go_wp2_with (first | (with_reducible show wpList Try.prog _ _ ({ dst := none, op := Op.store 109 (Operand.tmp 17) (Operand.tmp 132), type := _, pos := _, after := _, guard := none } :: _) _ _; refine wl_storeK rfl (.tmp 17) (.tmp 132) 109 rfl (.inl rfl) rfl rfl (Blk.new _ _ _) rfl hnr rfl ?_; intro w9 hb9 hf9 hk9; go_must ((have h89 : Below w8.heap.size w8 w9 := ((Below.refl _ w8).alloc (Nat.le_refl _) _).trans (hf9 _ (Nat.le_refl _)); have HT9 := Lib.hid (And.intro (HT8.out.1.below h89) (And.intro (HT8.out.2.1.after h89) (And.intro (HT8.out.2.2.1.after h89) (And.intro (HT8.out.2.2.2.after h89) (And.intro hb9 h89))))))); clear hb9 hf9 hk9 h89))
              have hwr2 : IntKind.i64.wrap ((Z : Int) + (LF : Int)) = ((Z + LF : Nat) : Int) := by unfold IntKind.wrap; simp [IntKind.bits, IntKind.signed]; omega
              have HV : Hid (∀ W, Hid (Below w9.heap.size w9 W) → W.cell? x = some (.int .i64 (Z : Int)) ∧ W.cell? ⟨x.block, x.off + 1, none⟩ = some (.int .i64 (LF : Int)) ∧ W.rangeAt x.block (x.off + 2) (RC r.k r.nm (.slice B r.bs.length dd)).toList ∧ (∀ j v, (RC r.k r.nm (.slice Bw r.bs.length dw))[j]? = some v → W.cell? ((⟨bw, i2 * 34, none⟩ : Addr).add j) = some v) ∧ W.cell? ⟨be, i2, none⟩ = some (.int .i64 ((Z + LF : Nat) : Int)) ∧ Blk W w8.heap.size 109 (RC r.k r.nm (.slice A3 r.bs.length c3)) ∧ Bs W AnyB B r.bs.length dd r.bs ∧ Bs W AnyB Bw r.bs.length dw r.bs ∧ Bs W AnyB A3 r.bs.length c3 r.bs) := Lib.hid fun W hW => by
                have mv : ∀ (p : Addr) u, p.block ≠ g → wr.cell? p = some u → W.cell? p = some u := fun p u hp hu => by
                  have h8 := HG8.out p u hp hu
                  have h9 := (HT9.out.2.2.2.2.2.cell (World.block_lt_of_cell? _ _ h8)).trans h8
                  exact (hW.out.cell (World.block_lt_of_cell? _ _ h9)).trans h9
                obtain ⟨p1, p2, p3⟩ := PQ.cells (r := ⟨Z, LF, r.k.toNat, r.nm, r.bs⟩) HQ2.out.2.2.2.2.2.2.2.2.1
                simp only [hkn] at p3
                have hgn := HN1.out.new
                exact ⟨mv _ _ (by omega) p1, mv _ _ (by show x.block ≠ g; omega) p2, fun j v hv => mv _ _ (by show x.block ≠ g; omega) (p3 j v hv), fun j v hv => by rw [Addr.add_mid]; exact mv _ _ (by show bw ≠ g; omega) (HQ2.out.2.2.2.2.2.2.1 j v hv), mv _ _ (by show be ≠ g; omega) HQ2.out.2.2.2.2.2.1, HT9.out.2.2.2.2.1.after hW.out, HQ2.out.2.2.2.2.2.2.2.2.2.1.keepC (fun p u hp hu => mv p u (by have hp' : w1.heap.size ≤ p.block := hp; omega) hu) (fun _ _ _ => trivial), HQ2.out.2.2.2.2.2.2.2.1.keepC (fun p u hp hu => mv p u (by have hp' : p.block < w'.heap.size := hp; omega) hu) (fun _ _ _ => trivial), (HT9.out.2.2.2.1.after hW.out).any⟩
              refine wp_region_held_drew (S := fun w' => Hid (Below w9.heap.size w9 w')) (by kernel_rfl) (Lib.hid ((Below.refl _ _).drew)) (fun hHeld => ?_)
              refine wpAnyH_take (i := 0) (oi := { dst := some 134, op := Op.move (Operand.tmp 13), type := 115, pos := "law.go:114", after := #[], guard := none }) (v := ?vqd0) rfl (by kernel_rfl) (by kernel_rfl) (by kernel_rfl) (fun _ _ _ h => h) (Or.inl ⟨by rfl, ?hyqd0⟩) hHeld ?restqd0
              case hyqd0 => (intro w hSw; go_simp; try with_reducible rfl)
              try simp only [Act.put, List.setIfInBounds_toArray, List.set_cons_zero, List.set_cons_succ]
              refine wpAnyH_take (i := 1) (oi := { dst := some 135, op := Op.move (Operand.tmp 16), type := 3, pos := "law.go:114", after := #[], guard := none }) (v := ?vqd1) rfl (by kernel_rfl) (by kernel_rfl) (by kernel_rfl) (fun _ _ _ h => h) (Or.inl ⟨by rfl, ?hyqd1⟩) hHeld ?restqd1
              case hyqd1 => (intro w hSw; go_simp; try with_reducible rfl)
              try simp only [Act.put, List.setIfInBounds_toArray, List.set_cons_zero, List.set_cons_succ]
              refine wpAnyH_take (i := 2) (oi := { dst := some 136, op := Op.indexAddr 115 (Operand.tmp 134) (Operand.tmp 135), type := 0, pos := "law.go:114", after := #[{ on := 0, ground := Ground.data }, { on := 1, ground := Ground.data }], guard := none }) (v := ?vqd2) rfl (by kernel_rfl) (by kernel_rfl) (by kernel_rfl) (fun _ _ _ h => h) (Or.inl ⟨by rfl, ?hyqd2⟩) hHeld ?restqd2
              case hyqd2 => (intro w hSw; go_simp; try with_reducible rfl)
              try simp only [Act.put, List.setIfInBounds_toArray, List.set_cons_zero, List.set_cons_succ]
              refine wpAnyH_take (i := 3) (oi := { dst := some 137, op := Op.fieldAddr 134 (Operand.tmp 136) 2, type := 0, pos := "law.go:114", after := #[{ on := 2, ground := Ground.data }], guard := none }) (v := ?vqd3) rfl (by kernel_rfl) (by kernel_rfl) (by kernel_rfl) (fun _ _ _ h => h) (Or.inl ⟨by rfl, ?hyqd3⟩) hHeld ?restqd3
              case hyqd3 => (intro w hSw; go_simp; try with_reducible rfl)
              try simp only [Act.put, List.setIfInBounds_toArray, List.set_cons_zero, List.set_cons_succ]
              refine wpAnyH_take (i := 4) (oi := { dst := some 138, op := Op.load 109 (Operand.tmp 137), type := 109, pos := "law.go:114", after := #[{ on := 3, ground := Ground.data }], guard := none }) (v := _) rfl (by kernel_rfl) (by kernel_rfl) (by kernel_rfl) (fun _ _ _ h => h) (yields_mid rfl (.inl rfl) rfl rfl hnr (fun _ h => (HV.out _ h).2.2.1)) hHeld ?_
              try simp only [Act.put, List.setIfInBounds_toArray, List.set_cons_zero, List.set_cons_succ]
              refine wpAnyH_take (i := 6) (oi := { dst := some 140, op := Op.move (Operand.tmp 8), type := 129, pos := "law.go:114", after := #[], guard := none }) (v := ?vqd6) rfl (by kernel_rfl) (by kernel_rfl) (by kernel_rfl) (fun _ _ _ h => h) (Or.inl ⟨by rfl, ?hyqd6⟩) hHeld ?restqd6
              case hyqd6 => (intro w hSw; go_simp; try with_reducible rfl)
              try simp only [Act.put, List.setIfInBounds_toArray, List.set_cons_zero, List.set_cons_succ]
              refine wpAnyH_take (i := 7) (oi := { dst := some 141, op := Op.move (Operand.tmp 16), type := 3, pos := "law.go:114", after := #[], guard := none }) (v := ?vqd7) rfl (by kernel_rfl) (by kernel_rfl) (by kernel_rfl) (fun _ _ _ h => h) (Or.inl ⟨by rfl, ?hyqd7⟩) hHeld ?restqd7
              case hyqd7 => (intro w hSw; go_simp; try with_reducible rfl)
              try simp only [Act.put, List.setIfInBounds_toArray, List.set_cons_zero, List.set_cons_succ]
              refine wpAnyH_take (i := 8) (oi := { dst := some 142, op := Op.indexAddr 129 (Operand.tmp 140) (Operand.tmp 141), type := 0, pos := "law.go:114", after := #[{ on := 6, ground := Ground.data }, { on := 7, ground := Ground.data }], guard := none }) (v := ?vqd8) rfl (by kernel_rfl) (by kernel_rfl) (by kernel_rfl) (fun _ _ _ h => h) (Or.inl ⟨by rfl, ?hyqd8⟩) hHeld ?restqd8
              case hyqd8 => (intro w hSw; go_simp; try with_reducible rfl)
              try simp only [Act.put, List.setIfInBounds_toArray, List.set_cons_zero, List.set_cons_succ]
              refine wpAnyH_take (i := 9) (oi := { dst := some 143, op := Op.load 112 (Operand.tmp 142), type := 112, pos := "law.go:114", after := #[{ on := 8, ground := Ground.data }], guard := none }) (v := _) rfl (by kernel_rfl) (by kernel_rfl) (by kernel_rfl) (fun _ _ _ h => h) (yields_at rfl (.inr rfl) rfl rfl hnr (fun _ h => (HV.out _ h).2.2.2.1)) hHeld ?_
              try simp only [Act.put, List.setIfInBounds_toArray, List.set_cons_zero, List.set_cons_succ]
              refine wpAnyH_ready (rs := [5]) (by kernel_rfl) (by simp) ?_
              refine AllReadyH.cons (o := { dst := some 139, op := Op.call { callee := Callee.value (Operand.func 71), args := #[Operand.tmp 138], argTypes := #[109] }, type := 112, pos := "law.go:114", after := #[{ on := 4, ground := Ground.data }], guard := none }) rfl (fun K hK => ?_) AllReadyH.nil
              go_simp
              refine (fback_any _ r.k r.nm B r.bs.length dd hnr).mono ?_; rintro e w5 ⟨rfl, hb5⟩
              refine hK.out _ _ (held_next hHeld hb5) (fun hHeld => ?_)
              clear hK K
              try simp only [Act.put, List.setIfInBounds_toArray, List.set_cons_zero, List.set_cons_succ]
              refine wpAnyH_ready (rs := [10]) (by kernel_rfl) (by simp) ?_
              refine AllReadyH.cons (o := { dst := some 144, op := Op.call { callee := Callee.value (Operand.func 70), args := #[Operand.tmp 139, Operand.tmp 143], argTypes := #[112, 112] }, type := 4, pos := "law.go:114", after := #[{ on := 5, ground := Ground.data }, { on := 9, ground := Ground.data }, { on := 5, ground := Ground.chain }], guard := none }) rfl (fun K hK => ?_) AllReadyH.nil
              go_simp
              refine (frsame_any _ AnyB AnyB r.k r.k r.nm r.nm B Bw r.bs.length dd r.bs.length dw r.bs r.bs hnr hnr (HV.out _ hHeld).2.2.2.2.2.2.1 (HV.out _ hHeld).2.2.2.2.2.2.2.1 (by omega) (by omega)).mono ?_; rintro e w10 ⟨rfl, hb10⟩; rw [decide_eq_true (show (r.k = r.k ∧ r.nm = r.nm ∧ r.bs = r.bs) from ⟨rfl, rfl, rfl⟩)]
              refine hK.out _ _ (held_next hHeld hb10) (fun hHeld => ?_)
              clear hK K
              try simp only [Act.put, List.setIfInBounds_toArray, List.set_cons_zero, List.set_cons_succ]
              refine wpAnyH_take (i := 11) (oi := { dst := some 145, op := Op.unOp UnOp.not 4 (Operand.tmp 144), type := 4, pos := "law.go:114", after := #[{ on := 10, ground := Ground.data }], guard := none }) (v := ?vqd11) rfl (by kernel_rfl) (by kernel_rfl) (by kernel_rfl) (fun _ _ _ h => h) (Or.inl ⟨by rfl, ?hyqd11⟩) hHeld ?restqd11
              case hyqd11 => (intro w hSw; go_simp; try with_reducible rfl)
              try simp only [Act.put, List.setIfInBounds_toArray, List.set_cons_zero, List.set_cons_succ]
              refine wpAnyH_take (i := 12) (oi := { dst := some 146, op := Op.move (Operand.tmp 145), type := 4, pos := "law.go:114", after := #[{ on := 11, ground := Ground.data }, { on := 10, ground := Ground.chain }], guard := none }) (v := ?vqd12) rfl (by kernel_rfl) (by kernel_rfl) (by kernel_rfl) (fun _ _ _ h => h) (Or.inl ⟨by rfl, ?hyqd12⟩) hHeld ?restqd12
              case hyqd12 => (intro w hSw; go_simp; try with_reducible rfl)
              try simp only [Act.put, List.setIfInBounds_toArray, List.set_cons_zero, List.set_cons_succ]
              refine wpAnyH_take (i := 13) (oi := { dst := some 147, op := Op.move (Operand.tmp 18), type := 28, pos := "law.go:114", after := #[{ on := 12, ground := Ground.guard }], guard := some (12, false) }) (v := ?vqd13) rfl (by kernel_rfl) (by kernel_rfl) (by kernel_rfl) (fun _ _ _ h => h) (Or.inl ⟨by rfl, ?hyqd13⟩) hHeld ?restqd13
              case hyqd13 => (intro w hSw; go_simp; try with_reducible rfl)
              try simp only [Act.put, List.setIfInBounds_toArray, List.set_cons_zero, List.set_cons_succ]
              refine wpAnyH_take (i := 14) (oi := { dst := some 148, op := Op.binOp BinOp.neq 28 (Operand.tmp 147) (Operand.const (Value.int IntKind.i64 0)) 28, type := 4, pos := "law.go:114", after := #[{ on := 13, ground := Ground.data }, { on := 12, ground := Ground.guard }], guard := some (12, false) }) (v := ?vqd14) rfl (by kernel_rfl) (by kernel_rfl) (by kernel_rfl) (fun _ _ _ h => h) (Or.inl ⟨by rfl, ?hyqd14⟩) hHeld ?restqd14
              case hyqd14 => (intro w hSw; go_simp; try with_reducible rfl)
              try simp only [Act.put, List.setIfInBounds_toArray, List.set_cons_zero, List.set_cons_succ]
              refine wpAnyH_take (i := 15) (oi := { dst := some 149, op := Op.pick (Operand.tmp 146) (Operand.const (Value.bool true)) (Operand.tmp 148), type := 4, pos := "law.go:114", after := #[{ on := 12, ground := Ground.data }, { on := 14, ground := Ground.data }], guard := none }) (v := ?vqd15) rfl (by kernel_rfl) (by kernel_rfl) (by kernel_rfl) (fun _ _ _ h => h) (Or.inl ⟨by rfl, ?hyqd15⟩) hHeld ?restqd15
              case hyqd15 => (intro w hSw; go_simp; try with_reducible rfl)
              try simp only [Act.put, List.setIfInBounds_toArray, List.set_cons_zero, List.set_cons_succ]
              refine wpAnyH_take (i := 16) (oi := { dst := some 150, op := Op.move (Operand.tmp 149), type := 4, pos := "law.go:114", after := #[{ on := 15, ground := Ground.data }, { on := 12, ground := Ground.chain }], guard := none }) (v := ?vqd16) rfl (by kernel_rfl) (by kernel_rfl) (by kernel_rfl) (fun _ _ _ h => h) (Or.inl ⟨by rfl, ?hyqd16⟩) hHeld ?restqd16
              case hyqd16 => (intro w hSw; go_simp; try with_reducible rfl)
              try simp only [Act.put, List.setIfInBounds_toArray, List.set_cons_zero, List.set_cons_succ]
              refine wpAnyH_take (i := 17) (oi := { dst := some 151, op := Op.load 109 (Operand.tmp 17), type := 109, pos := "law.go:114", after := #[{ on := 16, ground := Ground.guard }], guard := some (16, false) }) (v := _) rfl (by kernel_rfl) (by kernel_rfl) (by kernel_rfl) (fun _ _ _ h => h) (yields_rec rfl (.inl rfl) rfl rfl hnr (fun _ h => (HV.out _ h).2.2.2.2.2.1)) hHeld ?_
              try simp only [Act.put, List.setIfInBounds_toArray, List.set_cons_zero, List.set_cons_succ]
              refine wpAnyH_take (i := 18) (oi := { dst := some 152, op := Op.move (Operand.tmp 13), type := 115, pos := "law.go:114", after := #[{ on := 16, ground := Ground.guard }], guard := some (16, false) }) (v := ?vqd18) rfl (by kernel_rfl) (by kernel_rfl) (by kernel_rfl) (fun _ _ _ h => h) (Or.inl ⟨by rfl, ?hyqd18⟩) hHeld ?restqd18
              case hyqd18 => (intro w hSw; go_simp; try with_reducible rfl)
              try simp only [Act.put, List.setIfInBounds_toArray, List.set_cons_zero, List.set_cons_succ]
              refine wpAnyH_take (i := 19) (oi := { dst := some 153, op := Op.move (Operand.tmp 16), type := 3, pos := "law.go:114", after := #[{ on := 16, ground := Ground.guard }], guard := some (16, false) }) (v := ?vqd19) rfl (by kernel_rfl) (by kernel_rfl) (by kernel_rfl) (fun _ _ _ h => h) (Or.inl ⟨by rfl, ?hyqd19⟩) hHeld ?restqd19
              case hyqd19 => (intro w hSw; go_simp; try with_reducible rfl)
              try simp only [Act.put, List.setIfInBounds_toArray, List.set_cons_zero, List.set_cons_succ]
              refine wpAnyH_take (i := 20) (oi := { dst := some 154, op := Op.indexAddr 115 (Operand.tmp 152) (Operand.tmp 153), type := 0, pos := "law.go:114", after := #[{ on := 18, ground := Ground.data }, { on := 19, ground := Ground.data }, { on := 16, ground := Ground.guard }], guard := some (16, false) }) (v := ?vqd20) rfl (by kernel_rfl) (by kernel_rfl) (by kernel_rfl) (fun _ _ _ h => h) (Or.inl ⟨by rfl, ?hyqd20⟩) hHeld ?restqd20
              case hyqd20 => (intro w hSw; go_simp; try with_reducible rfl)
              try simp only [Act.put, List.setIfInBounds_toArray, List.set_cons_zero, List.set_cons_succ]
              refine wpAnyH_take (i := 21) (oi := { dst := some 155, op := Op.fieldAddr 134 (Operand.tmp 154) 2, type := 0, pos := "law.go:114", after := #[{ on := 20, ground := Ground.data }, { on := 16, ground := Ground.guard }], guard := some (16, false) }) (v := ?vqd21) rfl (by kernel_rfl) (by kernel_rfl) (by kernel_rfl) (fun _ _ _ h => h) (Or.inl ⟨by rfl, ?hyqd21⟩) hHeld ?restqd21
              case hyqd21 => (intro w hSw; go_simp; try with_reducible rfl)
              try simp only [Act.put, List.setIfInBounds_toArray, List.set_cons_zero, List.set_cons_succ]
              refine wpAnyH_take (i := 22) (oi := { dst := some 156, op := Op.load 109 (Operand.tmp 155), type := 109, pos := "law.go:114", after := #[{ on := 21, ground := Ground.data }, { on := 16, ground := Ground.guard }], guard := some (16, false) }) (v := _) rfl (by kernel_rfl) (by kernel_rfl) (by kernel_rfl) (fun _ _ _ h => h) (yields_mid rfl (.inl rfl) rfl rfl hnr (fun _ h => (HV.out _ h).2.2.1)) hHeld ?_
              try simp only [Act.put, List.setIfInBounds_toArray, List.set_cons_zero, List.set_cons_succ]
              refine wpAnyH_ready (rs := [23]) (by kernel_rfl) (by simp) ?_
              refine AllReadyH.cons (o := { dst := some 157, op := Op.call { callee := Callee.value (Operand.func 78), args := #[Operand.tmp 151, Operand.tmp 156], argTypes := #[109, 109] }, type := 4, pos := "law.go:114", after := #[{ on := 17, ground := Ground.data }, { on := 22, ground := Ground.data }, { on := 16, ground := Ground.chain }, { on := 16, ground := Ground.guard }], guard := some (16, false) }) rfl (fun K hK => ?_) AllReadyH.nil
              go_simp
              refine (fsame_any _ AnyB AnyB r.k r.k r.nm r.nm A3 B r.bs.length c3 r.bs.length dd r.bs r.bs hnr hnr (HV.out _ hHeld).2.2.2.2.2.2.2.2 (HV.out _ hHeld).2.2.2.2.2.2.1).mono ?_; rintro e w23 ⟨rfl, hb23⟩; rw [decide_eq_true (show (r.k = r.k ∧ r.nm = r.nm ∧ r.bs = r.bs) from ⟨rfl, rfl, rfl⟩)]
              refine hK.out _ _ (held_next hHeld hb23) (fun hHeld => ?_)
              clear hK K
              try simp only [Act.put, List.setIfInBounds_toArray, List.set_cons_zero, List.set_cons_succ]
              refine wpAnyH_take (i := 24) (oi := { dst := some 158, op := Op.unOp UnOp.not 4 (Operand.tmp 157), type := 4, pos := "law.go:114", after := #[{ on := 23, ground := Ground.data }, { on := 16, ground := Ground.guard }], guard := some (16, false) }) (v := ?vqd24) rfl (by kernel_rfl) (by kernel_rfl) (by kernel_rfl) (fun _ _ _ h => h) (Or.inl ⟨by rfl, ?hyqd24⟩) hHeld ?restqd24
              case hyqd24 => (intro w hSw; go_simp; try with_reducible rfl)
              try simp only [Act.put, List.setIfInBounds_toArray, List.set_cons_zero, List.set_cons_succ]
              refine wpAnyH_take (i := 25) (oi := { dst := some 159, op := Op.pick (Operand.tmp 150) (Operand.const (Value.bool true)) (Operand.tmp 158), type := 4, pos := "law.go:114", after := #[{ on := 16, ground := Ground.data }, { on := 24, ground := Ground.data }], guard := none }) (v := ?vqd25) rfl (by kernel_rfl) (by kernel_rfl) (by kernel_rfl) (fun _ _ _ h => h) (Or.inl ⟨by rfl, ?hyqd25⟩) hHeld ?restqd25
              case hyqd25 => (intro w hSw; go_simp; try with_reducible rfl)
              try simp only [Act.put, List.setIfInBounds_toArray, List.set_cons_zero, List.set_cons_succ]
              refine wpAnyH_take (i := 26) (oi := { dst := some 160, op := Op.move (Operand.tmp 159), type := 4, pos := "law.go:114", after := #[{ on := 25, ground := Ground.data }, { on := 23, ground := Ground.chain }], guard := none }) (v := ?vqd26) rfl (by kernel_rfl) (by kernel_rfl) (by kernel_rfl) (fun _ _ _ h => h) (Or.inl ⟨by rfl, ?hyqd26⟩) hHeld ?restqd26
              case hyqd26 => (intro w hSw; go_simp; try with_reducible rfl)
              try simp only [Act.put, List.setIfInBounds_toArray, List.set_cons_zero, List.set_cons_succ]
              refine wpAnyH_take (i := 27) (oi := { dst := some 161, op := Op.move (Operand.tmp 13), type := 115, pos := "law.go:114", after := #[{ on := 26, ground := Ground.guard }], guard := some (26, false) }) (v := ?vqd27) rfl (by kernel_rfl) (by kernel_rfl) (by kernel_rfl) (fun _ _ _ h => h) (Or.inl ⟨by rfl, ?hyqd27⟩) hHeld ?restqd27
              case hyqd27 => (intro w hSw; go_simp; try with_reducible rfl)
              try simp only [Act.put, List.setIfInBounds_toArray, List.set_cons_zero, List.set_cons_succ]
              refine wpAnyH_take (i := 28) (oi := { dst := some 162, op := Op.move (Operand.tmp 16), type := 3, pos := "law.go:114", after := #[{ on := 26, ground := Ground.guard }], guard := some (26, false) }) (v := ?vqd28) rfl (by kernel_rfl) (by kernel_rfl) (by kernel_rfl) (fun _ _ _ h => h) (Or.inl ⟨by rfl, ?hyqd28⟩) hHeld ?restqd28
              case hyqd28 => (intro w hSw; go_simp; try with_reducible rfl)
              try simp only [Act.put, List.setIfInBounds_toArray, List.set_cons_zero, List.set_cons_succ]
              refine wpAnyH_take (i := 29) (oi := { dst := some 163, op := Op.indexAddr 115 (Operand.tmp 161) (Operand.tmp 162), type := 0, pos := "law.go:114", after := #[{ on := 27, ground := Ground.data }, { on := 28, ground := Ground.data }, { on := 26, ground := Ground.guard }], guard := some (26, false) }) (v := ?vqd29) rfl (by kernel_rfl) (by kernel_rfl) (by kernel_rfl) (fun _ _ _ h => h) (Or.inl ⟨by rfl, ?hyqd29⟩) hHeld ?restqd29
              case hyqd29 => (intro w hSw; go_simp; try with_reducible rfl)
              try simp only [Act.put, List.setIfInBounds_toArray, List.set_cons_zero, List.set_cons_succ]
              refine wpAnyH_take (i := 30) (oi := { dst := some 164, op := Op.fieldAddr 134 (Operand.tmp 163) 0, type := 0, pos := "law.go:114", after := #[{ on := 29, ground := Ground.data }, { on := 26, ground := Ground.guard }], guard := some (26, false) }) (v := ?vqd30) rfl (by kernel_rfl) (by kernel_rfl) (by kernel_rfl) (fun _ _ _ h => h) (Or.inl ⟨by rfl, ?hyqd30⟩) hHeld ?restqd30
              case hyqd30 => (intro w hSw; go_simp; try with_reducible rfl)
              try simp only [Act.put, List.setIfInBounds_toArray, List.set_cons_zero, List.set_cons_succ]
              refine wpAnyH_take (i := 31) (oi := { dst := some 165, op := Op.load 3 (Operand.tmp 164), type := 3, pos := "law.go:114", after := #[{ on := 30, ground := Ground.data }, { on := 26, ground := Ground.guard }], guard := some (26, false) }) (v := ?vqd31) rfl (by kernel_rfl) (by kernel_rfl) (by kernel_rfl) (fun _ _ _ h => h) (Or.inl ⟨by rfl, ?hyqd31⟩) hHeld ?restqd31
              case hyqd31 => (intro w hSw; obtain ⟨p1, p2, -, -, p5, -⟩ := HV.out w hSw; go_simp; try with_reducible rfl)
              try simp only [Act.put, List.setIfInBounds_toArray, List.set_cons_zero, List.set_cons_succ]
              refine wpAnyH_take (i := 32) (oi := { dst := some 166, op := Op.move (Operand.tmp 13), type := 115, pos := "law.go:114", after := #[{ on := 26, ground := Ground.guard }], guard := some (26, false) }) (v := ?vqd32) rfl (by kernel_rfl) (by kernel_rfl) (by kernel_rfl) (fun _ _ _ h => h) (Or.inl ⟨by rfl, ?hyqd32⟩) hHeld ?restqd32
              case hyqd32 => (intro w hSw; go_simp; try with_reducible rfl)
              try simp only [Act.put, List.setIfInBounds_toArray, List.set_cons_zero, List.set_cons_succ]
              refine wpAnyH_take (i := 33) (oi := { dst := some 167, op := Op.move (Operand.tmp 16), type := 3, pos := "law.go:114", after := #[{ on := 26, ground := Ground.guard }], guard := some (26, false) }) (v := ?vqd33) rfl (by kernel_rfl) (by kernel_rfl) (by kernel_rfl) (fun _ _ _ h => h) (Or.inl ⟨by rfl, ?hyqd33⟩) hHeld ?restqd33
              case hyqd33 => (intro w hSw; go_simp; try with_reducible rfl)
              try simp only [Act.put, List.setIfInBounds_toArray, List.set_cons_zero, List.set_cons_succ]
              refine wpAnyH_take (i := 34) (oi := { dst := some 168, op := Op.indexAddr 115 (Operand.tmp 166) (Operand.tmp 167), type := 0, pos := "law.go:114", after := #[{ on := 32, ground := Ground.data }, { on := 33, ground := Ground.data }, { on := 26, ground := Ground.guard }], guard := some (26, false) }) (v := ?vqd34) rfl (by kernel_rfl) (by kernel_rfl) (by kernel_rfl) (fun _ _ _ h => h) (Or.inl ⟨by rfl, ?hyqd34⟩) hHeld ?restqd34
              case hyqd34 => (intro w hSw; go_simp; try with_reducible rfl)
              try simp only [Act.put, List.setIfInBounds_toArray, List.set_cons_zero, List.set_cons_succ]
              refine wpAnyH_take (i := 35) (oi := { dst := some 169, op := Op.fieldAddr 134 (Operand.tmp 168) 1, type := 0, pos := "law.go:114", after := #[{ on := 34, ground := Ground.data }, { on := 26, ground := Ground.guard }], guard := some (26, false) }) (v := ?vqd35) rfl (by kernel_rfl) (by kernel_rfl) (by kernel_rfl) (fun _ _ _ h => h) (Or.inl ⟨by rfl, ?hyqd35⟩) hHeld ?restqd35
              case hyqd35 => (intro w hSw; go_simp; try with_reducible rfl)
              try simp only [Act.put, List.setIfInBounds_toArray, List.set_cons_zero, List.set_cons_succ]
              refine wpAnyH_take (i := 36) (oi := { dst := some 170, op := Op.load 3 (Operand.tmp 169), type := 3, pos := "law.go:114", after := #[{ on := 35, ground := Ground.data }, { on := 26, ground := Ground.guard }], guard := some (26, false) }) (v := ?vqd36) rfl (by kernel_rfl) (by kernel_rfl) (by kernel_rfl) (fun _ _ _ h => h) (Or.inl ⟨by rfl, ?hyqd36⟩) hHeld ?restqd36
              case hyqd36 => (intro w hSw; obtain ⟨p1, p2, -, -, p5, -⟩ := HV.out w hSw; go_simp; try with_reducible rfl)
              try simp only [Act.put, List.setIfInBounds_toArray, List.set_cons_zero, List.set_cons_succ]
              refine wpAnyH_take (i := 37) (oi := { dst := some 171, op := Op.binOp BinOp.add 3 (Operand.tmp 165) (Operand.tmp 170) 3, type := 3, pos := "law.go:114", after := #[{ on := 31, ground := Ground.data }, { on := 36, ground := Ground.data }, { on := 26, ground := Ground.guard }], guard := some (26, false) }) (v := ?vqd37) rfl (by kernel_rfl) (by kernel_rfl) (by kernel_rfl) (fun _ _ _ h => h) (Or.inl ⟨by rfl, ?hyqd37⟩) hHeld ?restqd37
              case hyqd37 => (intro w hSw; go_simp; try with_reducible rfl)
              try simp only [Act.put, List.setIfInBounds_toArray, List.set_cons_zero, List.set_cons_succ]
              refine wpAnyH_take (i := 38) (oi := { dst := some 172, op := Op.move (Operand.tmp 7), type := 76, pos := "law.go:114", after := #[{ on := 26, ground := Ground.guard }], guard := some (26, false) }) (v := ?vqd38) rfl (by kernel_rfl) (by kernel_rfl) (by kernel_rfl) (fun _ _ _ h => h) (Or.inl ⟨by rfl, ?hyqd38⟩) hHeld ?restqd38
              case hyqd38 => (intro w hSw; go_simp; try with_reducible rfl)
              try simp only [Act.put, List.setIfInBounds_toArray, List.set_cons_zero, List.set_cons_succ]
              refine wpAnyH_take (i := 39) (oi := { dst := some 173, op := Op.move (Operand.tmp 16), type := 3, pos := "law.go:114", after := #[{ on := 26, ground := Ground.guard }], guard := some (26, false) }) (v := ?vqd39) rfl (by kernel_rfl) (by kernel_rfl) (by kernel_rfl) (fun _ _ _ h => h) (Or.inl ⟨by rfl, ?hyqd39⟩) hHeld ?restqd39
              case hyqd39 => (intro w hSw; go_simp; try with_reducible rfl)
              try simp only [Act.put, List.setIfInBounds_toArray, List.set_cons_zero, List.set_cons_succ]
              refine wpAnyH_take (i := 40) (oi := { dst := some 174, op := Op.indexAddr 76 (Operand.tmp 172) (Operand.tmp 173), type := 0, pos := "law.go:114", after := #[{ on := 38, ground := Ground.data }, { on := 39, ground := Ground.data }, { on := 26, ground := Ground.guard }], guard := some (26, false) }) (v := ?vqd40) rfl (by kernel_rfl) (by kernel_rfl) (by kernel_rfl) (fun _ _ _ h => h) (Or.inl ⟨by rfl, ?hyqd40⟩) hHeld ?restqd40
              case hyqd40 => (intro w hSw; go_simp; try with_reducible rfl)
              try simp only [Act.put, List.setIfInBounds_toArray, List.set_cons_zero, List.set_cons_succ]
              refine wpAnyH_take (i := 41) (oi := { dst := some 175, op := Op.load 3 (Operand.tmp 174), type := 3, pos := "law.go:114", after := #[{ on := 40, ground := Ground.data }, { on := 26, ground := Ground.guard }], guard := some (26, false) }) (v := ?vqd41) rfl (by kernel_rfl) (by kernel_rfl) (by kernel_rfl) (fun _ _ _ h => h) (Or.inl ⟨by rfl, ?hyqd41⟩) hHeld ?restqd41
              case hyqd41 => (intro w hSw; obtain ⟨p1, p2, -, -, p5, -⟩ := HV.out w hSw; go_simp; try with_reducible rfl)
              try simp only [Act.put, List.setIfInBounds_toArray, List.set_cons_zero, List.set_cons_succ]
              refine wpAnyH_take (i := 42) (oi := { dst := some 176, op := Op.binOp BinOp.neq 3 (Operand.tmp 171) (Operand.tmp 175) 3, type := 4, pos := "law.go:114", after := #[{ on := 37, ground := Ground.data }, { on := 41, ground := Ground.data }, { on := 26, ground := Ground.guard }], guard := some (26, false) }) (v := ?vqd42) rfl (by kernel_rfl) (by kernel_rfl) (by kernel_rfl) (fun _ _ _ h => h) (Or.inl ⟨by rfl, ?hyqd42⟩) hHeld ?restqd42
              case hyqd42 => (intro w hSw; go_simp; try with_reducible rfl)
              try simp only [Act.put, List.setIfInBounds_toArray, List.set_cons_zero, List.set_cons_succ]
              refine wpAnyH_take (i := 43) (oi := { dst := some 177, op := Op.pick (Operand.tmp 160) (Operand.const (Value.bool true)) (Operand.tmp 176), type := 4, pos := "law.go:114", after := #[{ on := 26, ground := Ground.data }, { on := 42, ground := Ground.data }], guard := none }) (v := ?vqd43) rfl (by kernel_rfl) (by kernel_rfl) (by kernel_rfl) (fun _ _ _ h => h) (Or.inl ⟨by rfl, ?hyqd43⟩) hHeld ?restqd43
              case hyqd43 => (intro w hSw; go_simp; try with_reducible rfl)
              try simp only [Act.put, List.setIfInBounds_toArray, List.set_cons_zero, List.set_cons_succ]
              refine wpAnyH_done (by kernel_rfl) ?_ _
              have HT10 := Lib.hid (And.intro (HT9.out.1.below hHeld.out) (And.intro (HT9.out.2.1.after hHeld.out) (HT9.out.2.2.1.after hHeld.out)))
              clear hHeld
              go_wp2_with fail
              go_roundw
              case rel => exact ⟨i2 + 1, by omega, by go_num, Lib.hid ⟨d8, HT10.out.1, by omega, by omega, HT10.out.2.1, HT10.out.2.2⟩⟩
              case measure => simp [intOf]; omega
            · obtain rfl : i2 = m := by omega
              obtain ⟨d2, htr2, -⟩ := HR2.out
              have HN9 := Lib.hid htr2.on
              clear htr2
              go_wp2_with fail
              refine (falive_any wr).mono ?_
              rintro e w9 ⟨rfl, hb9⟩
              have HF := Lib.hid (HN9.out.below hb9).bel
              clear hb9
              go_wp2_with fail
              go_ret
              exact ⟨rfl, HF.out⟩
set_option maxRecDepth 100000 in
theorem frameBack_any (w : World) (S : Nat → Prop) (A : Option Addr) (n c : Nat) (l : List Rd) (hx : RQ w S A n c l) (z : Int) :
    Calls Try.prog 16 #[.slice A n c, .int .i64 z] w fun e w' => e = .returned (.bool true) ∧ Below w.heap.size w w' := by
  cases hl : light l with
  | true => exact frameBack_in w S A n c l hx z hl
  | false =>
    have HFL := Lib.hid (flight_any w S A n c l hx)
    rw [hl] at HFL
    clear hx hl
    go_enter Try.func16, Try.ntmps16
    go_wp2_with fail
    refine (HFL.out).mono ?_
    rintro e w' ⟨rfl, rfl⟩
    go_wp2_with fail
    refine (falive_any _).mono ?_
    rintro e w1 ⟨rfl, hb⟩
    have HB := Lib.hid hb
    clear hb
    go_wp2_with fail
    go_ret
    exact ⟨rfl, HB.out⟩
end Go.Proofs.Ytaebmhbggbpnoaa
