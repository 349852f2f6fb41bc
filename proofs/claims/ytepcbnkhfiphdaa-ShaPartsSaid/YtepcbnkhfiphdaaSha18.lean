/- The walk of the reference's Parse (sha). Conditions: each theorem's premises. -/
import Derived.Test.YtepcbnkhfiphdaaSha17
namespace Go.Proofs.Ytepcbnkhfiphdaa
open Go.RowKit
set_option maxRecDepth 100000 in
set_option maxHeartbeats 1000000 in
theorem rparse_any (w : World) (s : ByteArray) : Calls Try.prog 19 #[.string s] w fun e w' => e = .returned (.tuple #[.agg (NC (parseN s.data.toList).1), .int .i64 (parseN s.data.toList).2]) ∧ Below w.heap.size w w' := by
  have hb1 := Blk.alloc (box30 w) (.cells #[.int .u8 0, .int .u8 0, .int .u8 0, .int .u8 0, .int .u8 0, .int .u8 0, .int .u8 0, .int .u8 0, .int .u8 0, .int .u8 0, .int .u8 0, .int .u8 0, .int .u8 0, .int .u8 0, .int .u8 0, .int .u8 0, .int .u8 0, .int .u8 0, .int .u8 0, .int .u8 0, .int .u8 0, .int .u8 0, .int .u8 0, .int .u8 0, .int .u8 0, .int .u8 0, .int .u8 0, .int .u8 0, .int .u8 0, .int .u8 0, .int .u8 0, .int .u8 0] 30)
  have hb2 := box30 (w.alloc (.cells #[.int .u8 0, .int .u8 0, .int .u8 0, .int .u8 0, .int .u8 0, .int .u8 0, .int .u8 0, .int .u8 0, .int .u8 0, .int .u8 0, .int .u8 0, .int .u8 0, .int .u8 0, .int .u8 0, .int .u8 0, .int .u8 0, .int .u8 0, .int .u8 0, .int .u8 0, .int .u8 0, .int .u8 0, .int .u8 0, .int .u8 0, .int .u8 0, .int .u8 0, .int .u8 0, .int .u8 0, .int .u8 0, .int .u8 0, .int .u8 0, .int .u8 0, .int .u8 0] 30))
  rw [show (w.alloc (.cells #[.int .u8 0, .int .u8 0, .int .u8 0, .int .u8 0, .int .u8 0, .int .u8 0, .int .u8 0, .int .u8 0, .int .u8 0, .int .u8 0, .int .u8 0, .int .u8 0, .int .u8 0, .int .u8 0, .int .u8 0, .int .u8 0, .int .u8 0, .int .u8 0, .int .u8 0, .int .u8 0, .int .u8 0, .int .u8 0, .int .u8 0, .int .u8 0, .int .u8 0, .int .u8 0, .int .u8 0, .int .u8 0, .int .u8 0, .int .u8 0, .int .u8 0, .int .u8 0] 30)).heap.size = w.heap.size + 1 by simp] at hb2
  have HB1 := Lib.hid hb1
  have HB2 := Lib.hid hb2
  have HBW := Lib.hid (show Below w.heap.size w ((w.alloc (.cells #[.int .u8 0, .int .u8 0, .int .u8 0, .int .u8 0, .int .u8 0, .int .u8 0, .int .u8 0, .int .u8 0, .int .u8 0, .int .u8 0, .int .u8 0, .int .u8 0, .int .u8 0, .int .u8 0, .int .u8 0, .int .u8 0, .int .u8 0, .int .u8 0, .int .u8 0, .int .u8 0, .int .u8 0, .int .u8 0, .int .u8 0, .int .u8 0, .int .u8 0, .int .u8 0, .int .u8 0, .int .u8 0, .int .u8 0, .int .u8 0, .int .u8 0, .int .u8 0] 30)).alloc (.cells #[.int .u8 0, .int .u8 0, .int .u8 0, .int .u8 0, .int .u8 0, .int .u8 0, .int .u8 0, .int .u8 0, .int .u8 0, .int .u8 0, .int .u8 0, .int .u8 0, .int .u8 0, .int .u8 0, .int .u8 0, .int .u8 0, .int .u8 0, .int .u8 0, .int .u8 0, .int .u8 0, .int .u8 0, .int .u8 0, .int .u8 0, .int .u8 0, .int .u8 0, .int .u8 0, .int .u8 0, .int .u8 0, .int .u8 0, .int .u8 0, .int .u8 0, .int .u8 0] 30)) from ((Below.refl w.heap.size w).alloc (Nat.le_refl _) _).alloc (by simp) _)
  clear hb1 hb2
  by_cases hl : s.size = 64
  · have HL := Lib.hid hl
    have hlen : s.data.toList.length = 64 := by simpa using hl
    have HLEN := Lib.hid hlen
    clear hl hlen
    have hlI : (s.size : Int) = 64 := by have := HL.out; omega
    go_enter Try.func19, Try.ntmps19
    go_wp2_with fail
    obtain ⟨W0, hW0⟩ : ∃ W0, W0 = (w.alloc (.cells #[.int .u8 0, .int .u8 0, .int .u8 0, .int .u8 0, .int .u8 0, .int .u8 0, .int .u8 0, .int .u8 0, .int .u8 0, .int .u8 0, .int .u8 0, .int .u8 0, .int .u8 0, .int .u8 0, .int .u8 0, .int .u8 0, .int .u8 0, .int .u8 0, .int .u8 0, .int .u8 0, .int .u8 0, .int .u8 0, .int .u8 0, .int .u8 0, .int .u8 0, .int .u8 0, .int .u8 0, .int .u8 0, .int .u8 0, .int .u8 0, .int .u8 0, .int .u8 0] 30)).alloc (.cells #[.int .u8 0, .int .u8 0, .int .u8 0, .int .u8 0, .int .u8 0, .int .u8 0, .int .u8 0, .int .u8 0, .int .u8 0, .int .u8 0, .int .u8 0, .int .u8 0, .int .u8 0, .int .u8 0, .int .u8 0, .int .u8 0, .int .u8 0, .int .u8 0, .int .u8 0, .int .u8 0, .int .u8 0, .int .u8 0, .int .u8 0, .int .u8 0, .int .u8 0, .int .u8 0, .int .u8 0, .int .u8 0, .int .u8 0, .int .u8 0, .int .u8 0, .int .u8 0] 30) := ⟨_, rfl⟩
    rw [← hW0] at HB1 HB2 HBW
    rw [← hW0]
    clear hW0
    go_loopw [5] (fun v5 wr => ∃ i : Nat, i ≤ 64 ∧ v5 = .int .i64 (i : Int) ∧ Hid (∀ j, j < i → 0 ≤ dgN (s.data.toList.getD j 0).toNat) ∧ Hid (Blk wr (w.heap.size + 1) 30 (UB (pv s.data.toList i))) ∧ Hid (Blk wr w.heap.size 30 (UB (fun _ => 0))) ∧ Hid (Below w.heap.size w wr)) (fun v5 _ => 64 - (intOf v5).toNat)
    case atStart => exact ⟨0, by omega, rfl, Lib.hid (fun j hj => absurd hj (by omega)), Lib.hid (by rw [UB.congr (fun i _ => pv_zero s.data.toList i)]; exact HB2.out), HB1, HBW⟩
    case round =>
      obtain ⟨i, hi, rfl, HA, HB, HO, HW⟩ := hrel
      clear HB1 HB2 HBW
      by_cases hlt : i < 64
      · have hlt' : (i : Int) < 64 := by omega
        obtain ⟨b, hb⟩ : ∃ b, s.data.toList[i]? = some b := ⟨_, List.getElem?_eq_getElem (by rw [HLEN.out]; exact hlt)⟩
        have r0 := run_str s i b hb
        have hbd : s.data.toList.getD i 0 = b := by rw [List.getD_eq_getElem?_getD, hb]; rfl
        have HBD := Lib.hid hbd
        clear hb hbd
        go_wp2_with fail
        refine (digit_any b _).mono ?_
        rintro e w' ⟨rfl, rfl⟩
        by_cases hd : 0 ≤ dgN b.toNat
        · have hdl := dgN_lt b.toNat
          obtain ⟨d, hdd⟩ : ∃ d : Nat, dgN b.toNat = (d : Int) := ⟨(dgN b.toNat).toNat, by omega⟩
          have HDD := Lib.hid hdd
          have HDS := Lib.hid (show dS s.data.toList i = d by unfold dS; rw [HBD.out, hdd]; omega)
          have HA2 : Hid (∀ j, j < i + 1 → 0 ≤ dgN (s.data.toList.getD j 0).toNat) := Lib.hid (fun j hj => by
            rcases Nat.lt_or_ge j i with h | h
            · exact HA.out j h
            · obtain rfl : j = i := by omega
              rw [HBD.out]
              exact hd)
          have hd16 : d < 16 := by omega
          rw [hdd]
          obtain ⟨x, hx⟩ : ∃ x, x = (pv s.data.toList i (i / 2)).toNat := ⟨_, rfl⟩
          have hm := pv_mid s.data.toList i
          rw [HDS.out, ← hx] at hm
          obtain ⟨y, hyy⟩ : ∃ y : UInt8, y = pv s.data.toList (i + 1) (i / 2) := ⟨_, rfl⟩
          have hdm : (d : Int) % 256 = (d : Int) := by omega
          have HY := Lib.hid hyy
          have hd0 : (0 : Int) ≤ (d : Int) := by omega
          have HXX := Lib.hid hx
          have HM := Lib.hid hm
          have hx16 := hm.1
          clear hm hx hd hdd hdl hyy
          go_wp2_with fail
          refine wp_region_still_tail 14 (by kernel_rfl) (by kernel_rfl) ?_
          simp only [List.take_succ_cons, List.take_zero, List.drop_succ_cons, List.drop_zero]
          change wpStill _ _ wr.drew (fun a' => wpList _ _ _ _ a' wr.drew) _ _
          obtain ⟨W2, hW2⟩ : ∃ W2, W2 = wr.drew := ⟨_, rfl⟩
          rw [← hW2]
          have HB2 := Lib.hid (show Blk W2 (w.heap.size + 1) 30 (UB (pv s.data.toList i)) by rw [hW2]; exact HB.out.drew)
          have HO2 := Lib.hid (show Blk W2 w.heap.size 30 (UB (fun _ => 0)) by rw [hW2]; exact HO.out.drew)
          have HW2 := Lib.hid (show Below w.heap.size w W2 by rw [hW2]; exact HW.out.drew)
          have c0 : W2.cell? ⟨w.heap.size + 1, i / 2, none⟩ = some (.int .u8 (x : Int)) := by rw [HB2.out.cell, UB.at_ (by omega), HXX.out]
          have f0 := HB2.out.frozen (i / 2)
          have hC := stillC (digit_any b W2)
          rw [HDD.out] at hC
          have i2 : (i : Int) / 2 < 32 := by omega
          have i0 : (0 : Int) ≤ (i : Int) / 2 := by omega
          have iw : IntKind.i64.wrap ((i : Int) / 2) = (i : Int) / 2 := by rw [IntKind.wrap_i64]; omega
          have it : ((i : Int) / 2).toNat = i / 2 := by omega
          clear hW2 HB HO HW
          repeat still_step
          still_call hC
          repeat still_step
          refine wpStill_nil ?_
          go_wp2_with fail
          have hy : (x : Int) * 16 + (d : Int) = (y.toNat : Int) := by rw [HY.out, ← HM.out.2, toU8 _ (by omega)]; omega
          rw [hy]
          have ho : Only (fun j => j = w.heap.size + 1) W2 (W2.setCell ⟨w.heap.size + 1, i / 2, none⟩ (.int .u8 (y.toNat : Int))) := (Only.refl (fun j => j = w.heap.size + 1) W2).setCell (p := ⟨w.heap.size + 1, i / 2, none⟩) (.inl rfl) _
          have HB3 := Lib.hid (show Blk (W2.setCell ⟨w.heap.size + 1, i / 2, none⟩ (.int .u8 (y.toNat : Int))) (w.heap.size + 1) 30 (UB (pv s.data.toList (i + 1))) by
            rw [← UB.congr (fun j _ => pv_succ s.data.toList i j), ← UB.set, HY.out]
            exact HB2.out.set_ _ _)
          have HO3 := Lib.hid (HO2.out.but ho (by omega))
          exact ⟨⟨i + 1, by omega, by go_num, HA2, HB3, HO3, Lib.hid (HW2.out.setCell (p := ⟨w.heap.size + 1, i / 2, none⟩) (Nat.le_succ _) _)⟩, by simp [intOf]; omega⟩
        · have hd0 : dgN b.toNat < 0 := by omega
          have HP := Lib.hid (show parseN s.data.toList = (List.replicate 32 0, 3) by
            unfold parseN
            rw [if_neg]
            rintro ⟨-, h⟩
            have := List.all_eq_true.1 h i (List.mem_range.2 hlt)
            rw [HBD.out] at this
            simp at this
            omega)
          clear hd
          go_wp2_with (first
            | ((with_reducible show wpList Try.prog _ _ ({ dst := _, op := Op.build 30 _, type := _, pos := _, after := _, guard := none } :: _) _ _); refine wl_build rfl 30 _ rfl (cs := UB (fun _ => 0)) (by simp [Act.eval]; exact built30) ?_)
            | (refine wl_st30 rfl (.tmp 2) (.tmp 19) rfl rfl rfl HO.out (UB.size _) ?_; intro w5 hb5 hg5))
          refine bodyPost_ret (results_cell2 rfl rfl (run_loadVar_row w5 _ 30 30 (UB (fun _ => 0)) (0, 0) _ hb5 Try.underlying30 rfl (by rw [size30, UB.size]))) rfl ⟨?_, HW.out.trans (only_below hg5 (Nat.le_refl _) HW.out.size)⟩
          rw [HP.out, UB_zero]
          rfl
      · obtain rfl : i = 64 := by omega
        have HP := Lib.hid (show parseN s.data.toList = ((List.range 32).map (pv s.data.toList 64), 0) by
          unfold parseN
          rw [if_pos ⟨HLEN.out, List.all_eq_true.2 fun j hj => by simpa using HA.out j (List.mem_range.1 hj)⟩])
        clear hlt
        go_wp2_with (first
          | (refine wl_ld30 rfl (.tmp 4) rfl rfl HB.out ?_)
          | (refine wl_st30 rfl (.tmp 2) (.tmp 34) rfl rfl rfl HO.out (UB.size _) ?_; intro w5 hb5 hg5))
        refine bodyPost_ret (results_cell2 rfl rfl (run_loadVar_row w5 _ 30 30 (UB (pv s.data.toList 64)) (0, 0) _ hb5 Try.underlying30 rfl (by rw [size30, UB.size]))) rfl ⟨?_, HW.out.trans (only_below hg5 (Nat.le_refl _) HW.out.size)⟩
        rw [HP.out, UB_parse]
        rfl
  · have hP : parseN s.data.toList = (List.replicate 32 0, 3) := by
      unfold parseN
      rw [if_neg]
      rintro ⟨h, -⟩
      exact hl (by simpa using h)
    have HP := Lib.hid hP
    have ht : ((s.size : Int) != 64) = true := by simp; omega
    clear hP hl
    go_enter Try.func19, Try.ntmps19
    go_wp2_with (first
      | (refine wl_ld30 rfl (.tmp 4) rfl rfl HB2.out ?_)
      | (refine wl_st30 rfl (.tmp 2) (.tmp 9) rfl rfl rfl HB1.out (UB.size _) ?_; intro w5 hb5 hg5))
    refine bodyPost_ret (results_cell2 rfl rfl (run_loadVar_row w5 _ 30 30 (UB (fun _ => 0)) (0, 0) _ hb5 Try.underlying30 rfl (by rw [size30, UB.size]))) rfl ⟨?_, HBW.out.trans (only_below hg5 (Nat.le_refl _) HBW.out.size)⟩
    rw [HP.out, UB_zero]
    rfl
end Go.Proofs.Ytepcbnkhfiphdaa
