/- The walks of Parse, the reference's digit and Parse (sha). Conditions: each theorem's premises. -/
import Derived.Test.YtepcbnkhfiphdaaSha16
namespace Go.Proofs.Ytepcbnkhfiphdaa
open Go.RowKit
/-- What a sign stands for; -1: nothing. -/
def dgN (c : Nat) : Int := if 48 ≤ c ∧ c ≤ 57 then (c : Int) - 48 else if 97 ≤ c ∧ c ≤ 102 then (c : Int) - 87 else -1
theorem dg_index_all : ∀ c : Fin 256, Lib.indexByte [48, 49, 50, 51, 52, 53, 54, 55, 56, 57, 97, 98, 99, 100, 101, 102] (UInt8.ofNat c.val) = dgN c.val := by decide +kernel
theorem dg_index (c : UInt8) : Lib.indexByte [48, 49, 50, 51, 52, 53, 54, 55, 56, 57, 97, 98, 99, 100, 101, 102] c = dgN c.toNat := by
  have := dg_index_all ⟨c.toNat, c.toNat_lt⟩
  simpa using this
theorem dgN_lt (c : Nat) : dgN c < 16 := by unfold dgN; split <;> (try split) <;> omega
theorem dgN_ge (c : Nat) : -1 ≤ dgN c := by unfold dgN; split <;> (try split) <;> omega
theorem index_any (c : UInt8) (w : World) : Calls Try.prog 32 #[.string ⟨#[48, 49, 50, 51, 52, 53, 54, 55, 56, 57, 97, 98, 99, 100, 101, 102]⟩, .int .u8 (c.toNat : Int)] w fun e w' => e = .returned (.int .i64 (dgN c.toNat)) ∧ w = w' := by
  refine (Try.strings_IndexByte ⟨#[48, 49, 50, 51, 52, 53, 54, 55, 56, 57, 97, 98, 99, 100, 101, 102]⟩ (c.toNat : Int) w).mono ?_
  rintro e w' ⟨rfl, rfl⟩
  refine ⟨?_, rfl⟩
  have e1 : ((c.toNat : Int).toNat.toUInt8) = c := by simp
  rw [e1]
  exact congrArg _ (congrArg _ (dg_index c))
theorem digit_any (c : UInt8) (w : World) : Calls Try.prog 33 #[.int .u8 (c.toNat : Int)] w fun e w' => e = .returned (.int .i64 (dgN c.toNat)) ∧ w = w' := by
  have hc := c.toNat_lt
  by_cases h1 : 48 ≤ c.toNat
  · have h1' : (48 : Int) ≤ (c.toNat : Int) := by omega
    by_cases h2 : c.toNat ≤ 57
    · have h2' : (c.toNat : Int) ≤ 57 := by omega
      have HV := Lib.hid (show dgN c.toNat = (c.toNat : Int) - 48 by unfold dgN; rw [if_pos ⟨h1, h2⟩])
      have w1 : IntKind.u8.wrap ((c.toNat : Int) - 48) = (c.toNat : Int) - 48 := by rw [IntKind.wrap_u8]; omega
      clear h1 h2
      go_enter Try.func33, Try.ntmps33
      go_wp2_with fail
      go_ret
      exact ⟨ret_int (by rw [HV.out]), rfl⟩
    · by_cases h3 : 97 ≤ c.toNat
      · by_cases h4 : c.toNat ≤ 102
        · have HV := Lib.hid (show dgN c.toNat = (c.toNat : Int) - 97 + 10 by unfold dgN; rw [if_neg (by omega), if_pos ⟨h3, h4⟩]; omega)
          have h2' : ¬ (c.toNat : Int) ≤ 57 := by omega
          have h2'' : decide (c.toNat ≤ 57) = false := by simp; omega
          have h3' : (97 : Int) ≤ (c.toNat : Int) := by omega
          have h4' : (c.toNat : Int) ≤ 102 := by omega
          have w1 : IntKind.u8.wrap ((c.toNat : Int) - 97) = (c.toNat : Int) - 97 := by rw [IntKind.wrap_u8]; omega
          clear h1 h2 h3 h4
          go_enter Try.func33, Try.ntmps33
          go_wp2_with fail
          go_ret
          exact ⟨ret_int (by rw [HV.out]), rfl⟩
        · have HV := Lib.hid (show dgN c.toNat = -1 by unfold dgN; rw [if_neg (by omega), if_neg (by omega)])
          have h2' : ¬ (c.toNat : Int) ≤ 57 := by omega
          have h3' : (97 : Int) ≤ (c.toNat : Int) := by omega
          have h4' : ¬ (c.toNat : Int) ≤ 102 := by omega
          clear h1 h2 h3 h4
          go_enter Try.func33, Try.ntmps33
          go_wp2_with fail
          go_ret
          exact ⟨ret_int (by rw [HV.out]), rfl⟩
      · have HV := Lib.hid (show dgN c.toNat = -1 by unfold dgN; rw [if_neg (by omega), if_neg (by omega)])
        have h2' : ¬ (c.toNat : Int) ≤ 57 := by omega
        have h3' : ¬ (97 : Int) ≤ (c.toNat : Int) := by omega
        clear h1 h2 h3
        go_enter Try.func33, Try.ntmps33
        go_wp2_with fail
        go_ret
        exact ⟨ret_int (by rw [HV.out]), rfl⟩
  · have HV := Lib.hid (show dgN c.toNat = -1 by unfold dgN; rw [if_neg (by omega), if_neg (by omega)])
    have h1' : ¬ (48 : Int) ≤ (c.toNat : Int) := by omega
    have h3' : ¬ (97 : Int) ≤ (c.toNat : Int) := by omega
    clear h1
    go_enter Try.func33, Try.ntmps33
    go_wp2_with fail
    go_ret
    exact ⟨ret_int (by rw [HV.out]), rfl⟩
section
variable {P : Program} {fn : Func} {tmps : Array Value} {W : World} {i j k : Tmp} {T : TypeId} {a : Addr} {v : Value}
theorem results_cell2 (h : fn.results = #[.cell i T, .tmp j]) (ht : tmps.getD i undef = .pointer (some a)) (hl : (loadVar T a).run P W = .ok v W) : (results fn tmps).run P W = .ok (.tuple #[v, tmps.getD j undef]) W := by
  simp only [Array.getD_eq_getD_getElem?] at ht
  simp [results, h, ht, asAddr, hl]
end
/-! ### Parse -/
def dS (s : List UInt8) (i : Nat) : Nat := (dgN (s.getD i 0).toNat).toNat
theorem dS_lt (s : List UInt8) (i : Nat) : dS s i < 16 := by have := dgN_lt (s.getD i 0).toNat; unfold dS; omega
/-- A hash's byte behind i signs. -/
def pv (s : List UInt8) (i j : Nat) : UInt8 := if 2 * j + 1 < i then (dS s (2 * j) * 16 + dS s (2 * j + 1)).toUInt8 else if 2 * j < i then (dS s (2 * j)).toUInt8 else 0
theorem toU8 (n : Nat) (h : n < 256) : n.toUInt8.toNat = n := by simp [Nat.toUInt8]; omega
theorem pv_mid (s : List UInt8) (i : Nat) : (pv s i (i / 2)).toNat < 16 ∧ ((pv s i (i / 2)).toNat * 16 + dS s i).toUInt8 = pv s (i + 1) (i / 2) := by
  have h1 := dS_lt s i
  rcases Nat.mod_two_eq_zero_or_one i with h | h
  · have e : 2 * (i / 2) = i := by omega
    have hv : pv s i (i / 2) = 0 := by unfold pv; rw [if_neg (by omega), if_neg (by omega)]
    have hv2 : pv s (i + 1) (i / 2) = (dS s i).toUInt8 := by unfold pv; rw [if_neg (by omega), if_pos (by omega), e]
    rw [hv, hv2]
    exact ⟨by decide, by simp⟩
  · have e : 2 * (i / 2) + 1 = i := by omega
    have h2 := dS_lt s (2 * (i / 2))
    have hv : pv s i (i / 2) = (dS s (2 * (i / 2))).toUInt8 := by unfold pv; rw [if_neg (by omega), if_pos (by omega)]
    have hv2 : pv s (i + 1) (i / 2) = (dS s (2 * (i / 2)) * 16 + dS s i).toUInt8 := by unfold pv; rw [if_pos (by omega), e]
    rw [hv, hv2, toU8 _ (by omega)]
    exact ⟨h2, rfl⟩
theorem pv_succ (s : List UInt8) (i j : Nat) : (if j = i / 2 then pv s (i + 1) (i / 2) else pv s i j) = pv s (i + 1) j := by
  by_cases e : j = i / 2
  · rw [if_pos e, e]
  · rw [if_neg e]
    unfold pv
    by_cases h : 2 * j + 1 < i
    · rw [if_pos h, if_pos (by omega)]
    · rw [if_neg h, if_neg (by omega), if_neg (by omega), if_neg (by omega)]
theorem pv_zero (s : List UInt8) (j : Nat) : pv s 0 j = 0 := by unfold pv; rw [if_neg (by omega), if_neg (by omega)]
/-- What Parse answers. -/
def parseN (s : List UInt8) : List UInt8 × Int :=
  if s.length = 64 ∧ (List.range 64).all (fun i => decide (0 ≤ dgN (s.getD i 0).toNat)) = true then ((List.range 32).map (pv s 64), 0) else (List.replicate 32 0, 3)
theorem parseN_len (s : List UInt8) : (parseN s).1.length = 32 := by unfold parseN; split <;> simp
theorem UB_parse (s : List UInt8) : UB (pv s 64) = NC ((List.range 32).map (pv s 64)) := by
  rw [← UB_NC _ (by simp)]
  exact UB.congr fun i hi => by simp [List.getD_eq_getElem?_getD, List.getElem?_range hi]
theorem UB_zero : UB (fun _ => 0) = NC (List.replicate 32 0) := by
  rw [← UB_NC _ List.length_replicate]
  exact UB.congr fun i _ => (rep_get 32 i).symm
theorem run_str (s : ByteArray) (i : Nat) (b : UInt8) (hb : s.data.toList[i]? = some b) (W : World) : (Instr.index 9 (.string s) (.int .i64 (i : Int))).run Try.prog W = .ok (.int .u8 (b.toNat : Int)) W := by
  have hi : i < s.size := by have := (List.getElem?_eq_some_iff.1 hb).1; simpa using this
  have h0 : (0 : Int) ≤ (i : Int) ∧ (i : Int) < (s.size : Int) := by omega
  rw [run_index_string W 9 s .i64 (i : Int) Try.underlying9, dif_pos h0]
  have : s[(i : Int).toNat]'(by omega) = b := by
    have h1 := (List.getElem?_eq_some_iff.1 hb).2
    rw [← h1]
    simp
    rfl
  rw [this]
theorem built30 : Try.prog.built 30 [] = some (UB (fun _ => 0)) := by kernel_rfl
theorem or_dig (x d : Nat) (hx : x < 16) (hd : d < 16) : bits .or .u8 ((x : Int) * 16 % 256) (d : Int) = (((x * 16 + d).toUInt8.toNat : Nat) : Int) := by
  rw [toU8 _ (by omega)]
  have e : (x : Int) * 16 % 256 = ((x * 16 : Nat) : Int) := by omega
  rw [e, u8_or_nat _ _ (by omega) (by omega)]
  have h := Nat.shiftLeft_add_eq_or_of_lt (i := 4) (b := d) (by omega) x
  rw [Nat.shiftLeft_eq] at h
  rw [← h]
set_option maxRecDepth 100000 in
set_option maxHeartbeats 1000000 in
theorem parse_any (w : World) (s : ByteArray) : Calls Try.prog 18 #[.string s] w fun e w' => e = .returned (.tuple #[.agg (NC (parseN s.data.toList).1), .int .i64 (parseN s.data.toList).2]) ∧ Below w.heap.size w w' := by
  have HBX := Lib.hid (box30 w)
  have HBW := Lib.hid ((Below.refl w.heap.size w).alloc (Nat.le_refl _) (.cells #[.int .u8 0, .int .u8 0, .int .u8 0, .int .u8 0, .int .u8 0, .int .u8 0, .int .u8 0, .int .u8 0, .int .u8 0, .int .u8 0, .int .u8 0, .int .u8 0, .int .u8 0, .int .u8 0, .int .u8 0, .int .u8 0, .int .u8 0, .int .u8 0, .int .u8 0, .int .u8 0, .int .u8 0, .int .u8 0, .int .u8 0, .int .u8 0, .int .u8 0, .int .u8 0, .int .u8 0, .int .u8 0, .int .u8 0, .int .u8 0, .int .u8 0, .int .u8 0] 30))
  by_cases hl : s.size = 64
  · have HL := Lib.hid hl
    have hlen : s.data.toList.length = 64 := by simpa using hl
    have HLEN := Lib.hid hlen
    clear hl hlen
    have hlI : (s.size : Int) = 64 := by have := HL.out; omega
    go_enter Try.func18, Try.ntmps18
    go_wp2_with fail
    obtain ⟨W0, hW0⟩ : ∃ W0, W0 = w.alloc (.cells #[.int .u8 0, .int .u8 0, .int .u8 0, .int .u8 0, .int .u8 0, .int .u8 0, .int .u8 0, .int .u8 0, .int .u8 0, .int .u8 0, .int .u8 0, .int .u8 0, .int .u8 0, .int .u8 0, .int .u8 0, .int .u8 0, .int .u8 0, .int .u8 0, .int .u8 0, .int .u8 0, .int .u8 0, .int .u8 0, .int .u8 0, .int .u8 0, .int .u8 0, .int .u8 0, .int .u8 0, .int .u8 0, .int .u8 0, .int .u8 0, .int .u8 0, .int .u8 0] 30) := ⟨_, rfl⟩
    rw [← hW0] at HBX HBW
    rw [← hW0]
    clear hW0
    go_loopw [12] (fun v12 wr => ∃ i : Nat, i ≤ 64 ∧ v12 = .int .i64 (i : Int) ∧ Hid (∀ j, j < i → 0 ≤ dgN (s.data.toList.getD j 0).toNat) ∧ Hid (Blk wr w.heap.size 30 (UB (pv s.data.toList i))) ∧ Hid (Below w.heap.size w wr)) (fun v12 _ => 64 - (intOf v12).toNat)
    case atStart => exact ⟨0, by omega, rfl, Lib.hid (fun j hj => absurd hj (by omega)), Lib.hid (by rw [UB.congr (fun i _ => pv_zero s.data.toList i)]; exact HBX.out), HBW⟩
    case round =>
      obtain ⟨i, hi, rfl, HA, HB, HW⟩ := hrel
      clear HBX HBW
      by_cases hlt : i < 64
      · have hlt' : (i : Int) < 64 := by omega
        obtain ⟨b, hb⟩ : ∃ b, s.data.toList[i]? = some b := ⟨_, List.getElem?_eq_getElem (by rw [HLEN.out]; exact hlt)⟩
        have r0 := run_str s i b hb
        have hbd : s.data.toList.getD i 0 = b := by rw [List.getD_eq_getElem?_getD, hb]; rfl
        have HBD := Lib.hid hbd
        clear hb hbd
        go_wp2_with fail
        refine (index_any b _).mono ?_
        rintro e w' ⟨rfl, rfl⟩
        by_cases hd : 0 ≤ dgN b.toNat
        · have hdl := dgN_lt b.toNat
          obtain ⟨d, hdd⟩ : ∃ d : Nat, dgN b.toNat = (d : Int) := ⟨(dgN b.toNat).toNat, by omega⟩
          have HDS := Lib.hid (show dS s.data.toList i = d by unfold dS; rw [HBD.out, hdd]; omega)
          have HA2 : Hid (∀ j, j < i + 1 → 0 ≤ dgN (s.data.toList.getD j 0).toNat) := Lib.hid (fun j hj => by
            rcases Nat.lt_or_ge j i with h | h
            · exact HA.out j h
            · obtain rfl : j = i := by omega
              rw [HBD.out]
              exact hd)
          have hd16 : d < 16 := by omega
          rw [hdd]
          obtain ⟨x, hx⟩ : ∃ x, x = (pv s.data.toList i (i / 2)).toNat := ⟨_, rfl⟩
          have hm := pv_mid s.data.toList i
          rw [HDS.out, ← hx] at hm
          have c0 : wr.cell? ⟨w.heap.size, i / 2, none⟩ = some (.int .u8 (x : Int)) := by rw [HB.out.cell, UB.at_ (by omega), hx]
          have f0 := HB.out.frozen (i / 2)
          obtain ⟨y, hyy⟩ : ∃ y : UInt8, y = pv s.data.toList (i + 1) (i / 2) := ⟨_, rfl⟩
          have ho : bits .or .u8 ((x : Int) * 16 % 256) (d : Int) = (y.toNat : Int) := by rw [hyy, ← hm.2]; exact or_dig x d hm.1 hd16
          have hdm : (d : Int) % 256 = (d : Int) := by omega
          have HY := Lib.hid hyy
          have hd0 : (0 : Int) ≤ (d : Int) := by omega
          clear hm hx hd hdd hdl hyy
          go_wp2_with fail
          have HB2 := Lib.hid (show Blk (wr.setCell ⟨w.heap.size, i / 2, none⟩ (.int .u8 (y.toNat : Int))) w.heap.size 30 (UB (pv s.data.toList (i + 1))) by
            rw [← UB.congr (fun j _ => pv_succ s.data.toList i j), ← UB.set, HY.out]
            exact HB.out.set_ _ _)
          exact ⟨⟨i + 1, by omega, by go_num, HA2, HB2, Lib.hid (HW.out.setCell (p := ⟨w.heap.size, i / 2, none⟩) (Nat.le_refl _) _)⟩, by simp [intOf]; omega⟩
        · have hd0 : dgN b.toNat < 0 := by omega
          have HP := Lib.hid (show parseN s.data.toList = (List.replicate 32 0, 3) by
            unfold parseN
            rw [if_neg]
            rintro ⟨-, h⟩
            have := List.all_eq_true.1 h i (List.mem_range.2 hlt)
            rw [HBD.out] at this
            simp at this
            omega)
          clear hd
          go_wp2_with (first
            | ((with_reducible show wpList Try.prog _ _ ({ dst := _, op := Op.build 30 _, type := _, pos := _, after := _, guard := none } :: _) _ _); refine wl_build rfl 30 _ rfl (cs := UB (fun _ => 0)) (by simp [Act.eval]; exact built30) ?_)
            | (refine wl_st30 rfl (.tmp 2) (.tmp 21) rfl rfl rfl HB.out (UB.size _) ?_; intro w5 hb5 hg5))
          refine bodyPost_ret (results_cell2 rfl rfl (run_loadVar_row w5 _ 30 30 (UB (fun _ => 0)) (0, 0) _ hb5 Try.underlying30 rfl (by rw [size30, UB.size]))) rfl ⟨?_, HW.out.trans (only_below hg5 (Nat.le_refl _) HW.out.size)⟩
          rw [HP.out, UB_zero]
          rfl
      · obtain rfl : i = 64 := by omega
        have HP := Lib.hid (show parseN s.data.toList = ((List.range 32).map (pv s.data.toList 64), 0) by
          unfold parseN
          rw [if_pos ⟨HLEN.out, List.all_eq_true.2 fun j hj => by simpa using HA.out j (List.mem_range.1 hj)⟩])
        clear hlt
        go_wp2_with (first
          | (refine wl_ld30 rfl (.tmp 2) rfl rfl HB.out ?_)
          | (refine wl_st30 rfl (.tmp 2) (.tmp 34) rfl rfl rfl HB.out (UB.size _) ?_; intro w5 hb5 hg5))
        refine bodyPost_ret (results_cell2 rfl rfl (run_loadVar_row w5 _ 30 30 (UB (pv s.data.toList 64)) (0, 0) _ hb5 Try.underlying30 rfl (by rw [size30, UB.size]))) rfl ⟨?_, HW.out.trans (only_below hg5 (Nat.le_refl _) HW.out.size)⟩
        rw [HP.out, UB_parse]
        rfl
  · have hP : parseN s.data.toList = (List.replicate 32 0, 3) := by
      unfold parseN
      rw [if_neg]
      rintro ⟨h, -⟩
      exact hl (by simpa using h)
    have HP := Lib.hid hP
    have ht : ((s.size : Int) != 64) = true := by simp; omega
    clear hP hl
    go_enter Try.func18, Try.ntmps18
    go_wp2_with (first
      | (refine wl_ld30 rfl (.tmp 2) rfl rfl HBX.out ?_)
      | (refine wl_st30 rfl (.tmp 2) (.tmp 9) rfl rfl rfl HBX.out (UB.size _) ?_; intro w5 hb5 hg5))
    refine bodyPost_ret (results_cell2 rfl rfl (run_loadVar_row w5 _ 30 30 (UB (fun _ => 0)) (0, 0) _ hb5 Try.underlying30 rfl (by rw [size30, UB.size]))) rfl ⟨?_, HBW.out.trans (only_below hg5 (Nat.le_refl _) HBW.out.size)⟩
    rw [HP.out, UB_zero]
    rfl
end Go.Proofs.Ytepcbnkhfiphdaa
