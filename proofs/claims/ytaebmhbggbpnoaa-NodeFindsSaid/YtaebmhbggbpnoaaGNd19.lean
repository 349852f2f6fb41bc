/- The walk of GetDir (node). Conditions: each theorem's premises. -/
import Derived.Test.YtaebmhbggbpnoaaGNd13
namespace Go.Proofs.Ytaebmhbggbpnoaa
open Go.RowKit
abbrev gotDE (k : Int) (b : List UInt8) : Option (List EV) := gotD partB cmpS k b
abbrev gdFE (k : Int) (b : List UInt8) : Int := gdF partB cmpS k b
abbrev gdXE (k : Int) (b : List UInt8) : List EV := gdX partB cmpS k b
/-- What GetDir's answer says of an object. -/
def GetDir (w : World) (k : Int) (b : List UInt8) (e : Ending) (w' : World) : Prop := ∃ A n c, e = .returned (.tuple #[.slice A n c, .int .i64 (gdF partB cmpS k b)]) ∧ Es w' (fun j => w.heap.size ≤ j) A n c (gdX partB cmpS k b) ∧ Below w.heap.size w w'
theorem GetDir.no {w w' : World} {k : Int} {b : List UInt8} {f : Int} (h : gotD partB cmpS k b = none) (hf : gdF partB cmpS k b = f) (hb : Below w.heap.size w w') : GetDir w k b (.returned (.tuple #[.slice none 0 0, .int .i64 f])) w' := by
  have e : gdX partB cmpS k b = [] := by unfold gdX; rw [h]; rfl
  exact ⟨none, 0, 0, by rw [hf], by rw [e]; exact Ls.nil _ _ _, hb⟩
theorem gdF_3 {b : List UInt8} (h : gotD partB cmpS 3 b = none) : gdF partB cmpS 3 b = 3 := by unfold gdF; rw [if_pos rfl, h]; rfl
set_option maxRecDepth 100000 in
set_option maxHeartbeats 4000000 in
theorem nd_getdir (w : World) (S : Nat → Prop) (k : Int) (A : Option Addr) (n c : Nat) (b : List UInt8) (hx : Bs w S A n c b) (hn : n ≤ 1000000000) : Calls Try.prog 59 #[.agg #[.int .i64 k, .slice A n c]] w (GetDir w k b) := by
  obtain ⟨W, hW⟩ : ∃ W, W = w.alloc (.cells #[.int .i64 k, .slice A n c] 86) := ⟨_, rfl⟩
  have HB : Hid (∀ w', Below W.heap.size W w' → Below w.heap.size w w' ∧ Blk w' w.heap.size 86 #[.int .i64 k, .slice A n c]) := Lib.hid fun w' h => by
    have h0 : Below w.heap.size w W := by rw [hW]; exact (Below.refl _ _).alloc (Nat.le_refl _) _
    exact ⟨h0.trans (h.mono h0.size), Blk.below (by rw [hW]; exact Blk.new w 86 _) h (by rw [hW]; simp)⟩
  have HSZ : Hid (W.heap.size = w.heap.size + 1) := Lib.hid (by rw [hW]; simp)
  have HX := Lib.hid hx
  have HLN := Lib.hid hx.len
  clear hx
  go_enter Try.func59, Try.ntmps59
  by_cases hk : k = 3
  · subst hk
    go_wp2_with fail
    rw [← hW]
    clear hW
    obtain ⟨p0, p1, -⟩ := (HB.out W (Below.refl _ _)).2.two
    go_wp2_with fail
    refine (get_any W _ A n c b (HX.out.after (HB.out W (Below.refl _ _)).1) hn).mono ?_
    rintro e w1 ⟨q, rfl, hv, hb1⟩
    have HB1 := Lib.hid hb1
    obtain ⟨u, m, z1, z2, P1, P2, i1, i2, i3, i4, rfl, hve, -, -, -, hlr⟩ := hv.opens
    have HVE := Lib.hid hve
    have HLR := Lib.hid hlr.oldS
    have HLL := Lib.hid hlr.len
    have hfew := hlr.few
    obtain ⟨hbw1, hk1⟩ := HB.out w1 hb1
    have HBW1 := Lib.hid hbw1
    have HZ1 : Hid (w.heap.size + 1 ≤ w1.heap.size) := Lib.hid (by have := HSZ.out; have := hb1.size; omega)
    have HALL : Hid (∀ w', Below w1.heap.size w1 w' → Blk w' w.heap.size 86 #[.int .i64 3, .slice A n c]) := Lib.hid fun w' h => hk1.after h
    obtain ⟨F, hF⟩ : ∃ F, F = getF b := ⟨_, rfl⟩
    rw [← hF]
    have HF := Lib.hid hF
    clear hb1 hbw1 hk1 hv hF p0 p1 hve hlr
    dsimp only [Quad.agg]
    go_wp2_with fail
    obtain ⟨W2, hW2⟩ : ∃ W2, W2 = w1.alloc (.cells #[.int .i64 u, .int .u64 (m : Int), .slice P1 i1 i2, .slice P2 i3 i4] 27) := ⟨_, rfl⟩
    have HB2 : Hid (Below w1.heap.size w1 W2) := Lib.hid (by rw [hW2]; exact (Below.refl _ _).alloc (Nat.le_refl _) _)
    rw [← hW2]
    clear hW2
    refine (nd_parts_any W2 u m P1 P2 i1 i2 i3 i4).mono ?_
    rintro e w3 ⟨rfl, hb3⟩
    have HB3 : Hid (Below w1.heap.size w1 w3) := Lib.hid (HB2.out.trans (hb3.mono HB2.out.size))
    clear hb3
    have hk1 := HALL.out w3 HB3.out
    obtain ⟨p0, p1, -⟩ := hk1.two
    have HBF : Hid (Below w.heap.size w w3) := Lib.hid (HBW1.out.trans (HB3.out.mono HBW1.out.size))
    have HZ3 : Hid (w.heap.size + 1 ≤ w3.heap.size) := Lib.hid (by have := HZ1.out; have := HB3.out.size; omega)
    have HLR3 := Lib.hid ((HLR.out.after HB3.out).keep (S' := fun j => j < w3.heap.size) (fun _ _ _ => rfl) (fun j hj hlt => hlt))
    clear hk1
    by_cases hf : F = 0
    · subst hf
      by_cases h3 : u = 3
      · subst h3
        rw [decide_eq_true rfl]
        by_cases hl : n ≤ 5000
        · have hl' : decide ((5000 : Int) < (n : Int)) = false := by simp; omega
          have HG : Hid (gotD partB cmpS 3 b = (allT asEntT z2).bind fun l => if rightD partB cmpS l = true then some l else none) := Lib.hid (by
            unfold gotD
            rw [if_pos ⟨rfl, HF.out.symm, by rw [HLN.out]; exact hl⟩, HVE.out]
            rfl)
          go_wp2_with fail
          go_loopw [2, 3, 39] (fun v2 v3 v39 wr => v3 = .int .i64 0 ∧ ∃ (k : Nat) (A4 : Option Addr) (c4 : Nat) (l : List EV), k ≤ i3 ∧ v39 = .int .i64 (k : Int) ∧ v2 = .slice A4 k c4 ∧ Hid (allT asEntT (z2.take k) = some l) ∧ Hid (wr.ownsRow w3.heap.size 144 34 (.slice A4 k c4) k (l.flatMap fun x => (EC x).toList)) ∧ Hid (Below w3.heap.size w3 wr)) (fun _ _ v39 _ => i3 - (intOf v39).toNat)
          case atStart => exact ⟨rfl, 0, none, 0, [], Nat.zero_le _, rfl, rfl, Lib.hid rfl, Lib.hid (World.ownsRow_nil _ _ _ _), Lib.hid (Below.refl _ _)⟩
          case round =>
            obtain ⟨rfl, k, A4, c4, l, hk, rfl, rfl, HAL, HOW, HBR⟩ := hrel
            have HZr : Hid (w3.heap.size ≤ wr.heap.size) := Lib.hid HBR.out.size
            by_cases hlt : k < i3
            · have hlt' : (k : Int) < (i3 : Int) := by omega
              obtain ⟨ad3, x3, q3, v3, rfl, hx3, hv3, hr3, t0, t1, t2, t3, -, -⟩ := (HLR3.out.under (B := w3.heap.size) (fun j h => h) HBR.out).at_ hlt
              have HR3 := Lib.hid hr3
              obtain ⟨tg3, N3, b3, l3, A32, A33, n32, c32, n33, c33, rfl, -⟩ := hr3.opens
              dsimp only at t0 t1 t2 t3
              have HV3 := Lib.hid hv3.out
              clear hv3 hr3
              go_wp2_with fail
              refine (nd_asentry _ _ _ v3 (HR3.out.after ((Below.refl _ _).alloc (Nat.le_refl _) (.cells #[.int .i64 tg3, .int .u64 (N3 : Int), .slice A32 n32 c32, .slice A33 n33 c33] 27)))).mono ?_
              rintro e w4 ⟨x, rfl, hxo, hsome, hb4⟩
              have HSOME := Lib.hid hsome
              have HB4 : Hid (Below wr.heap.size wr w4) := Lib.hid (((Below.refl _ _).alloc (Nat.le_refl _) _).trans (hb4.mono (by simp)))
              have HOW4 := Lib.hid (own_below HOW.out HB4.out (Nat.le_refl _))
              have HBR4 : Hid (Below w3.heap.size w3 w4) := Lib.hid (HBR.out.trans (HB4.out.mono HBR.out.size))
              have HZ4 : Hid (w3.heap.size ≤ w4.heap.size) := Lib.hid HBR4.out.size
              obtain ⟨RV, hRV⟩ : ∃ R, R = EC x := ⟨_, rfl⟩
              have HRV := Lib.hid hRV
              have HS : Hid (RV.size = 34) := Lib.hid (by rw [hRV]; exact EC_size hxo)
              have HO : Hid (RV.all (·.oneCell') = true) := Lib.hid (by rw [hRV]; exact EC_one _)
              have HXO := Lib.hid hxo
              obtain ⟨ie, zz, hie, hzz, hsz, hfill⟩ := fill_ent 144 (.inl rfl) x hxo
              rw [← hRV] at hfill
              have HFI := Lib.hid (And.intro hie (And.intro hzz (And.intro hsz hfill)))
              rw [← hRV]
              obtain ⟨I, hI⟩ : ∃ I, I = (asEntT v3).isSome := ⟨_, rfl⟩
              rw [← hI]
              have HI := Lib.hid hI
              clear hb4 hsome hRV hxo hie hzz hsz hfill hI
              cases I with
              | true =>
                have HAS : Hid (asEntT v3 = some x) := Lib.hid (by
                  obtain ⟨y, hy⟩ := Option.isSome_iff_exists.1 HI.out.symm
                  rw [hy, HSOME.out y hy])
                have HNX : Hid (allT asEntT (z2.take (k + 1)) = some (l ++ [x])) := Lib.hid (allT_next HAL.out HV3.out HAS.out)
                go_wp2_with (first | (refine wl_stA (cs := RV) rfl 144 (.tmp 9) (.tmp 46) rfl (by rw [HS.out]; exact wide144) rfl rfl (Blk.new w4 144 _) (by rw [HS.out]; rfl) HO.out ?_; intro w5 hb5 hg5 hf5; go_must ((have HBH := Lib.hid hb5; have HF5 := Lib.hid (((Below.refl w4.heap.size w4).alloc (Nat.le_refl _) _).trans (hf5 _ (Nat.le_refl _))); clear hb5 hg5 hf5))) | (refine wl_ldA (cs := RV) rfl 144 (.tmp 9) rfl (by rw [HS.out]; exact wide144) rfl (At.blk HBH.out) ?_) | (with_reducible show wpList Try.prog _ _ ({ dst := some 52, op := Op.buildSlice 96 1 _, type := _, pos := _, after := _, guard := none } :: _) _ _; go_must ((simp only [Act.put, List.setIfInBounds_toArray, List.set_cons_zero, List.set_cons_succ]; refine wpList_buildSlice rfl 96 144 1 _ rfl RV ie zz Try.underlying96 HFI.out.1 HFI.out.2.1 (by rw [HFI.out.2.2.1]; omega) (by rw [HFI.out.2.2.1]; omega) ((congrArg (Instr.fill _ _) (by simp only [List.map_toArray, List.map_cons, List.map_nil]; refine congrArg (fun v => [((0 : Nat), v)]) ?_; first | rfl | (simp [Act.eval]; done) | (go_simp; done))).trans HFI.out.2.2.2) ?_)); simp only [Act.put, List.setIfInBounds_toArray, List.set_cons_zero, List.set_cons_succ]) | (at_builtin; go_must ((refine wl_appA (enc := EC) (l := l) (y := x) (base := w3.heap.size) (v := .slice A4 k c4) (k := k) (g := w5.heap.size) (t := 144) Try.underlying96 info144 (by rw [Value.cells]; exact EC_size noEnt_ok) (by omega) (by omega) rfl (.tmp 50) (.tmp 52) rfl (by first | rfl | (simp [Act.eval]; done)) (by first | rfl | (simp [Act.eval]; done)) (own_below HOW4.out (HF5.out.alloc HF5.out.size _) (Nat.le_refl _)) (by rw [← HRV.out]; exact Blk.new w5 144 RV) (by rw [← HRV.out]; exact HS.out) (EC_one x) (by omega) (by have := HZ4.out; have := HF5.out.size; simp; omega) ?_)); (intro A7 c7 w6 hown6 hb6)))
                exact ⟨⟨rfl, k + 1, A7, c7, l ++ [x], by omega, by go_num, rfl, HNX, Lib.hid hown6, Lib.hid (HBR4.out.trans ((HF5.out.mono HZ4.out).trans (((Below.refl _ _).alloc (by have := HZ4.out; have := HF5.out.size; omega) _).trans hb6)))⟩, by simp [intOf]; omega⟩
              | false =>
                have HAS : Hid (asEntT v3 = none) := Lib.hid (Option.isNone_iff_eq_none.1 (Option.isSome_eq_false_iff.1 HI.out.symm))
                have HNO : Hid (gotD partB cmpS 3 b = none) := Lib.hid (by rw [HG.out, allT_none HV3.out HAS.out]; rfl)
                go_wp2_with (refine wl_stA (cs := RV) rfl 144 (.tmp 9) (.tmp 46) rfl (by rw [HS.out]; exact wide144) rfl rfl (Blk.new w4 144 _) (by rw [HS.out]; rfl) HO.out ?_; intro w5 hb5 hg5 hf5; go_must ((have HF5 := Lib.hid (((Below.refl w4.heap.size w4).alloc (Nat.le_refl _) _).trans (hf5 _ (Nat.le_refl _))); clear hb5 hg5 hf5)))
                go_ret2
                exact GetDir.no HNO.out (gdF_3 HNO.out) (HBF.out.trans ((HBR4.out.trans (HF5.out.mono HZ4.out)).mono HBF.out.size))
            · obtain rfl : k = i3 := by omega
              have HAL2 : Hid (allT asEntT z2 = some l) := Lib.hid (by
                have h := HAL.out
                rw [List.take_of_length_le (by rw [HLL.out]; exact Nat.le_refl _)] at h
                exact h)
              have HHL : Hid (l.length = k) := Lib.hid (by rw [allT_len HAL2.out]; exact HLL.out)
              have HLS : Hid (Es wr (fun j => w3.heap.size ≤ j) A4 k c4 l) := Lib.hid (Ls.of_own HOW.out HHL.out (fun x hx => EC_size (allT_all (p := EV.ok) HAL2.out (fun v x hv => asEnt_ok hv) x hx)))
              have HBX : Hid (Below w.heap.size w wr) := Lib.hid (HBF.out.trans (HBR.out.mono HBF.out.size))
              clear hlt
              go_wp2_with fail
              refine (nd_right wr _ A4 k c4 l HLS.out hfew).mono ?_
              rintro e w4 ⟨rfl, hb4⟩
              have HLS4 := Lib.hid (HLS.out.after (by omega) hb4)
              have HB4 := Lib.hid (HBX.out.trans (hb4.mono HBX.out.size))
              clear hb4
              obtain ⟨R, hR⟩ : ∃ R, R = rightE l := ⟨_, rfl⟩
              rw [← hR]
              have HR := Lib.hid hR
              clear hR
              cases R with
              | true =>
                have HGS : Hid (gotD partB cmpS 3 b = some l) := Lib.hid (by rw [HG.out, HAL2.out, Option.bind_some, if_pos HR.out.symm])
                go_wp2_with fail
                go_ret2
                obtain ⟨h1, h2⟩ := gdF_some HGS.out
                exact ⟨A4, k, c4, by rw [h1]; rfl, by rw [h2]; exact HLS4.out.mono (fun j hj => by have := HZ3.out; omega), HB4.out⟩
              | false =>
                have HNO : Hid (gotD partB cmpS 3 b = none) := Lib.hid (by rw [HG.out, HAL2.out, Option.bind_some, if_neg (by rw [show rightD partB cmpS l = false from HR.out.symm]; simp)])
                go_wp2_with fail
                go_ret2
                exact GetDir.no HNO.out (gdF_3 HNO.out) HB4.out
        · have hl' : decide ((5000 : Int) < (n : Int)) = true := by simp; omega
          have HG : Hid (gotD partB cmpS 3 b = none) := Lib.hid (if_neg (fun e => hl (by rw [← HLN.out]; exact e.2.2)))
          go_wp2_with fail
          go_ret2
          exact GetDir.no HG.out (gdF_3 HG.out) HBF.out
      · rw [decide_eq_false h3]
        have HG : Hid (gotD partB cmpS 3 b = none) := Lib.hid (by
          unfold gotD
          split
          · unfold asDirT; rw [HVE.out]; exact if_neg h3
          · rfl)
        go_wp2_with fail
        go_ret2
        exact GetDir.no HG.out (gdF_3 HG.out) HBF.out
    · have HG : Hid (gotD partB cmpS 3 b = none) := Lib.hid (if_neg (fun e => hf (by rw [HF.out]; exact e.2.1)))
      have hf' : (F != 0) = true := by simpa using hf
      clear hf
      go_wp2_with fail
      go_ret2
      exact GetDir.no HG.out (gdF_3 HG.out) HBF.out
  · have hk' : (k != 3) = true := by simpa using hk
    have HG : Hid (gotD partB cmpS k b = none ∧ gdF partB cmpS k b = 1) := Lib.hid ⟨if_neg (fun e => hk e.1), if_neg hk⟩
    have HK := Lib.hid (HB.out W (Below.refl _ _))
    clear hk
    go_wp2_with fail
    rw [← hW]
    go_ret2
    exact GetDir.no HG.out.1 HG.out.2 HK.out.1
end Go.Proofs.Ytaebmhbggbpnoaa
