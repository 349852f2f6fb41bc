/- The walk of PutDir (node). Conditions: each theorem's premises. -/
import Derived.Test.YtaebmhbggbpnoaaGNd9
namespace Go.Proofs.Ytaebmhbggbpnoaa
open Go.RowKit
abbrev pdFE (l : List EV) : Int := pdF partB cmpS l
abbrev pdBE (l : List EV) : List UInt8 := pdB partB cmpS l
abbrev pdKE (l : List EV) : Int := pdK partB cmpS l
theorem right_names {l : List EV} (h : rightE l = true) : ∀ (i : Nat) (x : EV), l[i]? = some x → x.name.size ≤ 20 := by
  intro i x hx
  unfold rightE rightD at h
  simp only [Bool.and_eq_true, List.all_eq_true] at h
  have hi : i < l.length := (List.getElem?_eq_some_iff.1 hx).1
  have h1 := h.1 i (List.mem_range.2 hi)
  unfold stepD at h1
  rw [hx] at h1
  simp only [Bool.and_eq_true] at h1
  have h2 := h1.1
  unfold partB at h2
  split at h2
  · cases h2
  · next hn => exact Nat.le_of_not_lt (fun e => hn (.inr (.inl e)))
set_option maxRecDepth 100000 in
theorem nd_putdir (w : World) (S : Nat → Prop) (A : Option Addr) (n c : Nat) (l : List EV) (hx : Es w S A n c l) (hn : n ≤ 100000) :
    Calls Try.prog 57 #[.slice A n c] w fun e w' => ∃ A' n' c', e = .returned (.tuple #[.agg #[.int .i64 (pdKE l), .slice A' n' c'], .int .i64 (pdFE l)]) ∧ Bs w' (fun j => w.heap.size ≤ j) A' n' c' (pdBE l) ∧ n' ≤ 5000 ∧ Below w.heap.size w w' := by
  obtain ⟨W, hW⟩ : ∃ W, W = w.alloc (.cells #[.int .i64 0, .slice none 0 0] 86) := ⟨_, rfl⟩
  have HB : Hid (∀ w', Below W.heap.size W w' → Below w.heap.size w w' ∧ Blk w' w.heap.size 86 #[.int .i64 0, .slice none 0 0]) := Lib.hid fun w' h => by
    have h0 : Below w.heap.size w W := by rw [hW]; exact (Below.refl _ _).alloc (Nat.le_refl _) _
    exact ⟨h0.trans (h.mono h0.size), Blk.below (by rw [hW]; exact Blk.new w 86 _) h (by rw [hW]; simp)⟩
  have HSZ : Hid (W.heap.size = w.heap.size + 1) := Lib.hid (by rw [hW]; simp)
  have HX := Lib.hid hx
  have HL := Lib.hid hx.len
  have HALL := Lib.hid hx.all
  clear hx
  go_enter Try.func57, Try.ntmps57
  go_wp2_with fail
  rw [← hW]
  clear hW
  refine (nd_right W S A n c l (HX.out.after (by omega) (HB.out W (Below.refl _ _)).1) (by omega)).mono ?_
  rintro e w1 ⟨rfl, hb1⟩
  have HB1 := Lib.hid hb1
  obtain ⟨hbw1, hk2⟩ := HB.out w1 hb1
  have HBW1 := Lib.hid hbw1
  have HK2 := Lib.hid hk2
  have HX1 := Lib.hid (HX.out.after (by omega) hbw1)
  obtain ⟨q0, q1, q2, q3, -⟩ := hk2.two
  have HZ1 : Hid (w.heap.size + 1 ≤ w1.heap.size) := Lib.hid (by have := HSZ.out; have := hb1.size; omega)
  clear hb1 hbw1 hk2
  obtain ⟨R, hR⟩ : ∃ R, R = rightE l := ⟨_, rfl⟩
  rw [← hR]
  cases R with
  | true =>
    have HRT : Hid (rightE l = true) := Lib.hid hR.symm
    clear hR
    go_wp2_with fail
    go_loopw [4, 14] (fun v4 v14 wr => ∃ (k : Nat) (A4 : Option Addr) (c4 : Nat), k ≤ n ∧ v14 = .int .i64 (k : Int) ∧ v4 = .slice A4 k c4 ∧ Hid (LO wr (fun j => w1.heap.size ≤ j) w1.heap.size 27 (.slice A4 k c4) k ((l.take k).map entT)) ∧ Hid (Below w1.heap.size w1 wr)) (fun _ v14 _ => n - (intOf v14).toNat)
    case atStart => exact ⟨0, none, 0, Nat.zero_le _, rfl, rfl, Lib.hid (by simpa using LO.nil _ _ _ _), Lib.hid (Below.refl _ _)⟩
    case round =>
      obtain ⟨k, A4, c4, hk, rfl, rfl, HLO, HBR⟩ := hrel
      by_cases hlt : k < n
      · have hlt' : (k : Int) < (n : Int) := by omega
        obtain ⟨ad, p, x, rfl, hp, hl, hat, hsz, -⟩ := (HX1.out.after (by omega) HBR.out).at_ hlt
        obtain ⟨RV, hRV⟩ : ∃ R, R = EC x := ⟨_, rfl⟩
        have HS := Lib.hid hsz
        have HAT := Lib.hid hat.out
        have hxs := right_names HRT.out k x hl.out
        have HVAL : Hid (∀ W, Calls Try.prog 108 #[.agg RV] W fun e w' => ∃ q, e = .returned q.agg ∧ VR w' (fun j => W.heap.size ≤ j) q (entT x) ∧ Below W.heap.size W w') := Lib.hid (by rw [hRV]; exact fun W => nd_entvalue W x (by have := hsz; simp [EC, u8s] at this; exact this) (by omega))
        rw [← hRV] at HS HAT
        have HO : Hid (RV.all (·.oneCell') = true) := Lib.hid (by rw [hRV]; exact EC_one x)
        clear hat hsz hRV hxs
        go_wp2_with (first | (refine wl_ldA (cs := RV) rfl 144 (.tmp 16) rfl (by rw [HS.out]; exact wide144) rfl HAT.out ?_) | (refine wl_stA (cs := RV) rfl 144 (.tmp 6) (.tmp 17) rfl (by rw [HS.out]; exact wide144) rfl rfl (Blk.new wr 144 _) (by rw [HS.out]; rfl) HO.out ?_; intro w2 hb2 hg2 hf2; go_must ((have HBK := Lib.hid hb2))) | (refine wl_ldA (cs := RV) rfl 144 (.tmp 6) rfl (by rw [HS.out]; exact wide144) rfl (At.blk HBK.out) ?_))
        refine (HVAL.out w2).mono ?_
        rintro e w3 ⟨q, rfl, hv, hb3⟩
        have HB2 : Hid (Below wr.heap.size wr w2) := Lib.hid (((Below.refl _ _).alloc (Nat.le_refl _) _).trans (hf2 _ (Nat.le_refl _)))
        have HB3 : Hid (Below wr.heap.size wr w3) := Lib.hid (HB2.out.trans (hb3.mono HB2.out.size))
        obtain ⟨u, m, z1, z2, P1, P2, i1, i2, i3, i4, rfl, -⟩ := hv.opens
        have HV := Lib.hid hv
        have HLO3 := Lib.hid (HLO.out.after HB3.out)
        clear hb2 hg2 hf2 hv hb3
        dsimp only [Quad.agg]
        go_wp2_with (at_builtin; go_must ((refine wl_appV (k := k) (l := (l.take k).map entT) (y := entT x) (base := w1.heap.size) (T := fun j => w1.heap.size ≤ j) (v := .slice A4 k c4) rfl (.tmp 20) (.tmp 23) rfl rfl rfl HLO3.out HV.out ?_ (by omega) (Nat.le_trans HBR.out.size HB3.out.size) ?_)); (intro j hj _; have h1 := HBR.out.size; have h2 := HB2.out.size; refine ⟨by omega, fun e => ?_⟩; obtain ⟨_, _, _, _, ho, _⟩ := HLO.out; have h3 := (ho.lt _ e.symm).2; omega); (intro A7 c7 w4 hlo4 hb4))
        refine ⟨⟨k + 1, A7, c7, by omega, by go_num, rfl, Lib.hid ?_, Lib.hid ((HBR.out.trans (HB3.out.mono HBR.out.size)).trans hb4)⟩, by simp [intOf]; omega⟩
        have hT : (l.take (k + 1)).map entT = (l.take k).map entT ++ [entT x] := by
          rw [take_snoc hl.out, List.map_append]
          rfl
        rw [hT]
        exact hlo4
      · obtain rfl : k = n := by omega
        have hT : l.take k = l := List.take_of_length_le (by rw [HL.out]; exact Nat.le_refl _)
        have HLR : Hid (LR wr (fun j => w1.heap.size ≤ j) A4 k c4 (l.map entT)) := Lib.hid (by
          have h := HLO.out.reads
          rw [hT] at h
          exact h.keep (fun _ _ _ => rfl) (fun j hj _ => by omega))
        have HBWr := Lib.hid (HB1.out.trans (HBR.out.mono HB1.out.size))
        have HZr := Lib.hid HBR.out.size
        clear q0 q1 q2 q3
        go_wp2_with fail
        refine (manyS_any wr (fun j => w1.heap.size ≤ j) A4 k c4 (l.map entT) HLR.out).mono ?_
        rintro e w3 ⟨q, rfl, hv, hb3⟩
        have HB3 := Lib.hid hb3
        have HV4 : Hid (VR w3 (fun j => w1.heap.size ≤ j) q (dirT l)) := Lib.hid (hv.keep (fun _ _ _ => rfl) (fun j hj _ => by have := HZr.out; omega))
        clear hv hb3
        go_wp2_with fail
        refine (nd_object w3 _ 3 q _ HV4.out).mono ?_
        rintro e w5 ⟨A5, n5, c5, rfl, hbs, hn5, hb5⟩
        have HB5 : Hid (Below wr.heap.size wr w5) := Lib.hid (HB3.out.trans (hb5.mono HB3.out.size))
        have HBS := Lib.hid hbs
        have HBW5 := Lib.hid (HBWr.out.trans (HB5.out.mono HBWr.out.size))
        obtain ⟨hbw, hk86⟩ := HB.out w5 HBW5.out
        obtain ⟨r0, r1, r2, r3, -⟩ := hk86.two
        have HK := Lib.hid hk86
        have HBB := Lib.hid hbw
        have HZ5 : Hid (w.heap.size + 1 ≤ w3.heap.size) := Lib.hid (by have := HZ1.out; have := HZr.out; have := HB3.out.size; omega)
        clear hbs hb5 hk86 hbw
        go_wp2_with fail
        refine bodyPost_ret (results_cell2 rfl rfl (load86 (set2_blk HK.out _ _))) rfl ⟨A5, n5, c5, ?_, ?_, hn5, set2_below HBB.out _ (Nat.le_refl _) _ _⟩
        · unfold pdKE pdFE pdK pdF
          rw [show rightD partB cmpS l = true from HRT.out]
          rfl
        · unfold pdBE pdB
          rw [show rightD partB cmpS l = true from HRT.out]
          exact HBS.out.keep (fun p hp _ => set2_other _ _ _ _ p (by have := HZ5.out; omega)) (fun j hj _ => by have := HZ5.out; omega)
  | false =>
    have HRF : Hid (rightE l = false) := Lib.hid hR.symm
    clear hR
    go_wp2_with fail
    refine bodyPost_ret (results_cell2 rfl rfl (load86 (set2_blk HK2.out _ _))) rfl ⟨none, 0, 0, ?_, ?_, by omega, set2_below HBW1.out _ (Nat.le_refl _) _ _⟩
    · unfold pdKE pdFE pdK pdF
      rw [show rightD partB cmpS l = false from HRF.out]
      rfl
    · unfold pdBE pdB
      rw [show rightD partB cmpS l = false from HRF.out]
      exact Bs.nil _ _ _
end Go.Proofs.Ytaebmhbggbpnoaa
