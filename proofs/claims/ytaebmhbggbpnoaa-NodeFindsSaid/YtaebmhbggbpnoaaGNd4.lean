/- The walks of object, compare, Part (node, tree). Conditions: each theorem's premises. -/
import Derived.Test.YtaebmhbggbpnoaaGNd1
import Derived.Test.YtaebmhbggbpnoaaShelfN
namespace Go.Proofs.Ytaebmhbggbpnoaa
open Go.RowKit
theorem load86 {W : World} {g t : Nat} {a b : Value} (hB : Blk W g t #[a, b]) : (loadVar 86 ⟨g, 0, none⟩).run Try.prog W = .ok (.agg #[a, b]) W := by
  have z0 := hB.cell 0
  have z1 := hB.cell 1
  simp at z0 z1
  simp [loadVar, go_sem, z0, z1]
theorem Blk.two {w : World} {g : Nat} {t : TypeId} {a b : Value} (h : Blk w g t #[a, b]) : w.cell? ⟨g, 0, none⟩ = some a ∧ w.cell? ⟨g, 1, none⟩ = some b ∧ w.frozen? ⟨g, 0, none⟩ = false ∧ w.frozen? ⟨g, 1, none⟩ = false ∧ g < w.heap.size := ⟨h.cell 0, h.cell 1, h.frozen 0, h.frozen 1, h.lt⟩
theorem set2_blk {w : World} {g : Nat} {t : TypeId} {a b : Value} (h : Blk w g t #[a, b]) (a' b' : Value) : Blk ((w.setCell ⟨g, 0, none⟩ a').setCell ⟨g, 1, none⟩ b') g t #[a', b'] := by
  have := (h.set_ 0 a').set_ 1 b'
  simpa using this
theorem set2_below {B : Nat} {w0 w : World} (h : Below B w0 w) (g : Nat) (hg : B ≤ g) (a b : Value) : Below B w0 ((w.setCell ⟨g, 0, none⟩ a).setCell ⟨g, 1, none⟩ b) :=
  (h.setCell (p := ⟨g, 0, none⟩) hg a).setCell (p := ⟨g, 1, none⟩) hg b
theorem set2_other (w : World) (g : Nat) (a b : Value) (p : Addr) (h : p.block ≠ g) : ((w.setCell ⟨g, 0, none⟩ a).setCell ⟨g, 1, none⟩ b).cell? p = w.cell? p := by
  rw [World.cell?_setCell_other _ _ _ _ (fun e => h (by rw [← e])), World.cell?_setCell_other _ _ _ _ (fun e => h (by rw [← e]))]
theorem objF_no {v : TV} (h : putF v ≠ 0 ∨ 5000 < (putB v).length) (k : Int) : objF v = 1 ∧ objB v = [] ∧ objK k v = 0 := by
  have hn : ¬ (putF v = 0 ∧ (putB v).length ≤ 5000) := fun e => by rcases h with h | h; exact h e.1; omega
  exact ⟨if_neg hn, if_neg hn, if_neg hn⟩
theorem putF_cases (v : TV) : putF v = 0 ∨ putF v = 1 := by unfold putF; split <;> simp
set_option maxRecDepth 100000 in
theorem nd_object (w : World) (S : Nat → Prop) (k : Int) (q : Quad) (v : TV) (h : VR w S q v) :
    Calls Try.prog 104 #[.int .i64 k, q.agg] w fun e w' => ∃ A n c, e = .returned (.tuple #[.agg #[.int .i64 (objK k v), .slice A n c], .int .i64 (objF v)]) ∧ Bs w' (fun j => w.heap.size ≤ j) A n c (objB v) ∧ n ≤ 5000 ∧ Below w.heap.size w w' := by
  obtain ⟨t, m, b, l, A2, A3, n2, c2, n3, c3, rfl, -⟩ := h.opens
  have HV := Lib.hid h
  clear h
  obtain ⟨W, hW⟩ : ∃ W, W = (w.alloc (.cells #[.int .i64 t, .int .u64 m, .slice A2 n2 c2, .slice A3 n3 c3] 27)).alloc (.cells #[.int .i64 0, .slice none 0 0] 86) := ⟨_, rfl⟩
  have HB : Hid (∀ w', Below W.heap.size W w' → Below w.heap.size w w' ∧ Blk w' w.heap.size 27 #[.int .i64 t, .int .u64 m, .slice A2 n2 c2, .slice A3 n3 c3] ∧ Blk w' (w.heap.size + 1) 86 #[.int .i64 0, .slice none 0 0]) := Lib.hid fun w' h => by
    have h0 : Below w.heap.size w W := by rw [hW]; exact ((Below.refl _ _).alloc (Nat.le_refl _) _).alloc (by simp) _
    exact ⟨h0.trans (h.mono h0.size), Blk.below (by rw [hW]; exact (Blk.new w 27 _).alloc _) h (by rw [hW]; simp; omega), Blk.below (by rw [hW]; exact blk_new' (by simp)) h (by rw [hW]; simp)⟩
  have HVW := Lib.hid (HV.out.after (HB.out W (Below.refl _ _)).1)
  have HSZ : Hid (W.heap.size = w.heap.size + 2) := Lib.hid (by rw [hW]; simp)
  simp only [Quad.agg]
  go_enter Try.func104, Try.ntmps104
  go_wp2_with fail
  rw [← hW]
  obtain ⟨p0, p1, p2, p3, -⟩ := (HB.out W (Below.refl _ _)).2.1.four
  clear hW
  refine (put_one v _ W _ HVW.out).mono ?_
  rintro e w1 ⟨A, n, c, rfl, hb, hn, hbe⟩
  have HBE := Lib.hid hbe
  have HX := Lib.hid hb
  have hlen := hb.len
  have HK := HB.out w1 hbe
  obtain ⟨x0, x1, f0, f1, -⟩ := HK.2.2.two
  have HKK := Lib.hid HK
  clear hbe hb HK p0 p1 p2 p3
  by_cases hf : putF v = 0
  · by_cases hl : n ≤ 5000
    · have HE : Hid (objF v = 0 ∧ objB v = putB v ∧ objK k v = k) := Lib.hid ⟨if_pos ⟨hf, by omega⟩, if_pos ⟨hf, by omega⟩, if_pos ⟨hf, by omega⟩⟩
      rw [hf]
      clear hlen
      go_wp2_with fail
      refine bodyPost_ret (results_cell2 rfl rfl (load86 (set2_blk HKK.out.2.2 _ _))) rfl ⟨A, n, c, by rw [HE.out.1, HE.out.2.2]; rfl, HE.out.2.1 ▸ HX.out.keep (fun p hp _ => set2_other _ _ _ _ p (by have := HSZ.out; omega)) (fun j hj _ => by have := HSZ.out; omega), hl, set2_below HKK.out.1 _ (Nat.le_succ _) _ _⟩
    · have HE := Lib.hid (objF_no (v := v) (.inr (by omega)) k)
      rw [hf]
      clear hlen
      have hl' : (5000 : Int) < (n : Int) := by omega
      go_wp2_with fail
      refine bodyPost_ret (results_cell2 rfl rfl (load86 (set2_blk HKK.out.2.2 _ _))) rfl ⟨none, 0, 0, by rw [HE.out.1, HE.out.2.2]; rfl, HE.out.2.1 ▸ Bs.nil _ _ _, by omega, set2_below HKK.out.1 _ (Nat.le_succ _) _ _⟩
  · have HE := Lib.hid (objF_no (v := v) (.inl hf) k)
    have h1 : putF v = 1 := by rcases putF_cases v with h | h; exact absurd h hf; exact h
    rw [h1]
    clear hlen hf
    go_wp2_with fail
    refine bodyPost_ret (results_cell2 rfl rfl (load86 (set2_blk HKK.out.2.2 _ _))) rfl ⟨none, 0, 0, by rw [HE.out.1, HE.out.2.2]; rfl, HE.out.2.1 ▸ Bs.nil _ _ _, by omega, set2_below HKK.out.1 _ (Nat.le_succ _) _ _⟩
/-- How two names stand. -/
def cmpS (a b : ByteArray) : Int := if Op.bytesLess a.toList b.toList = true then -1 else if (a.toList == b.toList) = false then 1 else 0
theorem nd_isnan (w : World) (s : ByteArray) : Calls Try.prog 143 #[.string s] w fun e w' => e = .returned (.bool false) ∧ w' = w := by
  go_enter Try.func143, Try.ntmps143
  go_wp2_with fail
  go_ret
  exact ⟨ret_bool (by simp), rfl⟩
theorem nd_cmp (w : World) (s t : ByteArray) : Calls Try.prog 135 #[.string s, .string t] w fun e w' => e = .returned (.int .i64 (cmpS s t)) ∧ w' = w := by
  by_cases h1 : Op.bytesLess s.toList t.toList = true
  · have HE : Hid (cmpS s t = -1) := Lib.hid (if_pos h1)
    rw [HE.out]
    go_enter Try.func135, Try.ntmps135
    go_wp2_with (first | (go_at_call 143; refine (nd_isnan w s).mono ?_; rintro e w1 ⟨rfl, rfl⟩) | (go_at_call 143; refine (nd_isnan w1 t).mono ?_; rintro e w2 ⟨rfl, rfl⟩))
    go_ret
    exact ⟨rfl, rfl⟩
  · have h1' : Op.bytesLess s.toList t.toList = false := by simpa using h1
    by_cases h2 : (s.toList == t.toList) = false
    · have HE : Hid (cmpS s t = 1) := Lib.hid (by unfold cmpS; rw [if_neg h1, if_pos h2])
      rw [HE.out]
      clear h1
      go_enter Try.func135, Try.ntmps135
      go_wp2_with (first | (go_at_call 143; refine (nd_isnan w s).mono ?_; rintro e w1 ⟨rfl, rfl⟩) | (go_at_call 143; refine (nd_isnan w1 t).mono ?_; rintro e w2 ⟨rfl, rfl⟩))
      go_ret
      exact ⟨rfl, rfl⟩
    · have h2' : (s.toList == t.toList) = true := by simpa using h2
      have HE : Hid (cmpS s t = 0) := Lib.hid (by unfold cmpS; rw [if_neg h1, if_neg h2])
      rw [HE.out]
      clear h1 h2
      go_enter Try.func135, Try.ntmps135
      go_wp2_with (first | (go_at_call 143; refine (nd_isnan w s).mono ?_; rintro e w1 ⟨rfl, rfl⟩) | (go_at_call 143; refine (nd_isnan w1 t).mono ?_; rintro e w2 ⟨rfl, rfl⟩))
      go_ret
      exact ⟨rfl, rfl⟩
set_option maxRecDepth 100000 in
theorem nd_compare (w : World) (a b : EV) :
    Calls Try.prog 116 #[.agg (EC a), .agg (EC b)] w fun e w' => e = .returned (.int .i64 (cmpS a.name b.name)) ∧ Below w.heap.size w w' := by
  obtain ⟨RA, hRA⟩ : ∃ R, R = EC a := ⟨_, rfl⟩
  obtain ⟨RB, hRB⟩ : ∃ R, R = EC b := ⟨_, rfl⟩
  have e0 : RA[0]? = some (.string a.name) := by rw [hRA]; exact EC_0 a
  have e1 : RB[0]? = some (.string b.name) := by rw [hRB]; exact EC_0 b
  have HB := Lib.hid (((Below.refl w.heap.size w).alloc (Nat.le_refl _) (.cells RA 144)).alloc (by simp) (.cells RB 144))
  rw [← hRA, ← hRB]
  clear hRA hRB
  go_enter Try.func116, Try.ntmps116
  go_wp2_with fail
  refine (nd_cmp _ a.name b.name).mono ?_
  rintro e w1 ⟨rfl, rfl⟩
  go_wp2_with fail
  go_ret
  exact ⟨rfl, HB.out⟩
/-! ### Part -/
def oddR (c : Nat) : Bool := decide ((c : Int) < 33) || decide ((126 : Int) < (c : Int)) || ((c : Int) == 47)
theorem nd_odd (w : World) (c : Nat) : Calls Try.prog 139 #[.int .i32 (c : Int)] w fun e w' => e = .returned (.bool (oddR c)) ∧ ∃ q, w' = w.drewN q := by
  by_cases h1 : (c : Int) < 33
  · have HE : Hid (oddR c = true) := Lib.hid (by unfold oddR; simp; omega)
    go_enter Try.func139, Try.ntmps139
    go_wp2_with fail
    go_ret
    exact ⟨ret_bool HE.out.symm, 0, rfl⟩
  · by_cases h2 : (126 : Int) < (c : Int)
    · have HE : Hid (oddR c = true) := Lib.hid (by unfold oddR; simp; omega)
      go_enter Try.func139, Try.ntmps139
      go_wp2_with fail
      go_ret
      exact ⟨ret_bool HE.out.symm, 0, rfl⟩
    · have HE : Hid (oddR c = ((c : Int) == 47)) := Lib.hid (by unfold oddR; rw [decide_eq_false h1, decide_eq_false h2]; simp)
      go_enter Try.func139, Try.ntmps139
      go_wp2_with fail
      go_ret
      exact ⟨ret_bool HE.out.symm, 0, rfl⟩
def partB (s : ByteArray) : Bool := if s.toList = [] ∨ 20 < s.size ∨ s.toList = [46] ∨ s.toList = [46, 46] then false else !decide (0 ≤ Lib.idxFunc oddR true s)
end Go.Proofs.Ytaebmhbggbpnoaa
namespace Go.Proofs.Ytaebmhbggbpnoaa
open Go.RowKit
set_option maxRecDepth 100000 in
theorem nd_part (w : World) (s : ByteArray) : Calls Try.prog 132 #[.string s] w fun e w' => e = .returned (.bool (partB s)) ∧ Below w.heap.size w w' := by
  have HC := Lib.hid (fun (w : World) => Try.strings_ContainsFunc 139 #[] (fun _ _ => by rfl) oddR s w (fun W x _ => nd_odd W x))
  by_cases h0 : s.toList = []
  · have HE : Hid (partB s = false) := Lib.hid (if_pos (.inl h0))
    go_enter Try.func132, Try.ntmps132
    go_wp2_with fail
    go_ret
    exact ⟨ret_bool HE.out.symm, Below.refl _ _⟩
  · by_cases h1 : s.size ≤ 20
    · have h1' : (s.size : Int) ≤ 20 := by omega
      by_cases h2 : s.toList = [46]
      · have HE : Hid (partB s = false) := Lib.hid (if_pos (.inr (.inr (.inl h2))))
        go_enter Try.func132, Try.ntmps132
        go_wp2_with fail
        go_ret
        exact ⟨ret_bool HE.out.symm, Below.refl _ _⟩
      · by_cases h3 : s.toList = [46, 46]
        · have HE : Hid (partB s = false) := Lib.hid (if_pos (.inr (.inr (.inr h3))))
          go_enter Try.func132, Try.ntmps132
          go_wp2_with fail
          go_ret
          exact ⟨ret_bool HE.out.symm, Below.refl _ _⟩
        · have HE : Hid (partB s = !decide (0 ≤ Lib.idxFunc oddR true s)) := Lib.hid (if_neg (by
            rintro (e | e | e | e)
            · exact h0 e
            · omega
            · exact h2 e
            · exact h3 e))
          obtain ⟨I, hI⟩ : ∃ I, I = decide (0 ≤ Lib.idxFunc oddR true s) := ⟨_, rfl⟩
          rw [← hI] at HC HE
          clear hI
          go_enter Try.func132, Try.ntmps132
          go_wp2_with fail
          refine (HC.out w).mono ?_
          rintro e w1 ⟨rfl, hb⟩
          have HB := Lib.hid hb
          clear hb
          go_wp2_with fail
          go_ret
          exact ⟨ret_bool (by rw [HE.out]; simp [h0, h2, h3]), HB.out⟩
    · have h1' : ¬ (s.size : Int) ≤ 20 := by omega
      have HE : Hid (partB s = false) := Lib.hid (if_pos (.inr (.inl (by omega))))
      go_enter Try.func132, Try.ntmps132
      go_wp2_with fail
      go_ret
      exact ⟨ret_bool HE.out.symm, Below.refl _ _⟩
end Go.Proofs.Ytaebmhbggbpnoaa
