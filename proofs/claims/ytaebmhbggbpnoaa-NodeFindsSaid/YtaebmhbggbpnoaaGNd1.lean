/- The walks of Bytes and Many (tlv) with the blocks; of value, hash, parts, (File).right (node). Conditions: each theorem's premises. -/
import Derived.Test.YtaebmhbggbpnoaaGNdMem
import Derived.Test.YtaebmhbggbpnoaaGNdSpec
import Derived.Deep.RegionLaw
namespace Go.Proofs.Ytaebmhbggbpnoaa
open Go.RowKit
theorem below_undrew {B : Nat} {w w' : World} (h : Below B w.drew w') : Below B w w' := ⟨h.os, h.tape, h.output, h.size, h.block⟩
set_option maxRecDepth 10000 in
set_option maxHeartbeats 400000 in
theorem bytesVS_any (w : World) (S : Nat → Prop) (A : Option Addr) (n c : Nat) (xs : List UInt8) (hx : Bs w S A n c xs) (hn : n ≤ 1000000000) :
    Calls Try.prog 28 #[.slice A n c] w fun e w' => ∃ q, e = .returned q.agg ∧ VR w' (fun k => w.heap.size ≤ k) q (.mk 2 0 xs []) ∧ Below w.heap.size w w' := by
  have u0 : u64ok 0 := by simp [u64ok]
  go_enter Try.func28, Try.ntmps28
  go_wp2_with (go_at_call 88; refine (clone_any _ S _ _ _ _ (hx.after ((Below.refl _ _).alloc (Nat.le_refl _) _)) hn).mono ?_; rintro e w1 ⟨A1, c1, rfl, hown, hb⟩; simp only [World.size_alloc] at hb; obtain ⟨h0, h1, h2, h3, f0, f1, f2, f3, hz⟩ := box4 hb)
  refine bodyPost_ret (v := .agg #[.int .i64 2, .int .u64 0, .slice A1 n c1, .slice none 0 0]) (by simp [results, Try.results28, go_sem, h0, h1, h2, h3]) rfl ?_
  have hb1 : Below w.heap.size w w1 := ((Below.refl _ _).alloc (Nat.le_refl _) _).trans (hb.mono (by omega))
  obtain ⟨A', c', e, hbs⟩ := own_bs hown
  cases e
  exact ⟨⟨.int .i64 2, .int .u64 ((0 : Nat) : Int), .slice A1 n c1, .slice none 0 0⟩, rfl,
    VR.shut u0 (hbs.keep (S' := fun k => w.heap.size ≤ k) (fun p hp _ => set4_other _ _ _ _ _ _ p (by simp only [World.size_alloc] at hp; omega)) (fun k hk _ => by simp only [World.size_alloc] at hk; omega)) hn (LR.nil _ _ _), set4_below hb1 _ (Nat.le_refl _) _ _ _ _⟩
set_option maxRecDepth 10000 in
set_option maxHeartbeats 400000 in
theorem manyS_any (w : World) (S : Nat → Prop) (A : Option Addr) (n c : Nat) (l : List TV) (hx : LR w S A n c l) :
    Calls Try.prog 29 #[.slice A n c] w fun e w' => ∃ q, e = .returned q.agg ∧ VR w' (fun k => S k ∨ w.heap.size ≤ k) q (.mk 3 0 [] l) ∧ Below w.heap.size w w' := by
  have hf := hx.few
  have u0 : u64ok 0 := by simp [u64ok]
  go_enter Try.func29, Try.ntmps29
  go_wp2_with (go_at_call 90; refine (cloneV_any _ (fun k => S k ∧ k < w.heap.size) _ _ _ _ ((hx.keep (S' := fun k => S k ∧ k < w.heap.size) (fun _ _ _ => rfl) (fun k h h' => ⟨h, h'⟩)).after ((Below.refl _ _).alloc (Nat.le_refl _) _))).mono ?_; rintro e w1 ⟨A1, c1, rfl, hown, hb⟩; simp only [World.size_alloc] at hb; obtain ⟨h0, h1, h2, h3, f0, f1, f2, f3, hz⟩ := box4 hb)
  refine bodyPost_ret (v := .agg #[.int .i64 3, .int .u64 0, .slice none 0 0, .slice A1 n c1]) (by simp [results, Try.results29, go_sem, h0, h1, h2, h3]) rfl ?_
  have hb1 : Below w.heap.size w w1 := ((Below.refl _ _).alloc (Nat.le_refl _) _).trans (hb.mono (by omega))
  exact ⟨⟨.int .i64 3, .int .u64 ((0 : Nat) : Int), .slice none 0 0, .slice A1 n c1⟩, rfl,
    VR.shut u0 (Bs.nil _ _ _) (by omega) (hown.keep (S' := fun k => S k ∨ w.heap.size ≤ k) (fun p hp _ => set4_other _ _ _ _ _ _ p (by simp only [World.size_alloc] at hp; rcases hp with hp | hp; exact Nat.ne_of_lt hp.2; omega)) (fun k hk _ => by simp only [World.size_alloc] at hk; rcases hk with hk | hk; exact .inl hk.1; exact .inr (by omega))), set4_below hb1 _ (Nat.le_refl _) _ _ _ _⟩
theorem reads_litS (w : World) (cs : Array Value) (t : TypeId) (n : Nat) (h : cs.size = n * 4) (S : Nat → Prop) (hS : S w.heap.size) : Reads (w.alloc (.cells cs t)) S 4 (some ⟨w.heap.size, 0, none⟩) n cs.toList :=
  ⟨by simpa using h, fun _ => ⟨_, rfl, hS, fun j u hu => by rw [add_plain, World.cell?_alloc_new]; simpa using hu⟩⟩
/-- Three values laid one behind the other. -/
theorem lr_three {w : World} {q1 q2 q3 : Quad} {v1 v2 v3 : TV} (t : TypeId) (S : Nat → Prop) (hS : ∀ k, w.heap.size ≤ k → S k) (h1 : VR w S q1 v1) (h2 : VR w S q2 v2) (h3 : VR w S q3 v3) :
    LR (w.alloc (.cells #[q1.a, q1.b, q1.c, q1.d, q2.a, q2.b, q2.c, q2.d, q3.a, q3.b, q3.c, q3.d] t)) S (some ⟨w.heap.size, 0, none⟩) 3 3 [v1, v2, v3] := by
  have hb : Below w.heap.size w (w.alloc (.cells #[q1.a, q1.b, q1.c, q1.d, q2.a, q2.b, q2.c, q2.d, q3.a, q3.b, q3.c, q3.d] t)) := (Below.refl _ _).alloc (Nat.le_refl _) _
  refine ⟨rfl, Nat.le_refl _, by omega, [q1, q2, q3], rfl, reads_litS w _ t 3 rfl S (hS _ (Nat.le_refl _)), fun i q v hq hv => ?_⟩
  match i with
  | 0 => simp at hq hv; subst hq; subst hv; exact h1.after hb
  | 1 => simp at hq hv; subst hq; subst hv; exact h2.after hb
  | 2 => simp at hq hv; subst hq; subst hv; exact h3.after hb
  | i + 3 => simp at hq
/-- A block that was just made, under the number that it has. -/
theorem blk_new' {W : World} {g t : Nat} {cs : Array Value} (h : g = W.heap.size) : Blk (W.alloc (.cells cs t)) g t cs := by
  subst h
  exact Blk.new W t cs
/-- A name in a block is bytes. -/
theorem bs_nc {w : World} {g t : Nat} {nm : List UInt8} (h : Blk w g t (NC nm)) (hn : nm.length = 32) : Bs w (fun k => k = g) (some ⟨g, 0, none⟩) 32 32 nm :=
  ⟨hn, Nat.le_refl _, by rw [u8s_length, hn], fun _ => ⟨_, rfl, rfl, fun j u hu => by rw [add_plain, h.cell]; simpa [NC] using hu⟩⟩
/-- Two boxes laid: many cells, and four. -/
theorem box_nc (w : World) (cs : Array Value) (t : Nat) : ∃ RV, RV = cs ∧ Hid (∀ w', Below (w.heap.size + 1) (w.alloc (.cells RV t)) w' → Blk w' w.heap.size t cs ∧ Below w.heap.size w w') :=
  ⟨_, rfl, Lib.hid fun _ hb => ⟨(Blk.new w t _).below hb (Nat.lt_succ_self _), ((Below.refl _ w).alloc (Nat.le_refl _) _).trans (hb.mono (Nat.le_succ _))⟩⟩
set_option maxRecDepth 100000 in
theorem nd_value (w : World) (nm : List UInt8) (hn : nm.length = 32) :
    Calls Try.prog 103 #[.agg (NC nm)] w fun e w' => ∃ q, e = .returned q.agg ∧ VR w' (fun k => w.heap.size ≤ k) q (hashT nm) ∧ Below w.heap.size w w' := by
  obtain ⟨RV, hRV, HB⟩ := box_nc w (NC nm) 107
  obtain ⟨W, hW⟩ : ∃ W, W = (w.alloc (.cells RV 107)).alloc (.cells #[.int .i64 0, .int .u64 0, .slice none 0 0, .slice none 0 0] 27) := ⟨_, rfl⟩
  have hWs : W.heap.size = w.heap.size + 2 := by rw [hW]; simp
  have HW : Hid (∀ w', Below W.heap.size W w' → Blk w' w.heap.size 107 (NC nm) ∧ Blk w' (w.heap.size + 1) 27 #[.int .i64 0, .int .u64 0, .slice none 0 0, .slice none 0 0] ∧ Below w.heap.size w w') := Lib.hid fun w' hb => by
    have hsz : W.heap.size = w.heap.size + 2 := by rw [hW]; simp
    have hb0 : Below (w.heap.size + 1) (w.alloc (.cells RV 107)) W := by rw [hW]; exact (Below.refl _ _).alloc (by simp) _
    have hb1 := hb0.trans (hb.mono (by omega))
    have hb2 := (HB.out w' hb1).2
    exact ⟨(HB.out w' hb1).1, Blk.below (g := w.heap.size + 1) (by rw [hW]; exact blk_new' (by simp)) hb (by omega), hb2⟩
  rw [← hRV]
  clear hRV HB
  go_enter Try.func103, Try.ntmps103
  go_wp2_with fail
  rw [← hW]
  clear hW
  refine (bytesVS_any W _ _ 32 32 nm (bs_nc (HW.out W (Below.refl _ _)).1 hn) (by omega)).mono ?_
  rintro e w2 ⟨q2, rfl, hv2, hb2⟩
  obtain ⟨u2, m2, z2, p2, P1, P2, i1, i2, i3, i4, rfl, hvv2, -⟩ := hv2.opens
  have HK := (HW.out w2 hb2)
  have hk4 := HK.2.1
  obtain ⟨s0, s1, s2, s3, f0, f1, f2, f3, hz⟩ := hk4.four
  cases hvv2
  dsimp only [Quad.agg]
  go_wp2_with fail
  exact bodyPost_ret (results_cell1 rfl rfl (load27 (set4_blk hk4 _ _ _ _))) rfl ⟨⟨.int .i64 2, .int .u64 ((0 : Nat) : Int), .slice P1 i1 i2, .slice P2 i3 i4⟩, rfl, hv2.keep (fun p hp _ => set4_other _ _ _ _ _ _ p (by omega)) (fun k hk _ => by omega), set4_below HK.2.2 _ (by omega) _ _ _ _⟩
end Go.Proofs.Ytaebmhbggbpnoaa
namespace Go.Proofs.Ytaebmhbggbpnoaa
open Go.RowKit
def rightC (s : Int) (n : Nat) : Bool := decide (0 ≤ s ∧ s ≤ 2000 ∧ (n : Int) ≤ s ∧ (0 < n ∨ s = 0))
set_option maxRecDepth 100000 in
theorem nd_fright (w : World) (s : Int) (A : Option Addr) (n c : Nat) :
    Calls Try.prog 102 #[.agg #[.int .i64 s, .slice A n c]] w fun e w' => e = .returned (.bool (rightC s n)) ∧ Below w.heap.size w w' := by
  have HB := Lib.hid ((Below.refl w.heap.size w).alloc (Nat.le_refl _) (.cells #[.int .i64 s, .slice A n c] 89))
  rcases (show s < 0 ∨ (0 ≤ s ∧ 2000 < s) ∨ (0 ≤ s ∧ s ≤ 2000 ∧ s < (n : Int)) ∨ (0 ≤ s ∧ s ≤ 2000 ∧ (n : Int) ≤ s ∧ n = 0 ∧ s ≠ 0) ∨ (0 ≤ s ∧ s ≤ 2000 ∧ (n : Int) ≤ s ∧ n = 0 ∧ s = 0) ∨ (0 ≤ s ∧ s ≤ 2000 ∧ (n : Int) ≤ s ∧ 0 < n) by omega) with h1 | ⟨h1, h2⟩ | ⟨h1, h2, h3⟩ | ⟨h1, h2, h3, h4, h5⟩ | ⟨h1, h2, h3, h4, h5⟩ | ⟨h1, h2, h3, h4⟩
  · have hr : rightC s n = false := by unfold rightC; simp; omega
    have d1 : decide (0 ≤ s) = false := by simp; omega
    rw [hr]
    clear hr
    go_enter Try.func102, Try.ntmps102
    go_wp2_with fail
    go_ret
    exact ⟨rfl, HB.out⟩
  · have hr : rightC s n = false := by unfold rightC; simp; omega
    have d1 : decide (0 ≤ s) = true := by simp; omega
    have d2 : decide (s ≤ 2000) = false := by simp; omega
    rw [hr]
    clear hr
    go_enter Try.func102, Try.ntmps102
    go_wp2_with fail
    go_ret
    exact ⟨rfl, HB.out⟩
  · have hr : rightC s n = false := by unfold rightC; simp; omega
    have d1 : decide (0 ≤ s) = true := by simp; omega
    have d2 : decide (s ≤ 2000) = true := by simp; omega
    have d3 : decide ((n : Int) ≤ s) = false := by simp; omega
    rw [hr]
    clear hr
    go_enter Try.func102, Try.ntmps102
    go_wp2_with fail
    go_ret
    exact ⟨rfl, HB.out⟩
  · subst h4
    have hr : rightC s 0 = false := by unfold rightC; simp; omega
    have d1 : decide (0 ≤ s) = true := by simp; omega
    have d2 : decide (s ≤ 2000) = true := by simp; omega
    have d5 : (s == 0) = false := by simp; omega
    rw [hr]
    clear hr
    go_enter Try.func102, Try.ntmps102
    go_wp2_with fail
    go_ret
    exact ⟨rfl, HB.out⟩
  · subst h4
    subst h5
    have hr : rightC 0 0 = true := by unfold rightC; simp
    rw [hr]
    clear hr
    go_enter Try.func102, Try.ntmps102
    go_wp2_with fail
    go_ret
    exact ⟨rfl, HB.out⟩
  · have hr : rightC s n = true := by unfold rightC; simp; omega
    have d1 : decide (0 ≤ s) = true := by simp; omega
    have d2 : decide (s ≤ 2000) = true := by simp; omega
    have d3 : decide ((n : Int) ≤ s) = true := by simp; omega
    have d4 : decide ((0 : Int) < (n : Int)) = true := by simp; omega
    rw [hr]
    clear hr
    go_enter Try.func102, Try.ntmps102
    go_wp2_with fail
    go_ret
    exact ⟨rfl, HB.out⟩
set_option maxRecDepth 100000 in
theorem nd_parts_any (w : World) (t : Int) (m : Int) (A2 A3 : Option Addr) (n2 c2 n3 c3 : Nat) :
    Calls Try.prog 109 #[.agg #[.int .i64 t, .int .u64 m, .slice A2 n2 c2, .slice A3 n3 c3], .int .i64 (-1)] w fun e w' => e = .returned (.tuple #[.slice A3 n3 c3, .bool (decide (t = 3))]) ∧ Below w.heap.size w w' := by
  have HB := Lib.hid ((Below.refl w.heap.size w).alloc (Nat.le_refl _) (.cells #[.int .i64 t, .int .u64 m, .slice A2 n2 c2, .slice A3 n3 c3] 27))
  by_cases h : t = 3
  · subst h
    rw [decide_eq_true rfl]
    go_enter Try.func109, Try.ntmps109
    go_wp2_with fail
    go_quiet (fail)
    go_wp2_with fail
    go_ret2
    exact ⟨rfl, below_drewN HB.out _⟩
  · rw [decide_eq_false h]
    have d1 : (t == 3) = false := by simpa using h
    go_enter Try.func109, Try.ntmps109
    go_wp2_with fail
    go_quiet (fail)
    go_wp2_with fail
    go_ret2
    exact ⟨rfl, below_drewN HB.out _⟩
set_option maxRecDepth 100000 in
theorem nd_parts_n (w : World) (t : Int) (m : Int) (A2 A3 : Option Addr) (n2 c2 n3 c3 k : Nat) :
    Calls Try.prog 109 #[.agg #[.int .i64 t, .int .u64 m, .slice A2 n2 c2, .slice A3 n3 c3], .int .i64 (k : Int)] w fun e w' => e = .returned (.tuple #[.slice A3 n3 c3, .bool (decide (t = 3 ∧ n3 = k))]) ∧ Below w.heap.size w w' := by
  have HB := Lib.hid ((Below.refl w.heap.size w).alloc (Nat.le_refl _) (.cells #[.int .i64 t, .int .u64 m, .slice A2 n2 c2, .slice A3 n3 c3] 27))
  have d0 : decide ((k : Int) < 0) = false := by simp
  by_cases h : t = 3
  · subst h
    by_cases hk : n3 = k
    · rw [decide_eq_true ⟨rfl, hk⟩]
      have d2 : ((n3 : Int) == (k : Int)) = true := by simp; omega
      clear hk
      go_enter Try.func109, Try.ntmps109
      go_wp2_with fail
      go_quiet (fail)
      go_wp2_with fail
      go_ret2
      exact ⟨rfl, below_drewN HB.out _⟩
    · rw [decide_eq_false (fun e => hk e.2)]
      have d2 : ((n3 : Int) == (k : Int)) = false := by simp; omega
      clear hk
      go_enter Try.func109, Try.ntmps109
      go_wp2_with fail
      go_quiet (fail)
      go_wp2_with fail
      go_ret2
      exact ⟨rfl, below_drewN HB.out _⟩
  · rw [decide_eq_false (fun e => h e.1)]
    have d1 : (t == 3) = false := by simpa using h
    go_enter Try.func109, Try.ntmps109
    go_wp2_with fail
    go_quiet (fail)
    go_wp2_with fail
    go_ret2
    exact ⟨rfl, below_drewN HB.out _⟩
end Go.Proofs.Ytaebmhbggbpnoaa
namespace Go.Proofs.Ytaebmhbggbpnoaa
open Go.RowKit
theorem nc_zero : NC noName = #[.int .u8 0, .int .u8 0, .int .u8 0, .int .u8 0, .int .u8 0, .int .u8 0, .int .u8 0, .int .u8 0, .int .u8 0, .int .u8 0, .int .u8 0, .int .u8 0, .int .u8 0, .int .u8 0, .int .u8 0, .int .u8 0, .int .u8 0, .int .u8 0, .int .u8 0, .int .u8 0, .int .u8 0, .int .u8 0, .int .u8 0, .int .u8 0, .int .u8 0, .int .u8 0, .int .u8 0, .int .u8 0, .int .u8 0, .int .u8 0, .int .u8 0, .int .u8 0] := by kernel_rfl
theorem box107 (w : World) : Blk (w.alloc (.cells #[.int .u8 0, .int .u8 0, .int .u8 0, .int .u8 0, .int .u8 0, .int .u8 0, .int .u8 0, .int .u8 0, .int .u8 0, .int .u8 0, .int .u8 0, .int .u8 0, .int .u8 0, .int .u8 0, .int .u8 0, .int .u8 0, .int .u8 0, .int .u8 0, .int .u8 0, .int .u8 0, .int .u8 0, .int .u8 0, .int .u8 0, .int .u8 0, .int .u8 0, .int .u8 0, .int .u8 0, .int .u8 0, .int .u8 0, .int .u8 0, .int .u8 0, .int .u8 0] 107)) w.heap.size 107 (NC noName) := by
  rw [nc_zero]
  exact Blk.new w 107 _
theorem results107 {fn : Func} {p q : Tmp} (h : fn.results = #[.cell p 107, .tmp q]) (tmps : Array Value) (w : World) (g t : Nat) (nm : List UInt8) (hn : nm.length = 32) (hp : tmps.getD p undef = .pointer (some ⟨g, 0, none⟩)) (hg : Blk w g t (NC nm)) : (results fn tmps).run Try.prog w = .ok (.tuple #[.agg (NC nm), tmps.getD q undef]) w :=
  results_cell2 h hp ((At.blk hg).load (by rw [NC_size hn]; exact wide107))
def hashX (t : Int) (n : Nat) (b : List UInt8) : List UInt8 := if t = 2 ∧ n = 32 then b else noName
set_option maxRecDepth 100000 in
theorem nd_hash (w : World) (S : Nat → Prop) (t m : Int) (A2 A3 : Option Addr) (n2 c2 n3 c3 : Nat) (b : List UInt8) (hb : Bs w S A2 n2 c2 b) :
    Calls Try.prog 131 #[.agg #[.int .i64 t, .int .u64 m, .slice A2 n2 c2, .slice A3 n3 c3]] w fun e w' => e = .returned (.tuple #[.agg (NC (hashX t n2 b)), .bool (decide (t = 2 ∧ n2 = 32))]) ∧ Below w.heap.size w w' := by
  have HBX := Lib.hid (box107 (w.alloc (.cells #[.int .i64 t, .int .u64 m, .slice A2 n2 c2, .slice A3 n3 c3] 27)))
  obtain ⟨W, hW⟩ : ∃ W, W = (w.alloc (.cells #[.int .i64 t, .int .u64 m, .slice A2 n2 c2, .slice A3 n3 c3] 27)).alloc (.cells #[.int .u8 0, .int .u8 0, .int .u8 0, .int .u8 0, .int .u8 0, .int .u8 0, .int .u8 0, .int .u8 0, .int .u8 0, .int .u8 0, .int .u8 0, .int .u8 0, .int .u8 0, .int .u8 0, .int .u8 0, .int .u8 0, .int .u8 0, .int .u8 0, .int .u8 0, .int .u8 0, .int .u8 0, .int .u8 0, .int .u8 0, .int .u8 0, .int .u8 0, .int .u8 0, .int .u8 0, .int .u8 0, .int .u8 0, .int .u8 0, .int .u8 0, .int .u8 0] 107) := ⟨_, rfl⟩
  have HN := Lib.hid (NC_size noName_len)
  have HL := Lib.hid noName_len
  have HO := Lib.hid (NC_one noName)
  have HB : Hid (∀ w', Below W.heap.size W w' → Below w.heap.size w w' ∧ Bs w' S A2 n2 c2 b ∧ Blk w' w.heap.size 27 #[.int .i64 t, .int .u64 m, .slice A2 n2 c2, .slice A3 n3 c3]) := Lib.hid fun w' h => by
    have h0 : Below w.heap.size w W := by rw [hW]; exact ((Below.refl _ _).alloc (Nat.le_refl _) _).alloc (by simp) _
    have h1 := h0.trans (h.mono h0.size)
    exact ⟨h1, hb.after h1, Blk.below (by rw [hW]; exact (Blk.new w 27 _).alloc _) h (by rw [hW]; simp; omega)⟩
  rw [← hW] at HBX
  have HSZ : Hid (W.heap.size = w.heap.size + 2) := Lib.hid (by rw [hW]; simp)
  clear hb
  by_cases h : t = 2 ∧ n2 = 32
  · rw [show hashX t n2 b = b by unfold hashX; rw [if_pos h], decide_eq_true h]
    obtain ⟨rfl, rfl⟩ := h
    go_enter Try.func131, Try.ntmps131
    go_wp2_with fail
    rw [← hW]
    have hz5 : (Try.prog.info? 5).map (·.size) = some 1 := by kernel_rfl
    have HZ5 := Lib.hid hz5
    obtain ⟨h1, h2, h3⟩ := HB.out W (Below.refl _ _)
    obtain ⟨p0, p1, p2, p3, -⟩ := h3.four
    have HB1 := Lib.hid h1
    have HX := Lib.hid h2
    have HU2 : Hid ((u8s b).length = 32) := Lib.hid (by rw [u8s_length]; exact h2.len)
    have HCP : Hid (0 < (u8s b).length → ∃ ad, A2 = some ad ∧ ∀ j v, (u8s b)[j]? = some v → W.cell? (ad.add j) = some v) := Lib.hid fun _ => by
      obtain ⟨ad', e, _, hc⟩ := h2.rd.2 (by omega)
      exact ⟨ad', e, hc⟩
    have HBX' : Hid (Blk W (w.heap.size + 1) 107 (NC noName)) := Lib.hid (by have := HBX.out; simpa using this)
    clear hz5 h1 h2 h3 hW HBX
    go_region_law (first | (refine step_copy_splice rfl (.tmp 14) (.tmp 16) 22 22 rfl 5 Try.underlying22 HZ5.out (some ⟨w.heap.size + 1, 0, none⟩) A2 32 32 32 c2 rfl rfl (w.heap.size + 1) 0 (NC noName).toList 107 HBX'.out (u8s b) HU2.out (fun hp => ⟨rfl, HCP.out hp⟩) (by rw [HU2.out]; simp [NC_size noName_len]) (u8s_one) w.heap.size w HB1.out.drew (Nat.le_succ _) ?_; intro w3 hh3 hbe3))
    all_goals
      have hb3 : Blk w3 (w.heap.size + 1) 107 (NC b) := by
        have h := hh3.out
        have e : (splice (NC noName).toList 0 (u8s b)).toArray = NC b := by
          unfold splice
          have h32 : (u8s b).length = 32 := HU2.out
          rw [List.take_zero, List.nil_append, List.drop_of_length_le (by rw [h32]; simp [NC, u8s, noName]), List.append_nil]
          rfl
        rw [e] at h
        exact h
      have HB3 := Lib.hid hb3
      have HLB : Hid (b.length = 32) := Lib.hid HX.out.len
      have HBE := Lib.hid hbe3
      clear hb3 hh3 hbe3
      go_wp2_with (first | (refine wl_ldA (cs := NC b) rfl 107 _ rfl (by rw [NC_size HLB.out]; exact wide107) rfl (At.blk HB3.out) ?_) | (refine wl_stA (cs := NC b) rfl 107 (.tmp 2) (.tmp 18) rfl (by rw [NC_size HLB.out]; exact wide107) rfl rfl HB3.out rfl (NC_one b) ?_; intro w4 hb4 hg4 hf4))
      exact bodyPost_ret (results107 rfl _ _ _ _ b HLB.out rfl hb4) rfl ⟨rfl, HBE.out.trans (hf4 _ (Nat.le_succ _))⟩
  · rw [show hashX t n2 b = noName by unfold hashX; rw [if_neg h], decide_eq_false h]
    have hd : decide (t ≠ 2) = true ∨ (decide (t ≠ 2) = false ∧ decide ((n2 : Int) ≠ 32) = true) := by
      by_cases h2 : t = 2
      · refine .inr ⟨by simp [h2], ?_⟩
        have : n2 ≠ 32 := fun e => h ⟨h2, e⟩
        simp; omega
      · exact .inl (by simp [h2])
    have HBX' : Hid (Blk W (w.heap.size + 1) 107 (NC noName)) := Lib.hid (by have := HBX.out; simpa using this)
    have HB1 := Lib.hid (HB.out W (Below.refl _ _)).1
    rcases hd with d1 | ⟨d1, d2⟩
    · have d1' : (t != 2) = true := by simpa using d1
      clear h HBX
      go_enter Try.func131, Try.ntmps131
      go_wp2_with (first | (refine wl_ldA (cs := NC noName) rfl 107 _ rfl (by rw [HN.out]; exact wide107) rfl (At.blk (hW ▸ HBX'.out)) ?_) | (refine wl_stA (cs := NC noName) rfl 107 (.tmp 2) (.tmp 13) rfl (by rw [HN.out]; exact wide107) rfl rfl (hW ▸ HBX'.out) rfl HO.out ?_; intro w4 hb4 hg4 hf4))
      exact bodyPost_ret (results107 rfl _ _ _ _ noName HL.out rfl hb4) rfl ⟨rfl, (hW ▸ HB1.out).trans (hf4 _ (Nat.le_succ _))⟩
    · have d1' : (t != 2) = false := by simpa using d1
      have d2' : ((n2 : Int) != 32) = true := by simpa using d2
      clear h HBX
      go_enter Try.func131, Try.ntmps131
      go_wp2_with (first | (refine wl_ldA (cs := NC noName) rfl 107 _ rfl (by rw [HN.out]; exact wide107) rfl (At.blk (hW ▸ HBX'.out)) ?_) | (refine wl_stA (cs := NC noName) rfl 107 (.tmp 2) (.tmp 13) rfl (by rw [HN.out]; exact wide107) rfl rfl (hW ▸ HBX'.out) rfl HO.out ?_; intro w4 hb4 hg4 hf4))
      exact bodyPost_ret (results107 rfl _ _ _ _ noName HL.out rfl hb4) rfl ⟨rfl, (hW ▸ HB1.out).trans (hf4 _ (Nat.le_succ _))⟩
end Go.Proofs.Ytaebmhbggbpnoaa
