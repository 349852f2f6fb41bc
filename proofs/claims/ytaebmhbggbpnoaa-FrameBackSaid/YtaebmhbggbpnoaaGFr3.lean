/- The walk of value (frame). Conditions: each theorem's premises. -/
import Derived.Test.YtaebmhbggbpnoaaGFr0
import Derived.Test.YtaebmhbggbpnoaaGFrSpec
import Derived.Deep.RegionLaw
namespace Go.Proofs.Ytaebmhbggbpnoaa
open Go.RowKit
theorem below_undrew {B : Nat} {w w' : World} (h : Below B w.drew w') : Below B w w' := ⟨h.os, h.tape, h.output, h.size, h.block⟩
theorem bs_name {w : World} {g t : Nat} {k : Int} {nm : List UInt8} {b : Value} (h : Blk w g t (RC k nm b)) (hn : nm.length = 32) : Bs w (fun k => k = g) (some ⟨g, 1, none⟩) 32 32 nm := by
  refine ⟨hn, Nat.le_refl _, by rw [u8s_length, hn], fun _ => ⟨_, rfl, rfl, fun j u hu => ?_⟩⟩
  have := RC.mid h j u hu
  rw [Addr.add_mid]
  exact this
set_option maxRecDepth 10000 in
set_option maxHeartbeats 400000 in
theorem bytesVS_any (w : World) (S : Nat → Prop) (A : Option Addr) (n c : Nat) (xs : List UInt8) (hx : Bs w S A n c xs) (hn : n ≤ 1000000000) :
    Calls Try.prog 28 #[.slice A n c] w fun e w' => ∃ q, e = .returned q.agg ∧ VR w' (fun k => w.heap.size ≤ k) q (.mk 2 0 xs []) ∧ Below w.heap.size w w' := by
  have u0 : u64ok 0 := by simp [u64ok]
  go_enter Try.func28, Try.ntmps28
  go_wp2_with (go_at_call 88; refine (clone_any _ S _ _ _ _ (hx.after ((Below.refl _ _).alloc (Nat.le_refl _) _)) hn).mono ?_; rintro e w1 ⟨A1, c1, rfl, hown, hb⟩; simp only [World.size_alloc] at hb; obtain ⟨h0, h1, h2, h3, f0, f1, f2, f3, hz⟩ := box4 hb)
  refine bodyPost_ret (v := .agg #[.int .i64 2, .int .u64 0, .slice A1 n c1, .slice none 0 0]) (by simp [results, Try.results28, go_sem, h0, h1, h2, h3]) rfl ?_
  have hb1 : Below w.heap.size w w1 := ((Below.refl _ _).alloc (Nat.le_refl _) _).trans (hb.mono (by omega))
  obtain ⟨A', c', e, hbs⟩ := own_bs hown
  cases e
  exact ⟨⟨.int .i64 2, .int .u64 ((0 : Nat) : Int), .slice A1 n c1, .slice none 0 0⟩, rfl,
    VR.shut u0 (hbs.keep (S' := fun k => w.heap.size ≤ k) (fun p hp _ => set4_other _ _ _ _ _ _ p (by simp only [World.size_alloc] at hp; omega)) (fun k hk _ => by simp only [World.size_alloc] at hk; omega)) hn (LR.nil _ _ _), set4_below hb1 _ (Nat.le_refl _) _ _ _ _⟩
set_option maxRecDepth 10000 in
set_option maxHeartbeats 400000 in
theorem manyS_any (w : World) (S : Nat → Prop) (A : Option Addr) (n c : Nat) (l : List TV) (hx : LR w S A n c l) :
    Calls Try.prog 29 #[.slice A n c] w fun e w' => ∃ q, e = .returned q.agg ∧ VR w' (fun k => S k ∨ w.heap.size ≤ k) q (.mk 3 0 [] l) ∧ Below w.heap.size w w' := by
  have hf := hx.few
  have u0 : u64ok 0 := by simp [u64ok]
  go_enter Try.func29, Try.ntmps29
  go_wp2_with (go_at_call 90; refine (cloneV_any _ (fun k => S k ∧ k < w.heap.size) _ _ _ _ ((hx.keep (S' := fun k => S k ∧ k < w.heap.size) (fun _ _ _ => rfl) (fun k h h' => ⟨h, h'⟩)).after ((Below.refl _ _).alloc (Nat.le_refl _) _))).mono ?_; rintro e w1 ⟨A1, c1, rfl, hown, hb⟩; simp only [World.size_alloc] at hb; obtain ⟨h0, h1, h2, h3, f0, f1, f2, f3, hz⟩ := box4 hb)
  refine bodyPost_ret (v := .agg #[.int .i64 3, .int .u64 0, .slice none 0 0, .slice A1 n c1]) (by simp [results, Try.results29, go_sem, h0, h1, h2, h3]) rfl ?_
  have hb1 : Below w.heap.size w w1 := ((Below.refl _ _).alloc (Nat.le_refl _) _).trans (hb.mono (by omega))
  exact ⟨⟨.int .i64 3, .int .u64 ((0 : Nat) : Int), .slice none 0 0, .slice A1 n c1⟩, rfl,
    VR.shut u0 (Bs.nil _ _ _) (by omega) (hown.keep (S' := fun k => S k ∨ w.heap.size ≤ k) (fun p hp _ => set4_other _ _ _ _ _ _ p (by simp only [World.size_alloc] at hp; rcases hp with hp | hp; exact Nat.ne_of_lt hp.2; omega)) (fun k hk _ => by simp only [World.size_alloc] at hk; rcases hk with hk | hk; exact .inl hk.1; exact .inr (by omega))), set4_below hb1 _ (Nat.le_refl _) _ _ _ _⟩
theorem reads_litS (w : World) (cs : Array Value) (t : TypeId) (n : Nat) (h : cs.size = n * 4) (S : Nat → Prop) (hS : S w.heap.size) : Reads (w.alloc (.cells cs t)) S 4 (some ⟨w.heap.size, 0, none⟩) n cs.toList :=
  ⟨by simpa using h, fun _ => ⟨_, rfl, hS, fun j u hu => by rw [add_plain, World.cell?_alloc_new]; simpa using hu⟩⟩
/-- Three values laid one behind the other. -/
theorem lr_three {w : World} {q1 q2 q3 : Quad} {v1 v2 v3 : TV} (t : TypeId) (S : Nat → Prop) (hS : ∀ k, w.heap.size ≤ k → S k) (h1 : VR w S q1 v1) (h2 : VR w S q2 v2) (h3 : VR w S q3 v3) :
    LR (w.alloc (.cells #[q1.a, q1.b, q1.c, q1.d, q2.a, q2.b, q2.c, q2.d, q3.a, q3.b, q3.c, q3.d] t)) S (some ⟨w.heap.size, 0, none⟩) 3 3 [v1, v2, v3] := by
  have hb : Below w.heap.size w (w.alloc (.cells #[q1.a, q1.b, q1.c, q1.d, q2.a, q2.b, q2.c, q2.d, q3.a, q3.b, q3.c, q3.d] t)) := (Below.refl _ _).alloc (Nat.le_refl _) _
  refine ⟨rfl, Nat.le_refl _, by omega, [q1, q2, q3], rfl, reads_litS w _ t 3 rfl S (hS _ (Nat.le_refl _)), fun i q v hq hv => ?_⟩
  match i with
  | 0 => simp at hq hv; subst hq; subst hv; exact h1.after hb
  | 1 => simp at hq hv; subst hq; subst hv; exact h2.after hb
  | 2 => simp at hq hv; subst hq; subst hv; exact h3.after hb
  | i + 3 => simp at hq
set_option maxRecDepth 100000 in
set_option maxHeartbeats 1000000 in
theorem fvalue_any (w : World) (S : Nat → Prop) (k : Nat) (nm : List UInt8) (A : Option Addr) (n c : Nat) (bs : List UInt8) (h : nm.length = 32) (hk : k ≤ 9) (hx : Bs w S A n c bs) (hn : n ≤ 1000000000) :
    Calls Try.prog 113 #[.agg (RC (k : Int) nm (.slice A n c))] w fun e w' => ∃ q, e = .returned q.agg ∧ VR w' AnyB q (recT k nm bs) ∧ Below w.heap.size w w' := by
  have e0 := @RC.at0 (k : Int) nm (.slice A n c)
  have e33 := @RC.at33 (k : Int) nm (.slice A n c) h
  obtain ⟨RV, hRV, HB⟩ := rc_box w 109 (k : Int) nm (.slice A n c)
  obtain ⟨W, hW⟩ : ∃ W, W = (w.alloc (.cells RV 109)).alloc (.cells #[.int .i64 0, .int .u64 0, .slice none 0 0, .slice none 0 0] 27) := ⟨_, rfl⟩
  have hWs : W.heap.size = w.heap.size + 2 := by rw [hW]; simp
  have HW : Hid (∀ w', Below W.heap.size W w' → Blk w' w.heap.size 109 (RC (k : Int) nm (.slice A n c)) ∧ Blk w' (w.heap.size + 1) 27 #[.int .i64 0, .int .u64 0, .slice none 0 0, .slice none 0 0] ∧ Bs w' S A n c bs ∧ Below w.heap.size w w') := Lib.hid fun w' hb => by
    have hsz : W.heap.size = w.heap.size + 2 := by rw [hW]; simp
    have hb0 : Below (w.heap.size + 1) (w.alloc (.cells RV 109)) W := by rw [hW]; exact (Below.refl _ _).alloc (by simp) _
    have hb1 := hb0.trans (hb.mono (by omega))
    have hb2 := (HB.out w' hb1).2
    exact ⟨(HB.out w' hb1).1, Blk.below (g := w.heap.size + 1) (by rw [hW]; exact blk_new (by simp)) hb (by omega), hx.after hb2, hb2⟩
  have h33 : ∀ w', Below W.heap.size W w' → w'.cell? ⟨w.heap.size, 33, none⟩ = some (.slice A n c) ∧ w'.cell? ⟨w.heap.size, 0, none⟩ = some (.int .i64 (k : Int)) := fun w' hb => by
    rw [((HW.out w' hb).1).cell, ((HW.out w' hb).1).cell]
    exact ⟨e33, e0⟩
  have H33 := Lib.hid h33
  obtain ⟨k33, k0⟩ := h33 W (Below.refl _ _)
  rw [← hRV] at e0 e33 ⊢
  clear hRV h33
  go_enter Try.func113, Try.ntmps113
  go_wp2_with fail
  rw [← hW]
  have HNM := Lib.hid h
  have HV1 : Hid (∀ w', VR w' (fun k => W.heap.size ≤ k) ⟨.int .i64 1, .int .u64 (IntKind.u64.wrap (k : Int)), .slice none 0 0, .slice none 0 0⟩ (.mk 1 k [] [])) := Lib.hid fun w' => by
    rw [show IntKind.u64.wrap (k : Int) = ((k : Nat) : Int) by unfold IntKind.wrap; simp [IntKind.bits, IntKind.signed]; omega]
    exact VR.shut (by simp [u64ok]; omega) (Bs.nil _ _ _) (by omega) (LR.nil _ _ _)
  clear hW e0 e33 HB hx
  go_region_law (first | (go_simp; go_at_call 27; refine (number_any _ _).mono ?_; rintro e w1 ⟨rfl, hb1⟩; go_must ((have hbb1 := below_undrew hb1; obtain ⟨x1, y1⟩ := H33.out w1 hbb1))) | (go_simp; go_at_call 28; refine (bytesVS_any w1 _ _ 32 32 nm (bs_name (HW.out w1 hbb1).1 HNM.out) (by omega)).mono ?_; rintro e w2 ⟨q2, rfl, hv2, hb2⟩; go_must ((have hbb2 := hbb1.trans (hb2.mono hbb1.size); obtain ⟨x2, y2⟩ := H33.out w2 hbb2))) | (go_simp; go_at_call 28; refine (bytesVS_any w2 _ A n c bs (HW.out w2 hbb2).2.2.1 hn).mono ?_; rintro e w3 ⟨q3, rfl, hv3, hb3⟩; go_must ((have hbb3 := hbb2.trans (hb3.mono hbb2.size); have hv2' := (hv2.keep (S' := fun k => W.heap.size ≤ k) (fun _ _ _ => rfl) (fun k hk _ => by have := hbb1.size; have h2 : W.drew.heap.size = W.heap.size := rfl; omega)).after hb3; replace hv3 := hv3.keep (S' := fun k => W.heap.size ≤ k) (fun _ _ _ => rfl) (fun k hk _ => by have := hbb2.size; have h2 : W.drew.heap.size = W.heap.size := rfl; omega); obtain ⟨u2, m2, z2, p2, P1, P2, i1, i2, i3, i4, rfl, hvv2, -⟩ := hv2'.opens; cases hvv2; obtain ⟨u3, m3, z3, p3, P3, P4, j1, j2, j3, j4, rfl, hvv3, -⟩ := hv3.opens; cases hvv3; have hL := lr_three 27 (fun k => W.heap.size ≤ k) (fun k hk => by have := hbb3.size; have h2 : W.drew.heap.size = W.heap.size := rfl; omega) (HV1.out w3) hv2' hv3; dsimp only [Quad.agg] at hL ⊢))) | (go_simp; go_at_call 29; refine (manyS_any _ (fun k => W.heap.size ≤ k) _ 3 3 [.mk 1 k [] [], .mk 2 0 nm [], .mk 2 0 bs []] hL).mono ?_; rintro e w4 ⟨q4, rfl, hv4, hb4⟩; go_must ((have hbb4 := (hbb3.alloc hbb3.size _).trans (hb4.mono (by have := hbb3.size; simp; omega)); have hk4 := (HW.out w4 hbb4).2.1; obtain ⟨s0, s1, s2, s3, f0, f1, f2, f3, hz⟩ := hk4.four; obtain ⟨u4, m4, z4, p4, P5, P6, g1, g2, g3, g4, rfl, hvv4, -⟩ := hv4.opens; cases hvv4; dsimp only [Quad.agg]))))
  all_goals
    go_wp2_with fail
    exact bodyPost_ret (results_cell1 rfl rfl (load27 (set4_blk hk4 _ _ _ _))) rfl ⟨⟨.int .i64 3, .int .u64 ((0 : Nat) : Int), .slice P5 g1 g2, .slice P6 g3 g4⟩, rfl, hv4.keep (fun p hp _ => set4_other _ _ _ _ _ _ p (by have := hbb3.size; have h2 : W.drew.heap.size = W.heap.size := rfl; simp only [World.size_alloc] at hp; omega)) (fun _ _ _ => trivial), set4_below (HW.out w4 hbb4).2.2.2 _ (Nat.le_succ _) _ _ _ _⟩
end Go.Proofs.Ytaebmhbggbpnoaa
namespace Go.Proofs.Ytaebmhbggbpnoaa
open Go.RowKit
set_option maxRecDepth 100000 in
theorem fsize_no (w : World) (k : Int) (nm : List UInt8) (A : Option Addr) (n c : Nat) (h : nm.length = 32) (hr : rcRight k n = false) :
    Calls Try.prog 82 #[.agg (RC k nm (.slice A n c))] w fun e w' => e = .returned (.int .i64 0) ∧ Below w.heap.size w w' := by
  obtain ⟨RV, hRV, HB⟩ := rc_box w 109 k nm (.slice A n c)
  have HR : Hid (∀ w', Calls Try.prog 80 #[.agg (RC k nm (.slice A n c))] w' fun e w'' => e = .returned (.bool false) ∧ Below w'.heap.size w' w'') := Lib.hid fun w' => by have := fright_any w' k nm A n c h; rw [hr] at this; exact this
  rw [← hRV]
  clear hRV hr
  go_enter Try.func82, Try.ntmps82
  go_wp2_with (first | (refine wl_rec rfl (.tmp 1) 109 rfl (.inl rfl) rfl (HB.out _ (Below.refl _ _)).1 h ?_))
  refine (HR.out _).mono ?_
  rintro e w1 ⟨rfl, hb1⟩
  have H1 := Lib.hid (HB.out w1 (hb1.mono (by simp))).2
  clear hb1
  go_wp2_with fail
  go_ret
  exact ⟨rfl, H1.out⟩
set_option maxRecDepth 100000 in
theorem fsize_yes (w : World) (S : Nat → Prop) (k : Nat) (nm : List UInt8) (A : Option Addr) (n c : Nat) (bs : List UInt8) (h : nm.length = 32) (hk0 : 0 < k) (hk : k ≤ 9) (hx : Bs w S A n c bs) (hn : n ≤ 5000) :
    Calls Try.prog 82 #[.agg (RC (k : Int) nm (.slice A n c))] w fun e w' => e = .returned (.int .i64 (((recE k nm bs).length + 4 : Nat) : Int)) ∧ Below w.heap.size w w' := by
  obtain ⟨RV, hRV, HB⟩ := rc_box w 109 (k : Int) nm (.slice A n c)
  have hr : rcRight (k : Int) n = true := by unfold rcRight; simp; omega
  have HR : Hid (∀ w', Calls Try.prog 80 #[.agg (RC (k : Int) nm (.slice A n c))] w' fun e w'' => e = .returned (.bool true) ∧ Below w'.heap.size w' w'') := Lib.hid fun w' => by have := fright_any w' (k : Int) nm A n c h; rw [hr] at this; exact this
  have HV : Hid (∀ w', Below w.heap.size w w' → Calls Try.prog 113 #[.agg (RC (k : Int) nm (.slice A n c))] w' fun e w'' => ∃ q, e = .returned q.agg ∧ VR w'' AnyB q (recT k nm bs) ∧ Below w'.heap.size w' w'') := Lib.hid fun w' hb => fvalue_any w' S k nm A n c bs h hk (hx.after hb) (by omega)
  have HL := Lib.hid (rec_size hk h (show bs.length ≤ 5100 by have := hx.len; omega))
  have hlen : (recE k nm bs).length ≤ 6000 := by have := recE_len (k := k) (bs := bs) h; have := numE_small hk; have := hx.len; omega
  obtain ⟨N, hN⟩ : ∃ N, N = (recE k nm bs).length := ⟨_, rfl⟩
  rw [← hN] at HL hlen ⊢
  rw [← hRV]
  clear hRV hr hN hx
  go_enter Try.func82, Try.ntmps82
  go_wp2_with (first | (refine wl_rec rfl (.tmp 1) 109 rfl (.inl rfl) rfl (HB.out _ (Below.refl _ _)).1 h ?_))
  refine (HR.out _).mono ?_
  rintro e w1 ⟨rfl, hb1⟩
  have H1 := Lib.hid (HB.out w1 (hb1.mono (by simp)))
  clear hb1
  go_wp2_with (first | (refine wl_rec rfl (.tmp 1) 109 rfl (.inl rfl) rfl H1.out.1 h ?_))
  refine (HV.out w1 H1.out.2).mono ?_
  rintro e w2 ⟨q, rfl, hv, hb2⟩
  have H2 := Lib.hid (And.intro (H1.out.2.trans (hb2.mono H1.out.2.size)) hv)
  clear hb2 hv
  go_wp2_with fail
  refine (size_any _ q w2 _ H2.out.2).mono ?_
  rintro e w3 ⟨rfl, hb3⟩
  have H3 := Lib.hid (H2.out.1.trans (hb3.mono H2.out.1.size))
  rw [HL.out]
  clear hb3
  go_wp2_with fail
  go_ret
  refine ⟨?_, H3.out⟩
  go_num
end Go.Proofs.Ytaebmhbggbpnoaa
namespace Go.Proofs.Ytaebmhbggbpnoaa
open Go.RowKit
theorem seal_len (b : List UInt8) : (Crc.seal_ b).length = b.length + 4 := by simp [Crc.seal_, Crc.le32]
set_option maxRecDepth 100000 in
theorem fput_nil (w : World) (k : Int) (nm : List UInt8) (A : Option Addr) (n c : Nat) :
    Calls Try.prog 76 #[.pointer none, .agg (RC k nm (.slice A n c))] w fun e w' => e = .returned (.tuple #[.slice none 0 0, .int .i64 18]) ∧ Below w.heap.size w w' := by
  obtain ⟨RV, hRV, HB⟩ := rc_box w 109 k nm (.slice A n c)
  rw [← hRV]
  clear hRV
  go_enter Try.func76, Try.ntmps76
  go_wp2_with fail
  go_ret2
  exact ⟨rfl, (HB.out _ (Below.refl _ _)).2⟩
set_option maxRecDepth 100000 in
theorem fput_no (w : World) (g : Addr) (k : Int) (nm : List UInt8) (A : Option Addr) (n c : Nat) (h : nm.length = 32) (hr : rcRight k n = false) :
    Calls Try.prog 76 #[.pointer (some g), .agg (RC k nm (.slice A n c))] w fun e w' => e = .returned (.tuple #[.slice none 0 0, .int .i64 1]) ∧ Below w.heap.size w w' := by
  obtain ⟨RV, hRV, HB⟩ := rc_box w 109 k nm (.slice A n c)
  have HR : Hid (∀ w', Calls Try.prog 80 #[.agg (RC k nm (.slice A n c))] w' fun e w'' => e = .returned (.bool false) ∧ Below w'.heap.size w' w'') := Lib.hid fun w' => by have := fright_any w' k nm A n c h; rw [hr] at this; exact this
  rw [← hRV]
  clear hRV hr
  go_enter Try.func76, Try.ntmps76
  go_wp2_with (first | (refine wl_rec rfl (.tmp 3) 109 rfl (.inl rfl) rfl (HB.out _ (Below.refl _ _)).1 h ?_))
  refine (HR.out _).mono ?_
  rintro e w1 ⟨rfl, hb1⟩
  have H1 := Lib.hid (HB.out w1 (hb1.mono (by simp))).2
  clear hb1
  go_wp2_with fail
  go_ret2
  exact ⟨rfl, H1.out⟩
def FPutEnd (w : World) (g : Nat) (d : Int) (E : List UInt8) (e : Ending) (w' : World) : Prop :=
  ∃ A' c' d', e = .returned (.tuple #[.slice A' E.length c', .int .i64 0]) ∧ w'.ownsRow w.heap.size 5 1 (.slice A' E.length c') E.length (u8s E) ∧ Tbl w' g d' ∧ d ≤ d' ∧ d' ≤ d + 10000 ∧ w.grownBy w' (some g)
set_option maxRecDepth 100000 in
set_option maxHeartbeats 1000000 in
theorem fput_yes (w : World) (g : Nat) (d : Int) (S : Nat → Prop) (k : Nat) (nm : List UInt8) (A : Option Addr) (n c : Nat) (bs : List UInt8) (ht : Tbl w g d) (hd : 0 ≤ d ∧ d ≤ 1000000000) (h : nm.length = 32) (hk0 : 0 < k) (hk : k ≤ 9) (hx : Bs w S A n c bs) (hn : n ≤ 5000) :
    Calls Try.prog 76 #[.pointer (some ⟨g, 0, none⟩), .agg (RC (k : Int) nm (.slice A n c))] w (FPutEnd w g d (frE k nm bs)) := by
  obtain ⟨RV, hRV, HB⟩ := rc_box w 109 (k : Int) nm (.slice A n c)
  have hr : rcRight (k : Int) n = true := by unfold rcRight; simp; omega
  have HR : Hid (∀ w', Calls Try.prog 80 #[.agg (RC (k : Int) nm (.slice A n c))] w' fun e w'' => e = .returned (.bool true) ∧ Below w'.heap.size w' w'') := Lib.hid fun w' => by have := fright_any w' (k : Int) nm A n c h; rw [hr] at this; exact this
  have HV : Hid (∀ w', Below w.heap.size w w' → Calls Try.prog 113 #[.agg (RC (k : Int) nm (.slice A n c))] w' fun e w'' => ∃ q, e = .returned q.agg ∧ VR w'' AnyB q (recT k nm bs) ∧ Below w'.heap.size w' w'') := Lib.hid fun w' hb => fvalue_any w' S k nm A n c bs h hk (hx.after hb) (by omega)
  have HP : Hid (∀ w' q, VR w' AnyB q (recT k nm bs) → Calls Try.prog 45 #[q.agg] w' (PutPost w' (some (recE k nm bs)))) := Lib.hid fun w' q hv => by
    have := put_any _ q w' _ hv
    rw [rec_put hk h (by have := hx.len; omega)] at this
    exact this
  have hlen : (recE k nm bs).length ≤ 6000 := by have := recE_len (k := k) (bs := bs) h; have := numE_small hk; have := hx.len; omega
  have HE : Hid (frE k nm bs = Crc.seal_ (recE k nm bs) ∧ (frE k nm bs).length = (recE k nm bs).length + 4) := Lib.hid ⟨rfl, seal_len _⟩
  obtain ⟨E, hE⟩ : ∃ E, E = recE k nm bs := ⟨_, rfl⟩
  rw [← hE] at HP HE hlen
  have HTT := Lib.hid ht
  have hgl := tbl_lt ht
  rw [← hRV]
  clear hRV hr hE hx ht
  go_enter Try.func76, Try.ntmps76
  go_wp2_with (first | (refine wl_rec rfl (.tmp 3) 109 rfl (.inl rfl) rfl (HB.out _ (Below.refl _ _)).1 h ?_))
  refine (HR.out _).mono ?_
  rintro e w1 ⟨rfl, hb1⟩
  have H1 := Lib.hid (HB.out w1 (hb1.mono (by simp)))
  clear hb1
  go_wp2_with (first | (refine wl_rec rfl (.tmp 3) 109 rfl (.inl rfl) rfl H1.out.1 h ?_))
  refine (HV.out w1 H1.out.2).mono ?_
  rintro e w2 ⟨q, rfl, hv, hb2⟩
  have H2 := Lib.hid (And.intro (H1.out.2.trans (hb2.mono H1.out.2.size)) hv)
  clear hb2 hv H1
  go_wp2_with fail
  refine (HP.out w2 q H2.out.2).mono ?_
  rintro e w3 ⟨A3, c3, rfl, hx3, -, hb3⟩
  have H3 := Lib.hid (And.intro (H2.out.1.trans (hb3.mono H2.out.1.size)) hx3)
  have hs2 := H2.out.1.size
  obtain ⟨N, hN⟩ : ∃ N, N = E.length := ⟨_, rfl⟩
  rw [← hN] at H3 HE hlen ⊢
  clear hb3 hx3 H2 hN
  go_wp2_with fail
  refine (seal_any w3 g d (HTT.out.after H3.out.1) _ A3 N c3 E H3.out.2 (fun j hj _ => by omega) (by omega) (by omega)).mono ?_
  rintro e w4 ⟨A4, c4, rfl, ho4, ht4, hg4⟩
  have H4 := Lib.hid (And.intro ho4 (And.intro ht4 hg4))
  clear ho4 ht4 hg4
  go_wp2_with fail
  go_ret2
  refine ⟨A4, c4, d + (N : Int), by rw [HE.out.2]; rfl, ?_, .inl H4.out.2.1, by omega, by omega, only_trans (only_of_below H3.out.1 _) H4.out.2.2⟩
  have ho := H4.out.1
  rw [HE.out.2, HE.out.1]
  exact ⟨ho.1, ho.2.imp id fun ⟨g, cap, cur, e, hg, r⟩ => ⟨g, cap, cur, e, Nat.le_trans H3.out.1.size hg, r⟩⟩
end Go.Proofs.Ytaebmhbggbpnoaa
namespace Go.Proofs.Ytaebmhbggbpnoaa
open Go.RowKit
set_option maxRecDepth 100000 in
theorem frput_no (w : World) (k : Int) (nm : List UInt8) (A : Option Addr) (n c : Nat) (h : nm.length = 32) (hr : rcRight k n = false) :
    Calls Try.prog 79 #[.agg (RC k nm (.slice A n c))] w fun e w' => e = .returned (.tuple #[.slice none 0 0, .int .i64 1]) ∧ Below w.heap.size w w' := by
  obtain ⟨RV, hRV, HB⟩ := rc_box w 112 k nm (.slice A n c)
  have HR : Hid (∀ w', Calls Try.prog 81 #[.agg (RC k nm (.slice A n c))] w' fun e w'' => e = .returned (.bool false) ∧ Below w'.heap.size w' w'') := Lib.hid fun w' => by have := frright_any w' k nm A n c h; rw [hr] at this; exact this
  rw [← hRV]
  clear hRV hr
  go_enter Try.func79, Try.ntmps79
  go_wp2_with (first | (refine wl_rec rfl (.tmp 1) 112 rfl (.inr rfl) rfl (HB.out _ (Below.refl _ _)).1 h ?_))
  refine (HR.out _).mono ?_
  rintro e w1 ⟨rfl, hb1⟩
  have H1 := Lib.hid (HB.out w1 (hb1.mono (by simp))).2
  clear hb1
  go_wp2_with fail
  go_ret2
  exact ⟨rfl, H1.out⟩
set_option maxRecDepth 100000 in
set_option maxHeartbeats 1000000 in
theorem frput_yes (w : World) (S : Nat → Prop) (k : Nat) (nm : List UInt8) (A : Option Addr) (n c : Nat) (bs : List UInt8) (h : nm.length = 32) (hk0 : 0 < k) (hk : k ≤ 9) (hx : Bs w S A n c bs) (hn : n ≤ 5000) :
    Calls Try.prog 79 #[.agg (RC (k : Int) nm (.slice A n c))] w fun e w' => ∃ A' c', e = .returned (.tuple #[.slice A' (frE k nm bs).length c', .int .i64 0]) ∧ w'.ownsRow w.heap.size 5 1 (.slice A' (frE k nm bs).length c') (frE k nm bs).length (u8s (frE k nm bs)) ∧ Below w.heap.size w w' := by
  have e0 := @RC.at0 (k : Int) nm (.slice A n c)
  have e33 := @RC.at33 (k : Int) nm (.slice A n c) h
  obtain ⟨RV, hRV, HB⟩ := rc_box w 112 (k : Int) nm (.slice A n c)
  have hr : rcRight (k : Int) n = true := by unfold rcRight; simp; omega
  have HR : Hid (∀ w', Calls Try.prog 81 #[.agg (RC (k : Int) nm (.slice A n c))] w' fun e w'' => e = .returned (.bool true) ∧ Below w'.heap.size w' w'') := Lib.hid fun w' => by have := frright_any w' (k : Int) nm A n c h; rw [hr] at this; exact this
  have HP : Hid (∀ w' q, VR w' AnyB q (recT k nm bs) → Calls Try.prog 46 #[q.agg] w' (PutPost w' (some (recE k nm bs)))) := Lib.hid fun w' q hv => by
    have := rput_any _ q w' _ hv
    rw [rec_put hk h (by have := hx.len; omega)] at this
    exact this
  have hlen : (recE k nm bs).length ≤ 6000 := by have := recE_len (k := k) (bs := bs) h; have := numE_small hk; have := hx.len; omega
  have HE : Hid (frE k nm bs = Crc.seal_ (recE k nm bs) ∧ (frE k nm bs).length = (recE k nm bs).length + 4) := Lib.hid ⟨rfl, seal_len _⟩
  obtain ⟨E, hE⟩ : ∃ E, E = recE k nm bs := ⟨_, rfl⟩
  rw [← hE] at HP HE hlen
  have HX := Lib.hid hx
  have HRV := Lib.hid hRV
  rw [← hRV] at e0 e33 ⊢
  clear hRV hr hE hx
  go_enter Try.func79, Try.ntmps79
  go_wp2_with (first | (refine wl_rec rfl (.tmp 1) 112 rfl (.inr rfl) rfl (HB.out _ (Below.refl _ _)).1 h ?_))
  refine (HR.out _).mono ?_
  rintro e w1 ⟨rfl, hb1⟩
  have H1 := Lib.hid (HB.out w1 (hb1.mono (by simp)))
  have h33 : w1.cell? ⟨w.heap.size, 33, none⟩ = some (.slice A n c) ∧ w1.cell? ⟨w.heap.size, 0, none⟩ = some (.int .i64 (k : Int)) := by
    rw [H1.out.1.cell, H1.out.1.cell, ← HRV.out]
    exact ⟨e33, e0⟩
  obtain ⟨k33, k0⟩ := h33
  have hz : w.heap.size < w1.heap.size := H1.out.1.lt
  have HL : Hid (∀ w', Below w1.heap.size w1 w' → VR (w'.alloc (.cells #[.int .i64 1, .int .u64 (k : Int), .slice none 0 0, .slice none 0 0, .int .i64 2, .int .u64 0, .slice (some ⟨w.heap.size, 1, none⟩) 32 32, .slice none 0 0, .int .i64 2, .int .u64 0, .slice A n c, .slice none 0 0] 33)) AnyB ⟨.int .i64 3, .int .u64 ((0 : Nat) : Int), .slice none 0 0, .slice (some ⟨w'.heap.size, 0, none⟩) 3 3⟩ (recT k nm bs) ∧ True) := Lib.hid fun w' hb => by
    have u0 : u64ok 0 := by simp [u64ok]
    have q1 : VR w' AnyB ⟨.int .i64 1, .int .u64 (k : Int), .slice none 0 0, .slice none 0 0⟩ (.mk 1 k [] []) := VR.shut (by simp [u64ok]; omega) (Bs.nil _ _ _) (by omega) (LR.nil _ _ _)
    have q2 : VR w' AnyB ⟨.int .i64 2, .int .u64 ((0 : Nat) : Int), .slice (some ⟨w.heap.size, 1, none⟩) 32 32, .slice none 0 0⟩ (.mk 2 0 nm []) := VR.shut u0 (bs_name (H1.out.1.after hb) h).any (by omega) (LR.nil _ _ _)
    have q3 : VR w' AnyB ⟨.int .i64 2, .int .u64 ((0 : Nat) : Int), .slice A n c, .slice none 0 0⟩ (.mk 2 0 bs []) := VR.shut u0 ((HX.out.after H1.out.2).after hb).any (by omega) (LR.nil _ _ _)
    exact ⟨VR.shut u0 (Bs.nil _ _ _) (by omega) (lr_three 33 AnyB (fun _ _ => trivial) q1 q2 q3), trivial⟩
  clear hb1 e0 e33
  go_wp2_with fail
  go_region
  all_goals
    first
      | (obtain ⟨W, hW⟩ : ∃ W, W = ((w1.alloc (.cells #[.int .i64 1, .int .u64 (k : Int), .slice none 0 0, .slice none 0 0, .int .i64 2, .int .u64 0, .slice (some ⟨w.heap.size, 1, none⟩) 32 32, .slice none 0 0, .int .i64 2, .int .u64 0, .slice A n c, .slice none 0 0] 33)).alloc (.cells #[.int .i64 3, .int .u64 0, .slice none 0 0, .slice (some ⟨w1.heap.size, 0, none⟩) 3 3] 33)).drew := ⟨_, rfl⟩
         rw [← hW]
         have HW : Hid (VR W AnyB ⟨.int .i64 3, .int .u64 ((0 : Nat) : Int), .slice none 0 0, .slice (some ⟨w1.heap.size, 0, none⟩) 3 3⟩ (recT k nm bs) ∧ Below w1.heap.size w1 W) := Lib.hid (by rw [hW]; exact ⟨(HL.out w1 (Below.refl _ _)).1.after ((Below.refl _ _).alloc (Nat.le_refl _) _).drew, (((Below.refl _ w1).alloc (Nat.le_refl _) _).alloc (by simp) _).drew⟩)
         have hbk : Blk W (w1.heap.size + 1) 33 #[.int .i64 3, .int .u64 0, .slice none 0 0, .slice (some ⟨w1.heap.size, 0, none⟩) 3 3] := by rw [hW]; exact (blk_new (by simp)).drew)
      | (obtain ⟨W, hW⟩ : ∃ W, W = ((w1.alloc (.cells #[.int .i64 3, .int .u64 0, .slice none 0 0, .slice (some ⟨w1.heap.size + 1, 0, none⟩) 3 3] 33)).alloc (.cells #[.int .i64 1, .int .u64 (k : Int), .slice none 0 0, .slice none 0 0, .int .i64 2, .int .u64 0, .slice (some ⟨w.heap.size, 1, none⟩) 32 32, .slice none 0 0, .int .i64 2, .int .u64 0, .slice A n c, .slice none 0 0] 33)).drew := ⟨_, rfl⟩
         rw [← hW]
         have HW : Hid (VR W AnyB ⟨.int .i64 3, .int .u64 ((0 : Nat) : Int), .slice none 0 0, .slice (some ⟨w1.heap.size + 1, 0, none⟩) 3 3⟩ (recT k nm bs) ∧ Below w1.heap.size w1 W) := Lib.hid (by
           have h2 := (HL.out (w1.alloc (.cells #[.int .i64 3, .int .u64 0, .slice none 0 0, .slice (some ⟨w1.heap.size + 1, 0, none⟩) 3 3] 33)) ((Below.refl _ _).alloc (Nat.le_refl _) _)).1.after (Below.refl _ _).drew
           rw [hW]
           simp only [World.size_alloc] at h2
           exact ⟨h2, (((Below.refl _ w1).alloc (Nat.le_refl _) _).alloc (by simp) _).drew⟩)
         have hbk : Blk W w1.heap.size 33 #[.int .i64 3, .int .u64 0, .slice none 0 0, .slice (some ⟨w1.heap.size + 1, 0, none⟩) 3 3] := by rw [hW]; exact ((Blk.new _ _ _).alloc _).drew)
    obtain ⟨z0, z1, z2, z3, -⟩ := hbk.four
    clear hW hbk k33 k0
    go_wp2_with fail
    refine (HP.out W _ HW.out.1).mono ?_
    rintro e w3 ⟨A3, c3, rfl, hx3, -, hb3⟩
    have hbW := H1.out.2.trans (HW.out.2.mono H1.out.2.size)
    have H3 := Lib.hid (And.intro (hbW.trans (hb3.mono hbW.size)) hx3)
    obtain ⟨N, hN⟩ : ∃ N, N = E.length := ⟨_, rfl⟩
    rw [← hN] at H3 HE hlen ⊢
    clear hb3 hx3 hN z0 z1 z2 z3 hbW
    go_wp2_with fail
    refine (rseal_any w3 _ A3 N c3 E H3.out.2 (by omega)).mono ?_
    rintro e w4 ⟨A4, c4, rfl, ho4, hb4⟩
    have H4 := Lib.hid (And.intro ho4 hb4)
    clear ho4 hb4
    go_wp2_with fail
    go_ret2
    refine ⟨A4, c4, by rw [HE.out.2]; rfl, ?_, H3.out.1.trans (H4.out.2.mono H3.out.1.size)⟩
    have ho := H4.out.1
    rw [HE.out.2, HE.out.1]
    exact ⟨ho.1, ho.2.imp id fun ⟨g, cap, cur, e, hg, r⟩ => ⟨g, cap, cur, e, Nat.le_trans H3.out.1.size hg, r⟩⟩
end Go.Proofs.Ytaebmhbggbpnoaa
