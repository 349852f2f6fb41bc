/- The walk of the reference's Take (frame), first part. Conditions: each theorem's premises. -/
import Derived.Test.YtaebmhbggbpnoaaGFr7
import Derived.Test.YtaebmhbggbpnoaaGFrSpec
namespace Go.Proofs.Ytaebmhbggbpnoaa
open Go.RowKit
theorem zero_box' (w : World) : ∃ ZV, ZV = RC 0 noName (.slice none 0 0) ∧ Blk (w.alloc (.cells ZV 112)) w.heap.size 112 (RC 0 noName (.slice none 0 0)) ∧ Below w.heap.size w (w.alloc (.cells ZV 112)) :=
  ⟨_, rfl, Blk.new w 112 _, (Below.refl _ w).alloc (Nat.le_refl _) _⟩
def FRTakeEnd (w : World) (R : FrR) (e : Ending) (w' : World) : Prop :=
  ∃ k nm b m f, e = .returned (.tuple #[.agg (RC k nm b), .int .i64 m, .int .i64 f]) ∧ nm.length = 32 ∧ b.oneCell' = true ∧ FRes w' w.heap.size R k nm b m f ∧ Below w.heap.size w w'
set_option maxRecDepth 100000 in
set_option maxHeartbeats 1000000 in
theorem frtake_none (w : World) (S : Nat → Prop) (A : Option Addr) (n c : Nat) (bs : List UInt8) (hx : Bs w S A n c bs) (hn : n ≤ 100000000) (hr : readT 8 bs = none) :
    Calls Try.prog 67 #[.slice A n c] w (FRTakeEnd w (frT bs)) := by
  obtain ⟨ZV, hZ, hb, hbe⟩ := zero_box' w
  have HB : Hid (∀ w', Below (w.heap.size + 1) (w.alloc (.cells ZV 112)) w' → Blk w' w.heap.size 112 (RC 0 noName (.slice none 0 0)) ∧ Below w.heap.size w w') := Lib.hid fun w' h => ⟨hb.below h (Nat.lt_succ_self _), hbe.trans (h.mono (Nat.le_succ _))⟩
  rw [← zero_rec] at hZ
  have HZ := Lib.hid hZ
  have HT := rtake_none (w.alloc (.cells ZV 112)) S A n c bs (hx.after hbe) (by omega) hr
  have HF : Hid (frT bs = .bad 16) := Lib.hid (by unfold frT; rw [hr])
  rw [hZ] at HT
  have HTH := Lib.hid HT
  clear hb hbe hx HT hr
  go_enter Try.func67, Try.ntmps67
  go_wp2_with fail
  refine (HTH.out).mono ?_
  rintro e w2 ⟨rfl, hb2⟩
  rw [← HZ.out] at hb2
  have H2 := Lib.hid (HB.out w2 (by have h := hb2; simp only [World.size_alloc] at h; exact h))
  clear hb2
  go_wp2_with (first | (refine wl_build rfl 112 _ rfl (cs := RC 0 noName (.slice none 0 0)) (by simp only [List.map_toArray, List.map_nil]; exact built112n) ?_) | (refine wl_store rfl (.tmp 2) (.tmp 27) 112 rfl (.inr rfl) rfl rfl (H2.out.1.alloc _) rfl noName_len rfl ?_; intro w3 hb3 hf3))
  have hbF : Below w.heap.size w w3 := (H2.out.2.alloc H2.out.2.size _).trans (hf3 _ (Nat.le_refl _))
  refine bodyPost_ret (results_cell3 rfl rfl (run_loadVar_row w3 _ 112 112 _ (0, 0) _ hb3 Try.underlying112 rfl (by rw [size112, RC.size noName_len]))) rfl ⟨0, noName, .slice none 0 0, 0, 16, rfl, noName_len, rfl, ?_, hbF⟩
  rw [HF.out]
  exact ⟨rfl, rfl, rfl, rfl, rfl⟩
set_option maxRecDepth 100000 in
set_option maxHeartbeats 1000000 in
theorem frtake_short (w : World) (S : Nat → Prop) (A : Option Addr) (n c : Nat) (bs rest : List UInt8) (v : TV) (hx : Bs w S A n c bs) (hn : n ≤ 100000000) (hr : readT 8 bs = some (v, rest)) (h4 : rest.length < 4) :
    Calls Try.prog 67 #[.slice A n c] w (FRTakeEnd w (frT bs)) := by
  obtain ⟨ZV, hZ, hb, hbe⟩ := zero_box' w
  have HB : Hid (∀ w', Below (w.heap.size + 1) (w.alloc (.cells ZV 112)) w' → Blk w' w.heap.size 112 (RC 0 noName (.slice none 0 0)) ∧ Below w.heap.size w w') := Lib.hid fun w' h => ⟨hb.below h (Nat.lt_succ_self _), hbe.trans (h.mono (Nat.le_succ _))⟩
  rw [← zero_rec] at hZ
  have HZ := Lib.hid hZ
  have HT := rtake_some (w.alloc (.cells ZV 112)) S A n c bs rest v (hx.after hbe) (by omega) hr
  have HF : Hid (frT bs = .bad 16) := Lib.hid (by unfold frT; rw [hr]; simp only; rw [if_pos h4])
  rw [hZ] at HT
  have HTH := Lib.hid HT
  clear hb hbe hx HT hr
  go_enter Try.func67, Try.ntmps67
  go_wp2_with fail
  refine (HTH.out).mono ?_
  rintro e w2 ⟨q, A2, m, c2, rfl, hv, hown, -, hb2⟩
  obtain ⟨tg, N, bb, ll, B2, B3, k2, e2, k3, e3, rfl, rfl, -⟩ := hv.opens
  have hm : (m : Int) < 4 := by have := hown.len; omega
  rw [← HZ.out] at hb2
  have H2 := Lib.hid (HB.out w2 (by have h := hb2; simp only [World.size_alloc] at h; exact h))
  clear hb2 hv hown
  dsimp only [Quad.agg]
  go_wp2_with (first | (refine wl_build rfl 112 _ rfl (cs := RC 0 noName (.slice none 0 0)) (by simp only [List.map_toArray, List.map_nil]; exact built112n) ?_) | (refine wl_store rfl (.tmp 2) (.tmp 27) 112 rfl (.inr rfl) rfl rfl (H2.out.1.alloc _) rfl noName_len rfl ?_; intro w3 hb3 hf3))
  have hbF : Below w.heap.size w w3 := (H2.out.2.alloc H2.out.2.size _).trans (hf3 _ (Nat.le_refl _))
  refine bodyPost_ret (results_cell3 rfl rfl (run_loadVar_row w3 _ 112 112 _ (0, 0) _ hb3 Try.underlying112 rfl (by rw [size112, RC.size noName_len]))) rfl ⟨0, noName, .slice none 0 0, 0, 16, rfl, noName_len, rfl, ?_, hbF⟩
  rw [HF.out]
  exact ⟨rfl, rfl, rfl, rfl, rfl⟩
set_option maxRecDepth 100000 in
set_option maxHeartbeats 1000000 in
theorem frtake_sum (w : World) (S : Nat → Prop) (A : Option Addr) (n c : Nat) (bs rest : List UInt8) (v : TV) (hx : Bs w S A n c bs) (hn : n ≤ 100000000) (hr : readT 8 bs = some (v, rest)) (h4 : 4 ≤ rest.length) (hF : openF (bs.take (bs.length - rest.length + 4)) ≠ 0) :
    Calls Try.prog 67 #[.slice A n c] w (FRTakeEnd w (frT bs)) := by
  obtain ⟨ZV, hZ, hb, hbe⟩ := zero_box' w
  have HB : Hid (∀ w', Below (w.heap.size + 1) (w.alloc (.cells ZV 112)) w' → Blk w' w.heap.size 112 (RC 0 noName (.slice none 0 0)) ∧ Below w.heap.size w w') := Lib.hid fun w' h => ⟨hb.below h (Nat.lt_succ_self _), hbe.trans (h.mono (Nat.le_succ _))⟩
  rw [← zero_rec] at hZ
  have HZ := Lib.hid hZ
  have HT := rtake_some (w.alloc (.cells ZV 112)) S A n c bs rest v (hx.after hbe) (by omega) hr
  obtain ⟨F, hFF⟩ : ∃ F, F = openF (bs.take (bs.length - rest.length + 4)) := ⟨_, rfl⟩
  rw [← hFF] at hF
  have HF : Hid (frT bs = .bad F) := Lib.hid (by unfold frT; rw [hr]; simp only; rw [if_neg (by omega), ← hFF, if_pos hF])
  have HX := Lib.hid hx
  have hrl : rest.length ≤ n := by
    obtain ⟨-, x, -, e⟩ := put_read 8 bs rest v hr
    have h := congrArg List.length e
    rw [hx.len] at h
    simp only [List.length_append] at h
    omega
  obtain ⟨m, hm⟩ : ∃ m, m = rest.length := ⟨_, rfl⟩
  obtain ⟨NN, hNN⟩ : ∃ NN, NN = n - m + 4 := ⟨_, rfl⟩
  have HFF : Hid (F = openF (bs.take NN)) := Lib.hid (by rw [hFF, hx.len, ← hm, hNN])
  have HM := Lib.hid hm
  have hm1 : 4 ≤ m := by omega
  have hm2 : m ≤ n := by omega
  have hNn : NN ≤ n := by omega
  have hni : (n : Int) - (m : Int) + 4 = (NN : Int) := by omega
  have d1 : (F != 0) = true := by simpa using hF
  have HNI := Lib.hid hni
  rw [hZ] at HT
  have HTH := Lib.hid HT
  clear hb hbe hx HT hr hrl hFF hm hF h4 hNN hni
  go_enter Try.func67, Try.ntmps67
  go_wp2_with fail
  refine (HTH.out).mono ?_
  rintro e w2 ⟨q, A2, m', c2, rfl, hv, hown, -, hb2⟩
  obtain rfl : m' = m := by rw [HM.out]; exact hown.len.symm
  obtain ⟨tg, N, bb, ll, B2, B3, k2, e2, k3, e3, rfl, rfl, -⟩ := hv.opens
  rw [← HZ.out] at hb2
  have H2 := Lib.hid (HB.out w2 (by have h := hb2; simp only [World.size_alloc] at h; exact h))
  obtain ⟨W3, hW3⟩ : ∃ W3, W3 = w2.alloc (.cells #[.int .i64 tg, .int .u64 (N : Int), .slice B2 k2 e2, .slice B3 k3 e3] 33) := ⟨_, rfl⟩
  have H3 : Hid (Blk W3 w.heap.size 112 (RC 0 noName (.slice none 0 0)) ∧ Below w.heap.size w W3) := Lib.hid (by rw [hW3]; exact ⟨H2.out.1.alloc _, H2.out.2.alloc H2.out.2.size _⟩)
  obtain ⟨A7, c7, hcut, hx7⟩ := (HX.out.after H3.out.2).upto ((n : Int) - (m' : Int) + 4) NN HNI.out hNn
  have HX7 := Lib.hid hx7
  clear hb2 hv hown hx7
  dsimp only [Quad.agg]
  have hm3 : ¬ (m' : Int) < 4 := by omega
  go_wp2_with fail
  rw [← hW3]
  clear hW3
  refine (ropen_any W3 _ A7 NN c7 (bs.take NN) HX7.out (by omega)).mono ?_
  rintro e w4 ⟨A8, n8, c8, rfl, -, hb4⟩
  rw [← HFF.out]
  have H4 := Lib.hid (And.intro (H3.out.1.after hb4) (H3.out.2.trans (hb4.mono H3.out.2.size)))
  clear hb4
  go_wp2_with (first | (refine wl_build rfl 112 _ rfl (cs := RC 0 noName (.slice none 0 0)) (by simp only [List.map_toArray, List.map_nil]; exact built112n) ?_) | (refine wl_store rfl (.tmp 2) (.tmp 43) 112 rfl (.inr rfl) rfl rfl H4.out.1 rfl noName_len rfl ?_; intro w5 hb5 hf5))
  have hbF : Below w.heap.size w w5 := H4.out.2.trans (hf5 _ (Nat.le_refl _))
  refine bodyPost_ret (results_cell3 rfl rfl (run_loadVar_row w5 _ 112 112 _ (0, 0) _ hb5 Try.underlying112 rfl (by rw [size112, RC.size noName_len]))) rfl ⟨0, noName, .slice none 0 0, 0, F, rfl, noName_len, rfl, ?_, hbF⟩
  rw [HF.out]
  exact ⟨rfl, rfl, rfl, rfl, rfl⟩
theorem frT_got {bs rest : List UInt8} {v : TV} (hr : readT 8 bs = some (v, rest)) (h4 : 4 ≤ rest.length) (hF : openF (bs.take (bs.length - rest.length + 4)) = 0) : frT bs = match recOf v with | none => .bad 3 | some (k, nm, b) => .good k nm b (bs.length - rest.length + 4) := by
  unfold frT
  rw [hr]
  simp only
  rw [if_neg (by omega), hF, if_neg (by simp)]
  cases recOf v <;> rfl
end Go.Proofs.Ytaebmhbggbpnoaa
