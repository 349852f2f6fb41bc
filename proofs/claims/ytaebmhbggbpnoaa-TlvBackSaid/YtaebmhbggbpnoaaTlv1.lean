/- Walks of package tlv: making values, splitting a form's head, and of the plain comparison of bytes. Conditions: each theorem's premises (lengths of at most 1,000,000,000). -/
import Derived.Test.YtaebmhbggbpnoaaTlvMem
namespace Go.Proofs.Ytaebmhbggbpnoaa
open Go.RowKit
set_option maxHeartbeats 400000 in
theorem bytes_any (w : World) (S S' : Nat → Prop) (A A' : Option Addr) (n n' c c' : Nat) (xs ys : List UInt8) (hx : Bs w S A n c xs) (hy : Bs w S' A' n' c' ys) (hn : n ≤ 1000000000) (hn' : n' ≤ 1000000000) :
    Calls Try.prog 26 #[.slice A n c, .slice A' n' c'] w fun e w' => e = .returned (.bool (decide (xs = ys))) ∧ ∃ k, w' = w.drewN k := by
  have hlx := hx.len
  have hly := hy.len
  by_cases hne : n = n'
  · subst hne
    have Hlx := Lib.hid hlx
    have Hly := Lib.hid hly
    clear hlx hly
    go_enter Try.func26, Try.ntmps26
    go_wp2
    go_loopw [5] (fun i wr => ∃ k m : Nat, k ≤ n ∧ i = .int .i64 k ∧ Hid (xs.take k = ys.take k) ∧ wr = w.drewN m) (fun i _ => n - (intOf i).toNat)
    case atStart => exact ⟨0, 0, Nat.zero_le _, rfl, Lib.hid (by simp), rfl⟩
    case round =>
      obtain ⟨k, m, hk, rfl, he, rfl⟩ := hrel
      by_cases hlt : k < n
      · obtain ⟨ad, a, rfl, ha, h1⟩ := hx.at_ hlt
        obtain ⟨ad', b, rfl, hb, h2⟩ := hy.at_ hlt
        by_cases hd : a = b
        · subst hd
          have he' : Hid (xs.take (k + 1) = ys.take (k + 1)) := Lib.hid (by rw [take_snoc ha.out, take_snoc hb.out, he.out])
          go_wp2
          go_quiet (fail)
          go_wp2
          exact ⟨⟨k + 1, _, by omega, by go_num, he', rfl⟩, by simp [intOf]; omega⟩
        · have hbb := u8_ne hd
          have hf : Hid (xs ≠ ys) := Lib.hid (by rintro rfl; have := ha.out; rw [hb.out] at this; injection this with this; exact hd this.symm)
          clear hd
          go_wp2
          go_quiet (fail)
          go_wp2
          go_ret
          exact ⟨ret_bool (by simp [hf.out]), _, World.drewN_drewN _ _ _⟩
      · obtain rfl : k = n := by omega
        go_wp2
        go_ret
        refine ⟨ret_bool ?_, _, rfl⟩
        have := he.out
        rw [List.take_of_length_le (by have := Hlx.out; omega), List.take_of_length_le (by have := Hly.out; omega)] at this
        simp [this]
  · have h0 : ((n : Int) != (n' : Int)) = true := by simp; omega
    have Hne : Hid (xs ≠ ys) := Lib.hid (by rintro rfl; omega)
    clear hne
    clear hlx hly
    go_enter Try.func26, Try.ntmps26
    go_wp2
    go_ret
    exact ⟨ret_bool (by simp [Hne.out]), 0, rfl⟩
set_option maxRecDepth 10000 in
set_option maxHeartbeats 400000 in
theorem clone_any (w : World) (S : Nat → Prop) (A : Option Addr) (n c : Nat) (xs : List UInt8) (hx : Bs w S A n c xs) (hn : n ≤ 1000000000) :
    Calls Try.prog 88 #[.slice A n c] w fun e w' => ∃ A' c', e = .returned (.slice A' n c') ∧ w'.ownsRow w.heap.size 5 1 (.slice A' n c') n (u8s xs) ∧ Below w.heap.size w w' := by
  have qT := eql_nil22
  cases A with
  | none =>
    obtain ⟨rfl, rfl⟩ := hx.nil0
    go_enter Try.func88, Try.ntmps88
    go_wp2
    go_ret
    exact ⟨_, _, rfl, World.ownsRow_nil _ _ _ _, Below.refl _ _⟩
  | some ad =>
    go_enter Try.func88, Try.ntmps88
    go_wp2_with (at_builtin; (refine wpList_append_u8 (A := some ad) (m := n) (c := c) (ys := xs) (v := .slice (some ⟨w.heap.size, 0, none⟩) 0 0) (n := 0) (xs := []) rfl (.tmp 5) (.tmp 6) rfl rfl (World.ownsRow_made w #[] 0 (Nat.le_refl _) (by simp [maxLen]) rfl : World.ownsRow _ _ _ _ _ _ (u8s [])) rfl (hx.after ((Below.refl _ _).alloc (Nat.le_refl _) _)) (by omega) (by simp) ?_); intro v1 w1 hown hg hat)
    go_ret
    obtain ⟨A1, c1, rfl, _⟩ := own_shape hown
    simp only [Nat.zero_add, List.nil_append] at hown ⊢
    exact ⟨A1, c1, rfl, hown, ((Below.refl _ _).alloc (Nat.le_refl _) _).grown hg (by simp) (by simp [Value.ownBlock])⟩
set_option maxRecDepth 10000 in
set_option maxHeartbeats 400000 in
theorem split_short (w : World) (A : Option Addr) (n c : Nat) (hn : n < 3) :
    Calls Try.prog 123 #[.slice A n c] w fun e w' => e = .returned (.tuple #[.int .i64 0, .slice none 0 0, .slice none 0 0, .bool false]) ∧ ∃ k, w' = w.drewN k := by
  go_enter Try.func123, Try.ntmps123
  go_wp2
  refine bodyPost_ret (results_tmp4 rfl _ _ _) rfl ?_
  exact ⟨rfl, 0, rfl⟩
set_option maxRecDepth 10000 in
set_option maxHeartbeats 400000 in
theorem split_long (w : World) (S : Nat → Prop) (A : Option Addr) (n c : Nat) (t h l : UInt8) (xs : List UInt8) (hx : Bs w S A n c (t :: h :: l :: xs)) (hn : n ≤ 1000000000) (hlt : xs.length < h.toNat * 256 + l.toNat) :
    Calls Try.prog 123 #[.slice A n c] w fun e w' => e = .returned (.tuple #[.int .i64 0, .slice none 0 0, .slice none 0 0, .bool false]) ∧ ∃ k, w' = w.drewN k := by
  have hl := hx.len
  have hcap := hx.cap
  simp only [List.length_cons] at hl
  have h3 : ¬ n < 3 := by omega
  obtain ⟨ad, b0, rfl, e0, c0⟩ := hx.at0 (by omega)
  obtain ⟨_, b1, he, e1, c1⟩ := hx.atS 0 (by omega)
  cases he
  obtain ⟨_, b2, he, e2, c2⟩ := hx.atS 1 (by omega)
  cases he
  obtain rfl : t = b0 := by simpa using e0.out
  obtain rfl : h = b1 := by simpa using e1.out
  obtain rfl : l = b2 := by simpa using e2.out
  have n1 : ((1:Int) < (n : Int)) := by omega
  have n2 : ((2:Int) < (n : Int)) := by omega
  have u1 := u8_lt h
  have u2 := u8_lt l
  have hor := or256 h l
  have d0 : n - 3 < h.toNat * 256 + l.toNat := by omega
  generalize h.toNat * 256 + l.toNat = m at hor d0 hlt
  have d1 : decide ((n : Int) - 3 < (m : Int)) = true := by simp; omega
  clear hl d0 hlt e0 e1 e2
  go_enter Try.func123, Try.ntmps123
  go_wp2
  go_quiet (fail)
  go_wp2
  refine bodyPost_ret (results_tmp4 rfl _ _ _) rfl ?_
  exact ⟨rfl, _, rfl⟩
set_option maxRecDepth 10000 in
set_option maxHeartbeats 400000 in
theorem split_ok (w : World) (S : Nat → Prop) (A : Option Addr) (n c : Nat) (t h l : UInt8) (xs : List UInt8) (hx : Bs w S A n c (t :: h :: l :: xs)) (hn : n ≤ 1000000000) (hlt : ¬ xs.length < h.toNat * 256 + l.toNat) :
    Calls Try.prog 123 #[.slice A n c] w fun e w' => ∃ A1 c1 A2 c2, e = .returned (.tuple #[.int .i64 (t.toNat : Int), .slice A1 (h.toNat * 256 + l.toNat) c1, .slice A2 (n - 3 - (h.toNat * 256 + l.toNat)) c2, .bool true]) ∧
      Bs w S A1 (h.toNat * 256 + l.toNat) c1 (xs.take (h.toNat * 256 + l.toNat)) ∧ Bs w S A2 (n - 3 - (h.toNat * 256 + l.toNat)) c2 (xs.drop (h.toNat * 256 + l.toNat)) ∧ ∃ k, w' = w.drewN k := by
  have hl := hx.len
  have hcap := hx.cap
  simp only [List.length_cons] at hl
  have h3 : ¬ n < 3 := by omega
  obtain ⟨ad, b0, rfl, e0, c0⟩ := hx.at0 (by omega)
  obtain ⟨_, b1, he, e1, c1⟩ := hx.atS 0 (by omega)
  cases he
  obtain ⟨_, b2, he, e2, c2⟩ := hx.atS 1 (by omega)
  cases he
  obtain rfl : t = b0 := by simpa using e0.out
  obtain rfl : h = b1 := by simpa using e1.out
  obtain rfl : l = b2 := by simpa using e2.out
  have n1 : ((1:Int) < (n : Int)) := by omega
  have n2 : ((2:Int) < (n : Int)) := by omega
  have n0 : ((0:Int) < (n : Int)) := by omega
  have u1 := u8_lt h
  have u2 := u8_lt l
  have u0 := u8_lt t
  have hor := or256 h l
  have d0 : ¬ n - 3 < h.toNat * 256 + l.toNat := by omega
  generalize h.toNat * 256 + l.toNat = m at hor d0 hlt
  have d1 : decide ((n : Int) - 3 < (m : Int)) = false := by simp; omega
  obtain ⟨A1, k1, s1, r1⟩ := hx.cut 3 (3 + (m : Int)) 3 m rfl rfl (by omega)
  obtain ⟨A2, k2, s2, r2⟩ := hx.from_ (3 + (m : Int)) (3 + m) (n - 3 - m) (by omega) (by omega)
  simp only [List.drop_succ_cons, List.drop_zero] at r1
  have R2 : Bs w S A2 (n - 3 - m) k2 (xs.drop m) := by
    have e : (t :: h :: l :: xs).drop (3 + m) = xs.drop m := by rw [Nat.add_comm]; rfl
    rwa [e] at r2
  have dm : ¬ (n : Int) - 3 < m := by omega
  clear hl d0 hlt e0 e1 e2 r2
  go_enter Try.func123, Try.ntmps123
  go_wp2
  go_quiet (fail)
  go_wp2
  go_quiet (fail)
  go_wp2
  refine bodyPost_ret (results_tmp4 rfl _ _ _) rfl ?_
  exact ⟨A1, k1, A2, k2, rfl, r1, R2, _, World.drewN_drewN _ _ _⟩

theorem Try.info27 : (Try.prog.info? 27).map (fun i => (i.zero, i.size, i.bytes)) = some (some (.agg #[.int .i64 0, .int .u64 0, .slice none 0 0, .slice none 0 0]), 4, 64) := by kernel_rfl
theorem Try.info33 : (Try.prog.info? 33).map (fun i => (i.zero, i.size, i.bytes)) = some (some (.agg #[.int .i64 0, .int .u64 0, .slice none 0 0, .slice none 0 0]), 4, 64) := by kernel_rfl
theorem eql_nil25 (w : World) (a : Option Addr) (n c n' c' : Nat) : (binOp .eql 25 (.slice a n c) (.slice none n' c')).run Try.prog w = .ok (.bool a.isNone) w := Lib.run_eql_slice_nil w _ _ a n c n' c' Try.underlying25
theorem VR.cells_one {w : World} {S : Nat → Prop} {q : Quad} {v : TV} (h : VR w S q v) : ∀ u ∈ q.cells, u.oneCell' = true := by
  obtain ⟨tag, n, b, l, A2, A3, n2, c2, n3, c3, rfl, _⟩ := h.opens
  intro u hu
  simp [Quad.cells] at hu
  rcases hu with rfl | rfl | rfl | rfl <;> rfl
theorem flat_one {w : World} {S : Nat → Prop} {qs : List Quad} {l : List TV} (hq : qs.length = l.length) (hv : ∀ (i : Nat) (q : Quad) (v : TV), qs[i]? = some q → l[i]? = some v → VR w S q v) : ∀ u ∈ flat qs, u.oneCell' = true := by
  intro u hu
  simp only [flat, List.mem_flatMap] at hu
  obtain ⟨q, hq', hu⟩ := hu
  obtain ⟨i, hi, rfl⟩ := List.getElem_of_mem hq'
  exact (hv i _ l[i] (List.getElem?_eq_getElem hi) (List.getElem?_eq_getElem (by omega))).cells_one u hu
set_option maxHeartbeats 400000 in
theorem number_any (n : Int) (w : World) :
    Calls Try.prog 27 #[.int .u64 n] w fun e w' => e = .returned (.agg #[.int .i64 1, .int .u64 n, .slice none 0 0, .slice none 0 0]) ∧ Below w.heap.size w w' := by
  go_enter Try.func27, Try.ntmps27
  go_wp2
  refine bodyPost_ret (v := .agg #[.int .i64 1, .int .u64 n, .slice none 0 0, .slice none 0 0]) (by simp [results, Try.results27, go_sem]) rfl ⟨rfl, ?_⟩
  exact (Below.refl _ _).alloc (Nat.le_refl _) _
set_option maxRecDepth 10000 in
set_option maxHeartbeats 400000 in
theorem cloneV_any (w : World) (S : Nat → Prop) (A : Option Addr) (n c : Nat) (l : List TV) (hx : LR w S A n c l) :
    Calls Try.prog 90 #[.slice A n c] w fun e w' => ∃ A' c', e = .returned (.slice A' n c') ∧ LR w' (fun k => S k ∨ w.heap.size ≤ k) A' n c' l ∧ Below w.heap.size w w' := by
  have qT := eql_nil25
  obtain ⟨hl, hc, hf, qs, hq, hr, hv⟩ := hx
  obtain ⟨i0, hi0, hz0, hz1, hz2⟩ := info_parts Try.info27
  cases A with
  | none =>
    have h0 : n = 0 := by
      rcases Nat.eq_zero_or_pos n with h0 | h0
      · exact h0
      · obtain ⟨_, h', _⟩ := hr.2 h0; cases h'
    obtain rfl : n = 0 := h0
    obtain rfl : l = [] := List.eq_nil_of_length_eq_zero hl
    go_enter Try.func90, Try.ntmps90
    go_wp2
    go_ret
    exact ⟨_, _, rfl, LR.nil _ _ _, Below.refl _ _⟩
  | some ad =>
    have Hl := Lib.hid hl
    have Hq := Lib.hid hq
    have hb0 : Below w.heap.size w (w.alloc (.cells #[] 27)) := (Below.refl _ _).alloc (Nat.le_refl _) _
    have h1 := flat_one hq hv
    have r1 := hr.after (by omega) hb0
    clear hl hq
    go_enter Try.func90, Try.ntmps90
    go_wp2_with (at_builtin; refine wpList_append_any _ rfl (.tmp 5) (.tmp 6) 25 rfl w.heap.size 27 i0 _ 4 64 Try.underlying25 hi0 hz0 hz1 hz2 rfl (by omega) (.slice (some ⟨w.heap.size, 0, none⟩) 0 0) 0 [] rfl (World.ownsRow_made w #[] 0 (Nat.le_refl _) (by simp [maxLen]) rfl) S (some ad) n c (flat qs) rfl r1 h1 (by simp only [maxLen]; omega) (by omega) (by simp) ?_; intro v1 w1 hown hg hat)
    go_ret
    have hb1 : Below w.heap.size w w1 := hb0.grown hg (by simp) (by simp [Value.ownBlock])
    obtain ⟨A1, c1, rfl, hc1⟩ := own_shape hown
    simp only [Nat.zero_add, List.nil_append] at hown hc1 ⊢
    exact ⟨A1, c1, rfl, ⟨Hl.out, hc1, hf, qs, Hq.out, (Reads.of_own hown).mono (fun _ h => .inr h), fun i q v h2 h3 => ((hv i q v h2 h3).after hb1).keep (fun _ _ _ => rfl) (fun _ h _ => .inl h)⟩, hb1⟩
set_option maxRecDepth 10000 in
set_option maxHeartbeats 400000 in
theorem bytesV_any (w : World) (S : Nat → Prop) (A : Option Addr) (n c : Nat) (xs : List UInt8) (hx : Bs w S A n c xs) (hn : n ≤ 1000000000) :
    Calls Try.prog 28 #[.slice A n c] w fun e w' => ∃ q, e = .returned q.agg ∧ VR w' AnyB q (.mk 2 0 xs []) ∧ Below w.heap.size w w' := by
  have u0 : u64ok 0 := by simp [u64ok]
  go_enter Try.func28, Try.ntmps28
  go_wp2_with (go_at_call 88; refine (clone_any _ S _ _ _ _ (hx.after ((Below.refl _ _).alloc (Nat.le_refl _) _)) hn).mono ?_; rintro e w1 ⟨A1, c1, rfl, hown, hb⟩; simp only [World.size_alloc] at hb; obtain ⟨h0, h1, h2, h3, f0, f1, f2, f3, hz⟩ := box4 hb)
  refine bodyPost_ret (v := .agg #[.int .i64 2, .int .u64 0, .slice A1 n c1, .slice none 0 0]) (by simp [results, Try.results28, go_sem, h0, h1, h2, h3]) rfl ?_
  have hb1 : Below w.heap.size w w1 := ((Below.refl _ _).alloc (Nat.le_refl _) _).trans (hb.mono (by omega))
  obtain ⟨A', c', e, hbs⟩ := own_bs hown
  cases e
  exact ⟨⟨.int .i64 2, .int .u64 ((0 : Nat) : Int), .slice A1 n c1, .slice none 0 0⟩, rfl,
    VR.shut u0 (hbs.keep (S' := AnyB) (fun p hp _ => set4_other _ _ _ _ _ _ p (by simp only [World.size_alloc] at hp; omega)) (fun _ _ _ => trivial)) hn (LR.nil _ _ _), set4_below hb1 _ (Nat.le_refl _) _ _ _ _⟩
set_option maxRecDepth 10000 in
set_option maxHeartbeats 400000 in
theorem many_any (w : World) (S : Nat → Prop) (A : Option Addr) (n c : Nat) (l : List TV) (hx : LR w S A n c l) :
    Calls Try.prog 29 #[.slice A n c] w fun e w' => ∃ q, e = .returned q.agg ∧ VR w' AnyB q (.mk 3 0 [] l) ∧ Below w.heap.size w w' := by
  have hf := hx.few
  have u0 : u64ok 0 := by simp [u64ok]
  go_enter Try.func29, Try.ntmps29
  go_wp2_with (go_at_call 90; refine (cloneV_any _ (Lo w.heap.size) _ _ _ _ (hx.old.lower ((Below.refl _ _).alloc (Nat.le_refl _) _))).mono ?_; rintro e w1 ⟨A1, c1, rfl, hown, hb⟩; simp only [World.size_alloc] at hb; obtain ⟨h0, h1, h2, h3, f0, f1, f2, f3, hz⟩ := box4 hb)
  refine bodyPost_ret (v := .agg #[.int .i64 3, .int .u64 0, .slice none 0 0, .slice A1 n c1]) (by simp [results, Try.results29, go_sem, h0, h1, h2, h3]) rfl ?_
  have hb1 : Below w.heap.size w w1 := ((Below.refl _ _).alloc (Nat.le_refl _) _).trans (hb.mono (by omega))
  exact ⟨⟨.int .i64 3, .int .u64 ((0 : Nat) : Int), .slice none 0 0, .slice A1 n c1⟩, rfl,
    VR.shut u0 (Bs.nil _ _ _) (by omega) (hown.keep (S' := AnyB) (fun p hp _ => set4_other _ _ _ _ _ _ p (by simp only [World.size_alloc, Lo] at hp; omega)) (fun _ _ _ => trivial)), set4_below hb1 _ (Nat.le_refl _) _ _ _ _⟩
end Go.Proofs.Ytaebmhbggbpnoaa
