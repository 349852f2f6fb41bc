/- The walk of FrameScans. Conditions: each theorem's premises. -/
import Derived.Test.YtaebmhbggbpnoaaGFrS4
namespace Go.Proofs.Ytaebmhbggbpnoaa
open Go.RowKit
def kOf : FrR → Int | .bad _ => 0 | .good k _ _ _ => k
def nmOf : FrR → List UInt8 | .bad _ => noName | .good _ nm _ _ => nm
def bOf : FrR → List UInt8 | .bad _ => [] | .good _ _ b _ => b
def mOf : FrR → Int | .bad _ => 0 | .good _ _ _ m => m
def fOf : FrR → Int | .bad f => f | .good _ _ _ _ => 0
theorem FRes.all {W : World} {B : Nat} {R : FrR} {K : Int} {nm : List UInt8} {A : Option Addr} {n c : Nat} {m f : Int} (h : FRes W B R K nm (.slice A n c) m f) : K = kOf R ∧ nm = nmOf R ∧ m = mOf R ∧ f = fOf R ∧ n = (bOf R).length ∧ Bs W (fun j => B ≤ j) A n c (bOf R) := by
  cases R with
  | bad F =>
    obtain ⟨h1, h2, h3, h4, h5⟩ := h
    injection h3 with q1 q2 q3
    subst q1 q2 q3
    exact ⟨h1, h2, h4, h5, rfl, Bs.nil _ _ _⟩
  | good K' NM b M =>
    obtain ⟨A', c', h1, h2, h3, h4, h5, h6⟩ := h
    injection h3 with q1 q2 q3
    subst q1 q2 q3
    exact ⟨h1, h2, h4, h5, rfl, h6⟩
theorem frT_le {bs : List UInt8} {k m : Nat} {nm b : List UInt8} (h : frT bs = .good k nm b m) : b.length ≤ 5000 := by
  unfold frT at h
  cases hr : readT 8 bs with
  | none => rw [hr] at h; cases h
  | some p =>
    obtain ⟨v, rest⟩ := p
    rw [hr] at h
    simp only at h
    split at h
    · cases h
    · split at h
      · cases h
      · cases hv : recOf v with
        | none => rw [hv] at h; cases h
        | some q =>
          obtain ⟨k', nm', b'⟩ := q
          rw [hv] at h
          simp only at h
          injection h with h1 h2 h3 h4
          unfold recOf at hv
          by_cases hi : recIs v
          · rw [if_pos hi] at hv
            injection hv with hv
            injection hv with _ hv
            injection hv with _ hv
            rw [← h3, ← hv]
            exact hi.2.2.2
          · rw [if_neg hi] at hv; cases hv
theorem bOf_le (bs : List UInt8) : (bOf (frT bs)).length ≤ 5000 := by
  cases hR : frT bs with
  | bad f => simp [bOf]
  | good k nm b m => exact frT_le hR
theorem nmOf_len (bs : List UInt8) : (nmOf (frT bs)).length = 32 := by
  cases hR : frT bs with
  | bad f => exact noName_len
  | good k nm b m => exact frT_name hR
theorem goods_le : ∀ (fuel : Nat) (bs : List UInt8) (z : Nat), ∀ r ∈ goods (turnsF fuel bs z), r.bs.length ≤ 1000000000
  | 0, _, _, r, h => by simp [turnsF, goods] at h
  | fuel + 1, bs, z, r, h => by
    rw [turnsF] at h
    split at h
    · cases hR : frT (bs.drop z) with
      | bad f => rw [hR] at h; simp [goods] at h
      | good k nm b m =>
        rw [hR] at h
        simp only [goods, List.mem_cons] at h
        rcases h with h | h
        · subst h
          have := frT_le hR
          simp only
          omega
        · exact goods_le fuel bs (z + m) r h
    · simp [goods] at h
theorem goods_num (bs : List UInt8) : (goods (turnsF (bs.length + 1) bs 0)).length ≤ bs.length + 1 := by
  have h2 : ∀ l : List (Nat × FrR), (goods l).length ≤ l.length := fun l => by
    induction l with
    | nil => exact Nat.le_refl _
    | cons p l ih =>
      obtain ⟨z, R⟩ := p
      cases R with
      | bad f => simp [goods]
      | good k nm b m => simp [goods]; exact ih
  exact Nat.le_trans (h2 _) (turns_len _ _ _)
theorem FAtEnd.sliced {w w' : World} {g n : Nat} {d : Int} {R : FrR} {e : Ending} (h : FAtEnd w g d n R e w') : ∃ k nm A n' c m f, e = .returned (.tuple #[.agg (RC k nm (.slice A n' c)), .int .i64 f]) ∧ nm.length = 32 ∧ FRes w' w.heap.size R k nm (.slice A n' c) m f ∧ ∃ d', Tbl w' g d' ∧ w.grownBy w' (some g) := by
  obtain ⟨k, nm, b, m, f, he, hn, -, hr, d', h1, -, -, h2⟩ := h
  have hb : ∃ A n' c, b = .slice A n' c := by
    cases R with
    | bad F => exact ⟨_, _, _, hr.2.2.1⟩
    | good K NM bs M => obtain ⟨A, c, -, -, h, -⟩ := hr; exact ⟨_, _, _, h⟩
  obtain ⟨A, n', c, rfl⟩ := hb
  exact ⟨k, nm, A, n', c, m, f, he, hn, hr, d', h1, h2⟩
set_option maxRecDepth 100000 in
set_option maxHeartbeats 4000000 in
theorem frameScans_in (w : World) (S : Nat → Prop) (A : Option Addr) (n c : Nat) (bs : List UInt8) (hx : Bs w S A n c bs) (hn : n ≤ 3000) (z : Int) :
    Calls Try.prog 14 #[.slice A n c, .int .i64 z] w fun e w' => e = .returned (.bool true) ∧ Below w.heap.size w w' := by
  have HX := Lib.hid hx.old
  have HLEN := Lib.hid hx.len
  clear hx
  have t1 : ¬ (3000 : Int) < (n : Int) := by omega
  go_enter Try.func14, Try.ntmps14
  go_wp2_with fail
  refine (new_any _).mono ?_
  rintro e w1 ⟨rfl, hT, hb⟩
  obtain ⟨g, hg⟩ : ∃ g, g = w.heap.size := ⟨_, rfl⟩
  rw [← hg] at hT
  have HN1 := Lib.hid (On.mk (d := 0) hb (.inr ⟨_, hT⟩) (Nat.le_of_eq hg.symm))
  rw [← hg]
  clear hT hb hg
  have hHX : ∀ {W d}, On w W g d → Bs W (Lo w.heap.size) A n c bs := fun h => h.rd HX.out
  go_wp2_with fail
  refine (ftake_any w1 g 0 _ A n c bs HN1.out.tab (by omega) (hHX HN1.out) HN1.out.apart (by omega)).mono ?_
  intro e w2 he
  obtain ⟨K1, nm1, A1, n1, c1, m1, f1, rfl, hnm1, hr1, d2, ht2, hd2, hd2', hG2⟩ := he.sliced
  have hfn := frN_le (bs := bs) HLEN.out
  have HN2 := Lib.hid (HN1.out.step ht2 hG2)
  have HS12 : Hid (w1.heap.size ≤ w2.heap.size) := Lib.hid hG2.size
  have hgw1 := HN1.out.lt
  obtain ⟨rfl, rfl, rfl, rfl, rfl, hb1⟩ := hr1.all
  have HB1 := Lib.hid hb1
  clear he hr1 ht2 hG2 hb1
  go_wp2_with (first | (with_reducible show wpList Try.prog _ _ ({ dst := none, op := Op.store 109 (Operand.tmp 6) (Operand.tmp 30), type := _, pos := _, after := _, guard := none } :: _) _ _; refine wl_storeK rfl (.tmp 6) (.tmp 30) 109 rfl (.inl rfl) rfl rfl (Blk.new _ _ _) rfl hnm1 rfl ?_; intro w3 hb3 hf3 hk3))
  have h23 : Below w2.heap.size w2 w3 := ((Below.refl _ w2).alloc (Nat.le_refl _) _).trans (hf3 _ (Nat.le_refl _))
  have HN3 := Lib.hid (HN2.out.below h23)
  have HS23 : Hid (w2.heap.size ≤ w3.heap.size) := Lib.hid h23.size
  have HR3 := Lib.hid (And.intro hb3 (HB1.out.after h23))
  clear hb3 hf3 hk3 h23
  refine (frtake_any w3 _ A n c bs (hHX HN3.out) (by omega)).mono ?_
  intro e w4 he
  obtain ⟨K2, nm2, A2, n2, c2, m2, f2, rfl, hnm2, hr2, hb4⟩ := he.sliced
  obtain ⟨rfl, rfl, rfl, rfl, rfl, hb2⟩ := hr2.all
  have HN4 := Lib.hid (HN3.out.below hb4)
  have HS34 : Hid (w3.heap.size ≤ w4.heap.size) := Lib.hid hb4.size
  have HR4 := Lib.hid (And.intro (HR3.out.1.after hb4) (HR3.out.2.after hb4))
  have HB2 := Lib.hid hb2
  clear he hr2 hb4 hb2
  go_wp2_with (first | (with_reducible show wpList Try.prog _ _ ({ dst := none, op := Op.store 112 (Operand.tmp 9) (Operand.tmp 36), type := _, pos := _, after := _, guard := none } :: _) _ _; refine wl_storeK rfl (.tmp 9) (.tmp 36) 112 rfl (.inr rfl) rfl rfl (Blk.new _ _ _) rfl hnm2 rfl ?_; intro w5 hb5 hf5 hk5))
  have h45 : Below w4.heap.size w4 w5 := ((Below.refl _ w4).alloc (Nat.le_refl _) _).trans (hf5 _ (Nat.le_refl _))
  have HS24 : Hid (w2.heap.size ≤ w3.heap.size ∧ w3.heap.size ≤ w4.heap.size ∧ g < w3.heap.size) := Lib.hid ⟨HS23.out, HS34.out, HN3.out.lt⟩
  have HN5 := Lib.hid (HN4.out.below h45)
  have HR5 := Lib.hid (And.intro (HR4.out.1.after h45) (And.intro (HR4.out.2.after h45) (And.intro hb5 (HB2.out.after h45))))
  clear hb5 hf5 hk5 h45
  have hl2 := HN2.out.lt
  have hw12 : w1.heap.size ≤ w2.heap.size := HS12.out
  refine (fscan_any w5 g d2 _ A n c bs HN5.out.tab ⟨by omega, by omega⟩ (hHX HN5.out) HN5.out.apart (by omega)).mono ?_
  rintro e w6 ⟨A6, c6, rfl, hp6, hG6, d6, ht6, hd6, hd6'⟩
  obtain ⟨T, hTT⟩ : ∃ T, T = turnsF (bs.length + 1) bs 0 := ⟨_, rfl⟩
  have HTT := Lib.hid hTT
  obtain ⟨N, hNN⟩ : ∃ N, N = (goods T).length := ⟨_, rfl⟩
  have hN : N ≤ 3001 := by rw [hNN, hTT]; have h1 := goods_num bs; have h2 := HLEN.out; omega
  have HNN := Lib.hid hNN
  rw [← hTT, ← hNN] at hp6 ⊢
  have HN6 := Lib.hid (HN5.out.step ht6 hG6)
  have HR6 := Lib.hid (And.intro (HR5.out.1.grown hG6 (fun e => by injection e with e; omega)) (And.intro (HR5.out.2.1.keep (S' := AnyB) (fun p hp hlt => World.cell?_of_block (hG6.block p.block hlt (fun e => by injection e with e; have hp' : w1.heap.size ≤ p.block := hp; omega))) (fun _ _ _ => trivial)) (And.intro (HR5.out.2.2.1.grown hG6 (fun e => by injection e with e; have := HS24.out; omega)) (HR5.out.2.2.2.keep (S' := AnyB) (fun p hp hlt => World.cell?_of_block (hG6.block p.block hlt (fun e => by injection e with e; have hp' : w3.heap.size ≤ p.block := hp; have := HS24.out; omega))) (fun _ _ _ => trivial)))))
  have HP6 := Lib.hid hp6
  clear ht6 hG6 hp6 hTT hNN
  go_wp2_with fail
  refine (rscan_any w6 _ A n c bs (hHX HN6.out) (by omega)).mono ?_
  rintro e w7 ⟨A7, c7, rfl, hp7, hb7⟩
  rw [← HTT.out, ← HNN.out] at hp7 ⊢
  have HN7 := Lib.hid (HN6.out.below hb7)
  have HR7 := Lib.hid (And.intro (HR6.out.1.after hb7) (And.intro (HR6.out.2.1.after hb7) (And.intro (HR6.out.2.2.1.after hb7) (HR6.out.2.2.2.after hb7))))
  have HP7 := Lib.hid (And.intro (HP6.out.after hb7) hp7)
  clear hb7 hp7
  go_wp2_with fail
  have HY : Hid (∀ w', Hid (Below w7.heap.size w7 w') → Blk w' w2.heap.size 109 (RC (kOf (frT bs)) (nmOf (frT bs)) (.slice A1 (bOf (frT bs)).length c1)) ∧ Bs w' AnyB A1 (bOf (frT bs)).length c1 (bOf (frT bs)) ∧ Blk w' w4.heap.size 112 (RC (kOf (frT bs)) (nmOf (frT bs)) (.slice A2 (bOf (frT bs)).length c2)) ∧ Bs w' AnyB A2 (bOf (frT bs)).length c2 (bOf (frT bs))) := Lib.hid fun w' h => ⟨HR7.out.1.after h.out, HR7.out.2.1.after h.out, HR7.out.2.2.1.after h.out, HR7.out.2.2.2.after h.out⟩
  have HGL : Hid (∀ r ∈ goods T, r.bs.length ≤ 1000000000) := Lib.hid (by rw [HTT.out]; exact goods_le _ _ _)
  have hbl := bOf_le bs
  refine wp_region_held_drew (S := fun w' => Hid (Below w7.heap.size w7 w')) (by kernel_rfl) (Lib.hid ((Below.refl _ _).drew)) (fun hHeld => ?_)
  refine wpAnyH_take (i := 0) (oi := { dst := some 52, op := Op.load 109 (Operand.tmp 6), type := 109, pos := "law.go:71", after := #[], guard := none }) (v := _) rfl (by kernel_rfl) (by kernel_rfl) (by kernel_rfl) (fun _ _ _ h => h) (yields_rec rfl (.inl rfl) rfl rfl hnm1 (fun _ h => (HY.out _ h).1)) hHeld ?_
  try simp only [Act.put, List.setIfInBounds_toArray, List.set_cons_zero, List.set_cons_succ]
  refine wpAnyH_take (i := 2) (oi := { dst := some 54, op := Op.load 112 (Operand.tmp 9), type := 112, pos := "law.go:71", after := #[], guard := none }) (v := _) rfl (by kernel_rfl) (by kernel_rfl) (by kernel_rfl) (fun _ _ _ h => h) (yields_rec rfl (.inr rfl) rfl rfl hnm1 (fun _ h => (HY.out _ h).2.2.1)) hHeld ?_
  try simp only [Act.put, List.setIfInBounds_toArray, List.set_cons_zero, List.set_cons_succ]
  refine wpAnyH_ready (rs := [1]) (by kernel_rfl) (by simp) ?_
  refine AllReadyH.cons (o := { dst := some 53, op := Op.call { callee := Callee.value (Operand.func 71), args := #[Operand.tmp 52], argTypes := #[109] }, type := 112, pos := "law.go:71", after := #[{ on := 0, ground := Ground.data }], guard := none }) rfl (fun K hK => ?_) AllReadyH.nil
  go_simp
  refine (fback_any _ _ _ A1 _ c1 hnm1).mono ?_; rintro e w1 ⟨rfl, hb1⟩
  refine hK.out _ _ (held_next hHeld hb1) (fun hHeld => ?_)
  clear hK K
  try simp only [Act.put, List.setIfInBounds_toArray, List.set_cons_zero, List.set_cons_succ]
  refine wpAnyH_ready (rs := [3]) (by kernel_rfl) (by simp) ?_
  refine AllReadyH.cons (o := { dst := some 55, op := Op.call { callee := Callee.value (Operand.func 70), args := #[Operand.tmp 53, Operand.tmp 54], argTypes := #[112, 112] }, type := 4, pos := "law.go:71", after := #[{ on := 1, ground := Ground.data }, { on := 2, ground := Ground.data }, { on := 1, ground := Ground.chain }], guard := none }) rfl (fun K hK => ?_) AllReadyH.nil
  go_simp
  refine (frsame_any _ AnyB AnyB _ _ _ _ A1 A2 _ c1 _ c2 _ _ hnm1 hnm1 (HY.out _ hHeld).2.1 (HY.out _ hHeld).2.2.2 (by omega) (by omega)).mono ?_; rintro e w3 ⟨rfl, hb3⟩; rw [decide_eq_true (show (kOf (frT bs) = kOf (frT bs) ∧ nmOf (frT bs) = nmOf (frT bs) ∧ bOf (frT bs) = bOf (frT bs)) from ⟨rfl, rfl, rfl⟩)]
  refine hK.out _ _ (held_next hHeld hb3) (fun hHeld => ?_)
  clear hK K
  try simp only [Act.put, List.setIfInBounds_toArray, List.set_cons_zero, List.set_cons_succ]
  refine wpAnyH_take (i := 4) (oi := { dst := some 56, op := Op.unOp UnOp.not 4 (Operand.tmp 55), type := 4, pos := "law.go:71", after := #[{ on := 3, ground := Ground.data }], guard := none }) (v := ?v4) rfl (by kernel_rfl) (by kernel_rfl) (by kernel_rfl) (fun _ _ _ h => h) (Or.inl ⟨by rfl, ?hy4⟩) hHeld ?rest4
  case hy4 => (intro w hSw; go_simp; try with_reducible rfl)
  try simp only [Act.put, List.setIfInBounds_toArray, List.set_cons_zero, List.set_cons_succ]
  refine wpAnyH_take (i := 5) (oi := { dst := some 57, op := Op.move (Operand.tmp 56), type := 4, pos := "law.go:71", after := #[{ on := 4, ground := Ground.data }, { on := 3, ground := Ground.chain }], guard := none }) (v := ?v5) rfl (by kernel_rfl) (by kernel_rfl) (by kernel_rfl) (fun _ _ _ h => h) (Or.inl ⟨by rfl, ?hy5⟩) hHeld ?rest5
  case hy5 => (intro w hSw; go_simp; try with_reducible rfl)
  try simp only [Act.put, List.setIfInBounds_toArray, List.set_cons_zero, List.set_cons_succ]
  refine wpAnyH_take (i := 6) (oi := { dst := some 58, op := Op.move (Operand.tmp 7), type := 3, pos := "law.go:71", after := #[{ on := 5, ground := Ground.guard }], guard := some (5, false) }) (v := ?v6) rfl (by kernel_rfl) (by kernel_rfl) (by kernel_rfl) (fun _ _ _ h => h) (Or.inl ⟨by rfl, ?hy6⟩) hHeld ?rest6
  case hy6 => (intro w hSw; go_simp; try with_reducible rfl)
  try simp only [Act.put, List.setIfInBounds_toArray, List.set_cons_zero, List.set_cons_succ]
  refine wpAnyH_take (i := 7) (oi := { dst := some 59, op := Op.move (Operand.tmp 10), type := 3, pos := "law.go:71", after := #[{ on := 5, ground := Ground.guard }], guard := some (5, false) }) (v := ?v7) rfl (by kernel_rfl) (by kernel_rfl) (by kernel_rfl) (fun _ _ _ h => h) (Or.inl ⟨by rfl, ?hy7⟩) hHeld ?rest7
  case hy7 => (intro w hSw; go_simp; try with_reducible rfl)
  try simp only [Act.put, List.setIfInBounds_toArray, List.set_cons_zero, List.set_cons_succ]
  refine wpAnyH_take (i := 8) (oi := { dst := some 60, op := Op.binOp BinOp.neq 3 (Operand.tmp 58) (Operand.tmp 59) 3, type := 4, pos := "law.go:71", after := #[{ on := 6, ground := Ground.data }, { on := 7, ground := Ground.data }, { on := 5, ground := Ground.guard }], guard := some (5, false) }) (v := ?v8) rfl (by kernel_rfl) (by kernel_rfl) (by kernel_rfl) (fun _ _ _ h => h) (Or.inl ⟨by rfl, ?hy8⟩) hHeld ?rest8
  case hy8 => (intro w hSw; go_simp; try with_reducible rfl)
  try simp only [Act.put, List.setIfInBounds_toArray, List.set_cons_zero, List.set_cons_succ]
  refine wpAnyH_take (i := 9) (oi := { dst := some 61, op := Op.pick (Operand.tmp 57) (Operand.const (Value.bool true)) (Operand.tmp 60), type := 4, pos := "law.go:71", after := #[{ on := 5, ground := Ground.data }, { on := 8, ground := Ground.data }], guard := none }) (v := ?v9) rfl (by kernel_rfl) (by kernel_rfl) (by kernel_rfl) (fun _ _ _ h => h) (Or.inl ⟨by rfl, ?hy9⟩) hHeld ?rest9
  case hy9 => (intro w hSw; go_simp; try with_reducible rfl)
  try simp only [Act.put, List.setIfInBounds_toArray, List.set_cons_zero, List.set_cons_succ]
  refine wpAnyH_take (i := 10) (oi := { dst := some 62, op := Op.move (Operand.tmp 61), type := 4, pos := "law.go:71", after := #[{ on := 9, ground := Ground.data }, { on := 5, ground := Ground.chain }], guard := none }) (v := ?v10) rfl (by kernel_rfl) (by kernel_rfl) (by kernel_rfl) (fun _ _ _ h => h) (Or.inl ⟨by rfl, ?hy10⟩) hHeld ?rest10
  case hy10 => (intro w hSw; go_simp; try with_reducible rfl)
  try simp only [Act.put, List.setIfInBounds_toArray, List.set_cons_zero, List.set_cons_succ]
  refine wpAnyH_take (i := 11) (oi := { dst := some 63, op := Op.move (Operand.tmp 8), type := 28, pos := "law.go:71", after := #[{ on := 10, ground := Ground.guard }], guard := some (10, false) }) (v := ?v11) rfl (by kernel_rfl) (by kernel_rfl) (by kernel_rfl) (fun _ _ _ h => h) (Or.inl ⟨by rfl, ?hy11⟩) hHeld ?rest11
  case hy11 => (intro w hSw; go_simp; try with_reducible rfl)
  try simp only [Act.put, List.setIfInBounds_toArray, List.set_cons_zero, List.set_cons_succ]
  refine wpAnyH_take (i := 12) (oi := { dst := some 64, op := Op.move (Operand.tmp 11), type := 28, pos := "law.go:71", after := #[{ on := 10, ground := Ground.guard }], guard := some (10, false) }) (v := ?v12) rfl (by kernel_rfl) (by kernel_rfl) (by kernel_rfl) (fun _ _ _ h => h) (Or.inl ⟨by rfl, ?hy12⟩) hHeld ?rest12
  case hy12 => (intro w hSw; go_simp; try with_reducible rfl)
  try simp only [Act.put, List.setIfInBounds_toArray, List.set_cons_zero, List.set_cons_succ]
  refine wpAnyH_take (i := 13) (oi := { dst := some 65, op := Op.binOp BinOp.neq 28 (Operand.tmp 63) (Operand.tmp 64) 28, type := 4, pos := "law.go:71", after := #[{ on := 11, ground := Ground.data }, { on := 12, ground := Ground.data }, { on := 10, ground := Ground.guard }], guard := some (10, false) }) (v := ?v13) rfl (by kernel_rfl) (by kernel_rfl) (by kernel_rfl) (fun _ _ _ h => h) (Or.inl ⟨by rfl, ?hy13⟩) hHeld ?rest13
  case hy13 => (intro w hSw; go_simp; try with_reducible rfl)
  try simp only [Act.put, List.setIfInBounds_toArray, List.set_cons_zero, List.set_cons_succ]
  refine wpAnyH_take (i := 14) (oi := { dst := some 66, op := Op.pick (Operand.tmp 62) (Operand.const (Value.bool true)) (Operand.tmp 65), type := 4, pos := "law.go:71", after := #[{ on := 10, ground := Ground.data }, { on := 13, ground := Ground.data }], guard := none }) (v := ?v14) rfl (by kernel_rfl) (by kernel_rfl) (by kernel_rfl) (fun _ _ _ h => h) (Or.inl ⟨by rfl, ?hy14⟩) hHeld ?rest14
  case hy14 => (intro w hSw; go_simp; try with_reducible rfl)
  try simp only [Act.put, List.setIfInBounds_toArray, List.set_cons_zero, List.set_cons_succ]
  refine wpAnyH_take (i := 15) (oi := { dst := some 67, op := Op.move (Operand.tmp 66), type := 4, pos := "law.go:71", after := #[{ on := 14, ground := Ground.data }, { on := 10, ground := Ground.chain }], guard := none }) (v := ?v15) rfl (by kernel_rfl) (by kernel_rfl) (by kernel_rfl) (fun _ _ _ h => h) (Or.inl ⟨by rfl, ?hy15⟩) hHeld ?rest15
  case hy15 => (intro w hSw; go_simp; try with_reducible rfl)
  try simp only [Act.put, List.setIfInBounds_toArray, List.set_cons_zero, List.set_cons_succ]
  refine wpAnyH_take (i := 16) (oi := { dst := some 68, op := Op.move (Operand.tmp 12), type := 115, pos := "law.go:71", after := #[{ on := 15, ground := Ground.guard }], guard := some (15, false) }) (v := ?v16) rfl (by kernel_rfl) (by kernel_rfl) (by kernel_rfl) (fun _ _ _ h => h) (Or.inl ⟨by rfl, ?hy16⟩) hHeld ?rest16
  case hy16 => (intro w hSw; go_simp; try with_reducible rfl)
  try simp only [Act.put, List.setIfInBounds_toArray, List.set_cons_zero, List.set_cons_succ]
  refine wpAnyH_take (i := 18) (oi := { dst := some 70, op := Op.move (Operand.tmp 15), type := 118, pos := "law.go:71", after := #[{ on := 15, ground := Ground.guard }], guard := some (15, false) }) (v := ?v18) rfl (by kernel_rfl) (by kernel_rfl) (by kernel_rfl) (fun _ _ _ h => h) (Or.inl ⟨by rfl, ?hy18⟩) hHeld ?rest18
  case hy18 => (intro w hSw; go_simp; try with_reducible rfl)
  try simp only [Act.put, List.setIfInBounds_toArray, List.set_cons_zero, List.set_cons_succ]
  refine wpAnyH_ready (rs := [17]) (by kernel_rfl) (by simp) ?_
  refine AllReadyH.cons (o := { dst := some 69, op := Op.call { callee := Callee.value (Operand.func 73), args := #[Operand.tmp 68], argTypes := #[115] }, type := 118, pos := "law.go:71", after := #[{ on := 16, ground := Ground.data }, { on := 15, ground := Ground.chain }, { on := 15, ground := Ground.guard }], guard := some (15, false) }) rfl (fun K hK => ?_) AllReadyH.nil
  go_simp
  refine (fplaced_any _ _ A6 N c6 _ (HP7.out.1.after hHeld.out) (by omega)).mono ?_; rintro e w17 ⟨A9, c9, rfl, hpq17, hb17⟩
  refine hK.out _ _ (held_next hHeld hb17) (fun hHeld => ?_)
  clear hK K
  try simp only [Act.put, List.setIfInBounds_toArray, List.set_cons_zero, List.set_cons_succ]
  refine wpAnyH_ready (rs := [19]) (by kernel_rfl) (by simp) ?_
  refine AllReadyH.cons (o := { dst := some 71, op := Op.call { callee := Callee.value (Operand.func 72), args := #[Operand.tmp 69, Operand.tmp 70], argTypes := #[118, 118] }, type := 4, pos := "law.go:71", after := #[{ on := 17, ground := Ground.data }, { on := 18, ground := Ground.data }, { on := 17, ground := Ground.chain }, { on := 15, ground := Ground.guard }], guard := some (15, false) }) rfl (fun K hK => ?_) AllReadyH.nil
  go_simp
  refine (fall_eq _ AnyB _ A9 A7 N c9 c7 _ hpq17 (HP7.out.2.after hHeld.out) (by omega) HGL.out).mono ?_; rintro e w19 ⟨rfl, hb19⟩
  refine hK.out _ _ (held_next hHeld hb19) (fun hHeld => ?_)
  clear hK K
  try simp only [Act.put, List.setIfInBounds_toArray, List.set_cons_zero, List.set_cons_succ]
  refine wpAnyH_take (i := 20) (oi := { dst := some 72, op := Op.unOp UnOp.not 4 (Operand.tmp 71), type := 4, pos := "law.go:71", after := #[{ on := 19, ground := Ground.data }, { on := 15, ground := Ground.guard }], guard := some (15, false) }) (v := ?v20) rfl (by kernel_rfl) (by kernel_rfl) (by kernel_rfl) (fun _ _ _ h => h) (Or.inl ⟨by rfl, ?hy20⟩) hHeld ?rest20
  case hy20 => (intro w hSw; go_simp; try with_reducible rfl)
  try simp only [Act.put, List.setIfInBounds_toArray, List.set_cons_zero, List.set_cons_succ]
  refine wpAnyH_take (i := 21) (oi := { dst := some 73, op := Op.pick (Operand.tmp 67) (Operand.const (Value.bool true)) (Operand.tmp 72), type := 4, pos := "law.go:71", after := #[{ on := 15, ground := Ground.data }, { on := 20, ground := Ground.data }], guard := none }) (v := ?v21) rfl (by kernel_rfl) (by kernel_rfl) (by kernel_rfl) (fun _ _ _ h => h) (Or.inl ⟨by rfl, ?hy21⟩) hHeld ?rest21
  case hy21 => (intro w hSw; go_simp; try with_reducible rfl)
  try simp only [Act.put, List.setIfInBounds_toArray, List.set_cons_zero, List.set_cons_succ]
  refine wpAnyH_take (i := 22) (oi := { dst := some 74, op := Op.move (Operand.tmp 73), type := 4, pos := "law.go:71", after := #[{ on := 21, ground := Ground.data }, { on := 19, ground := Ground.chain }], guard := none }) (v := ?v22) rfl (by kernel_rfl) (by kernel_rfl) (by kernel_rfl) (fun _ _ _ h => h) (Or.inl ⟨by rfl, ?hy22⟩) hHeld ?rest22
  case hy22 => (intro w hSw; go_simp; try with_reducible rfl)
  try simp only [Act.put, List.setIfInBounds_toArray, List.set_cons_zero, List.set_cons_succ]
  refine wpAnyH_take (i := 23) (oi := { dst := some 75, op := Op.move (Operand.tmp 13), type := 3, pos := "law.go:71", after := #[{ on := 22, ground := Ground.guard }], guard := some (22, false) }) (v := ?v23) rfl (by kernel_rfl) (by kernel_rfl) (by kernel_rfl) (fun _ _ _ h => h) (Or.inl ⟨by rfl, ?hy23⟩) hHeld ?rest23
  case hy23 => (intro w hSw; go_simp; try with_reducible rfl)
  try simp only [Act.put, List.setIfInBounds_toArray, List.set_cons_zero, List.set_cons_succ]
  refine wpAnyH_take (i := 24) (oi := { dst := some 76, op := Op.move (Operand.tmp 16), type := 3, pos := "law.go:71", after := #[{ on := 22, ground := Ground.guard }], guard := some (22, false) }) (v := ?v24) rfl (by kernel_rfl) (by kernel_rfl) (by kernel_rfl) (fun _ _ _ h => h) (Or.inl ⟨by rfl, ?hy24⟩) hHeld ?rest24
  case hy24 => (intro w hSw; go_simp; try with_reducible rfl)
  try simp only [Act.put, List.setIfInBounds_toArray, List.set_cons_zero, List.set_cons_succ]
  refine wpAnyH_take (i := 25) (oi := { dst := some 77, op := Op.binOp BinOp.neq 3 (Operand.tmp 75) (Operand.tmp 76) 3, type := 4, pos := "law.go:71", after := #[{ on := 23, ground := Ground.data }, { on := 24, ground := Ground.data }, { on := 22, ground := Ground.guard }], guard := some (22, false) }) (v := ?v25) rfl (by kernel_rfl) (by kernel_rfl) (by kernel_rfl) (fun _ _ _ h => h) (Or.inl ⟨by rfl, ?hy25⟩) hHeld ?rest25
  case hy25 => (intro w hSw; go_simp; try with_reducible rfl)
  try simp only [Act.put, List.setIfInBounds_toArray, List.set_cons_zero, List.set_cons_succ]
  refine wpAnyH_take (i := 26) (oi := { dst := some 78, op := Op.pick (Operand.tmp 74) (Operand.const (Value.bool true)) (Operand.tmp 77), type := 4, pos := "law.go:71", after := #[{ on := 22, ground := Ground.data }, { on := 25, ground := Ground.data }], guard := none }) (v := ?v26) rfl (by kernel_rfl) (by kernel_rfl) (by kernel_rfl) (fun _ _ _ h => h) (Or.inl ⟨by rfl, ?hy26⟩) hHeld ?rest26
  case hy26 => (intro w hSw; go_simp; try with_reducible rfl)
  try simp only [Act.put, List.setIfInBounds_toArray, List.set_cons_zero, List.set_cons_succ]
  refine wpAnyH_take (i := 27) (oi := { dst := some 79, op := Op.move (Operand.tmp 78), type := 4, pos := "law.go:71", after := #[{ on := 26, ground := Ground.data }, { on := 22, ground := Ground.chain }], guard := none }) (v := ?v27) rfl (by kernel_rfl) (by kernel_rfl) (by kernel_rfl) (fun _ _ _ h => h) (Or.inl ⟨by rfl, ?hy27⟩) hHeld ?rest27
  case hy27 => (intro w hSw; go_simp; try with_reducible rfl)
  try simp only [Act.put, List.setIfInBounds_toArray, List.set_cons_zero, List.set_cons_succ]
  refine wpAnyH_take (i := 28) (oi := { dst := some 80, op := Op.move (Operand.tmp 14), type := 28, pos := "law.go:71", after := #[{ on := 27, ground := Ground.guard }], guard := some (27, false) }) (v := ?v28) rfl (by kernel_rfl) (by kernel_rfl) (by kernel_rfl) (fun _ _ _ h => h) (Or.inl ⟨by rfl, ?hy28⟩) hHeld ?rest28
  case hy28 => (intro w hSw; go_simp; try with_reducible rfl)
  try simp only [Act.put, List.setIfInBounds_toArray, List.set_cons_zero, List.set_cons_succ]
  refine wpAnyH_take (i := 29) (oi := { dst := some 81, op := Op.move (Operand.tmp 17), type := 28, pos := "law.go:71", after := #[{ on := 27, ground := Ground.guard }], guard := some (27, false) }) (v := ?v29) rfl (by kernel_rfl) (by kernel_rfl) (by kernel_rfl) (fun _ _ _ h => h) (Or.inl ⟨by rfl, ?hy29⟩) hHeld ?rest29
  case hy29 => (intro w hSw; go_simp; try with_reducible rfl)
  try simp only [Act.put, List.setIfInBounds_toArray, List.set_cons_zero, List.set_cons_succ]
  refine wpAnyH_take (i := 30) (oi := { dst := some 82, op := Op.binOp BinOp.neq 28 (Operand.tmp 80) (Operand.tmp 81) 28, type := 4, pos := "law.go:71", after := #[{ on := 28, ground := Ground.data }, { on := 29, ground := Ground.data }, { on := 27, ground := Ground.guard }], guard := some (27, false) }) (v := ?v30) rfl (by kernel_rfl) (by kernel_rfl) (by kernel_rfl) (fun _ _ _ h => h) (Or.inl ⟨by rfl, ?hy30⟩) hHeld ?rest30
  case hy30 => (intro w hSw; go_simp; try with_reducible rfl)
  try simp only [Act.put, List.setIfInBounds_toArray, List.set_cons_zero, List.set_cons_succ]
  refine wpAnyH_take (i := 31) (oi := { dst := some 83, op := Op.pick (Operand.tmp 79) (Operand.const (Value.bool true)) (Operand.tmp 82), type := 4, pos := "law.go:71", after := #[{ on := 27, ground := Ground.data }, { on := 30, ground := Ground.data }], guard := none }) (v := ?v31) rfl (by kernel_rfl) (by kernel_rfl) (by kernel_rfl) (fun _ _ _ h => h) (Or.inl ⟨by rfl, ?hy31⟩) hHeld ?rest31
  case hy31 => (intro w hSw; go_simp; try with_reducible rfl)
  try simp only [Act.put, List.setIfInBounds_toArray, List.set_cons_zero, List.set_cons_succ]
  refine wpAnyH_done (by kernel_rfl) ?_ _
  obtain ⟨w8, hw8⟩ : ∃ w8, w8 = w19 := ⟨_, rfl⟩
  have HN8 := Lib.hid (HN7.out.below hHeld.out)
  subst hw8
  clear hHeld HY HGL HR7 HP7 HR6 HR5 HR4 HR3 HP6 HN7 HN6 HN5 HN4 HN3 HN2 hb1 hb3 hb17 hb19 hpq17
  by_cases hz : z < 0 ∨ (n : Int) ≤ z
  · by_cases q1 : z < 0
    · have q0 : z < 0 := q1
      go_wp2_with fail
      refine (fat_out w8 ⟨g, 0, none⟩ A n c z hz).mono ?_
      rintro e w9 ⟨rfl, hb9⟩
      have HN9 := Lib.hid (HN8.out.below hb9)
      clear hb9
      go_wp2_with (first | (with_reducible show wpList Try.prog _ _ ({ dst := none, op := Op.store 109 (Operand.tmp 18) (Operand.tmp 89), type := _, pos := _, after := _, guard := none } :: _) _ _; refine wl_storeK rfl (.tmp 18) (.tmp 89) 109 rfl (.inl rfl) rfl rfl (Blk.new _ _ _) rfl noName_len rfl ?_; intro w10 hb10 hf10 hk10; go_must ((have HN10 := Lib.hid (HN9.out.below (((Below.refl _ w9).alloc (Nat.le_refl _) _).trans (hf10 _ (Nat.le_refl _)))))); clear hb10 hf10 hk10))
      refine (falive_any _).mono ?_
      rintro e w11 ⟨rfl, hb11⟩
      have HF := Lib.hid (HN10.out.below hb11).bel
      clear hb11
      go_wp2_with fail
      go_ret
      exact ⟨rfl, HF.out⟩
    · have q2 : (n : Int) ≤ z := by omega
      go_wp2_with fail
      refine (fat_out w8 ⟨g, 0, none⟩ A n c z hz).mono ?_
      rintro e w9 ⟨rfl, hb9⟩
      have HN9 := Lib.hid (HN8.out.below hb9)
      clear hb9
      go_wp2_with (first | (with_reducible show wpList Try.prog _ _ ({ dst := none, op := Op.store 109 (Operand.tmp 18) (Operand.tmp 89), type := _, pos := _, after := _, guard := none } :: _) _ _; refine wl_storeK rfl (.tmp 18) (.tmp 89) 109 rfl (.inl rfl) rfl rfl (Blk.new _ _ _) rfl noName_len rfl ?_; intro w10 hb10 hf10 hk10; go_must ((have HN10 := Lib.hid (HN9.out.below (((Below.refl _ w9).alloc (Nat.le_refl _) _).trans (hf10 _ (Nat.le_refl _)))))); clear hb10 hf10 hk10))
      refine (falive_any _).mono ?_
      rintro e w11 ⟨rfl, hb11⟩
      have HF := Lib.hid (HN10.out.below hb11).bel
      clear hb11
      go_wp2_with fail
      go_ret
      exact ⟨rfl, HF.out⟩
  · obtain ⟨z, rfl⟩ := Int.eq_ofNat_of_zero_le (by omega : 0 ≤ z)
    have q1 : ¬ ((z : Int) < 0) := by omega
    have q2 : ¬ ((n : Int) ≤ (z : Int)) := by omega
    have q3 : (z : Int) < (n : Int) := by omega
    have hzn : z < n := by omega
    clear hz
    obtain ⟨A8, c8, hcut, hx8⟩ := HX.out.from_ (z : Int) z (n - z) rfl (by omega)
    have HX8 := Lib.hid hx8
    clear hx8
    have hbz := bOf_le (bs.drop z)
    go_wp2_with fail
    refine (fat_any w8 g _ _ A n c z bs HN8.out.tab ⟨by omega, by omega⟩ (hHX HN8.out) HN8.out.apart (by omega) hzn).mono ?_
    intro e w9 he
    obtain ⟨K3, nm3, A3, n3, c3, m3, f3, rfl, hnm3, hr3, d9, ht9, hG9⟩ := he.sliced
    have HN9 := Lib.hid (HN8.out.step ht9 hG9)
    obtain ⟨rfl, rfl, rfl, rfl, rfl, hb3⟩ := hr3.all
    have HB3 := Lib.hid hb3
    clear he hr3 ht9 hG9 hb3
    go_wp2_with (first | (with_reducible show wpList Try.prog _ _ ({ dst := none, op := Op.store 109 (Operand.tmp 18) (Operand.tmp 89), type := _, pos := _, after := _, guard := none } :: _) _ _; refine wl_storeK rfl (.tmp 18) (.tmp 89) 109 rfl (.inl rfl) rfl rfl (Blk.new _ _ _) rfl hnm3 rfl ?_; intro w10 hb10 hf10 hk10; go_must ((have h910 : Below w9.heap.size w9 w10 := ((Below.refl _ w9).alloc (Nat.le_refl _) _).trans (hf10 _ (Nat.le_refl _)); have HN10 := Lib.hid (HN9.out.below h910); have HR10 := Lib.hid (And.intro hb10 (HB3.out.after h910)))); clear hb10 hf10 hk10 h910))
    refine (frtake_any w10 _ A8 (n - z) c8 (bs.drop z) (HX8.out.below HN10.out.bel) (by omega)).mono ?_
    intro e w11 he
    obtain ⟨K4, nm4, A4, n4, c4, m4, f4, rfl, hnm4, hr4, hb11⟩ := he.sliced
    obtain ⟨rfl, rfl, rfl, rfl, rfl, hb4⟩ := hr4.all
    have HN11 := Lib.hid (HN10.out.below hb11)
    have HR11 := Lib.hid (And.intro (HR10.out.1.after hb11) (And.intro (HR10.out.2.after hb11) hb4))
    clear he hr4 hb11 hb4
    go_wp2_with (first | (with_reducible show wpList Try.prog _ _ ({ dst := none, op := Op.store 112 (Operand.tmp 19) (Operand.tmp 109), type := _, pos := _, after := _, guard := none } :: _) _ _; refine wl_storeK rfl (.tmp 19) (.tmp 109) 112 rfl (.inr rfl) rfl rfl (Blk.new _ _ _) rfl hnm4 rfl ?_; intro w12 hb12 hf12 hk12; go_must ((have h1112 : Below w11.heap.size w11 w12 := ((Below.refl _ w11).alloc (Nat.le_refl _) _).trans (hf12 _ (Nat.le_refl _)); have HN12 := Lib.hid (HN11.out.below h1112); have HR12 := Lib.hid (And.intro (HR11.out.1.after h1112) (And.intro (HR11.out.2.1.after h1112) (And.intro hb12 (HR11.out.2.2.after h1112)))))); clear hb12 hf12 hk12 h1112))
    have HYZ : Hid (∀ w', Hid (Below w12.heap.size w12 w') → Blk w' w9.heap.size 109 (RC (kOf (frT (bs.drop z))) (nmOf (frT (bs.drop z))) (.slice A3 (bOf (frT (bs.drop z))).length c3)) ∧ Bs w' _ A3 (bOf (frT (bs.drop z))).length c3 (bOf (frT (bs.drop z))) ∧ Blk w' w11.heap.size 112 (RC (kOf (frT (bs.drop z))) (nmOf (frT (bs.drop z))) (.slice A4 (bOf (frT (bs.drop z))).length c4)) ∧ Bs w' _ A4 (bOf (frT (bs.drop z))).length c4 (bOf (frT (bs.drop z)))) := Lib.hid fun w' h => ⟨HR12.out.1.after h.out, HR12.out.2.1.after h.out, HR12.out.2.2.1.after h.out, HR12.out.2.2.2.after h.out⟩
    have HALS : Hid (∀ w', Hid (Below w12.heap.size w12 w') → Calls Try.prog 65 #[] w' fun e w'' => e = .returned (.bool true) ∧ Below w'.heap.size w' w'') := Lib.hid fun w' _ => falive_any w'
    refine wp_region_held_drew (S := fun w' => Hid (Below w12.heap.size w12 w')) (by kernel_rfl) (Lib.hid ((Below.refl _ _).drew)) (fun hHeld => ?_)
    refine wpAnyH_take (i := 0) (oi := { dst := some 112, op := Op.load 109 (Operand.tmp 18), type := 109, pos := "law.go:79", after := #[], guard := none }) (v := _) rfl (by kernel_rfl) (by kernel_rfl) (by kernel_rfl) (fun _ _ _ h => h) (yields_rec rfl (.inl rfl) rfl rfl hnm3 (fun _ h => (HYZ.out _ h).1)) hHeld ?_
    try simp only [Act.put, List.setIfInBounds_toArray, List.set_cons_zero, List.set_cons_succ]
    refine wpAnyH_take (i := 2) (oi := { dst := some 114, op := Op.load 112 (Operand.tmp 19), type := 112, pos := "law.go:79", after := #[], guard := none }) (v := _) rfl (by kernel_rfl) (by kernel_rfl) (by kernel_rfl) (fun _ _ _ h => h) (yields_rec rfl (.inr rfl) rfl rfl hnm3 (fun _ h => (HYZ.out _ h).2.2.1)) hHeld ?_
    try simp only [Act.put, List.setIfInBounds_toArray, List.set_cons_zero, List.set_cons_succ]
    refine wpAnyH_ready (rs := [1]) (by kernel_rfl) (by simp) ?_
    refine AllReadyH.cons (o := { dst := some 113, op := Op.call { callee := Callee.value (Operand.func 71), args := #[Operand.tmp 112], argTypes := #[109] }, type := 112, pos := "law.go:79", after := #[{ on := 0, ground := Ground.data }], guard := none }) rfl (fun K hK => ?_) AllReadyH.nil
    go_simp
    refine (fback_any _ _ _ A3 _ c3 hnm3).mono ?_; rintro e w1 ⟨rfl, hb1⟩
    refine hK.out _ _ (held_next hHeld hb1) (fun hHeld => ?_)
    clear hK K
    try simp only [Act.put, List.setIfInBounds_toArray, List.set_cons_zero, List.set_cons_succ]
    refine wpAnyH_ready (rs := [3]) (by kernel_rfl) (by simp) ?_
    refine AllReadyH.cons (o := { dst := some 115, op := Op.call { callee := Callee.value (Operand.func 70), args := #[Operand.tmp 113, Operand.tmp 114], argTypes := #[112, 112] }, type := 4, pos := "law.go:79", after := #[{ on := 1, ground := Ground.data }, { on := 2, ground := Ground.data }, { on := 1, ground := Ground.chain }], guard := none }) rfl (fun K hK => ?_) AllReadyH.nil
    go_simp
    refine (frsame_any _ _ _ _ _ _ _ A3 A4 _ c3 _ c4 _ _ hnm3 hnm3 (HYZ.out _ hHeld).2.1 (HYZ.out _ hHeld).2.2.2 (by omega) (by omega)).mono ?_; rintro e w3 ⟨rfl, hb3⟩; rw [decide_eq_true (show (kOf (frT (bs.drop z)) = kOf (frT (bs.drop z)) ∧ nmOf (frT (bs.drop z)) = nmOf (frT (bs.drop z)) ∧ bOf (frT (bs.drop z)) = bOf (frT (bs.drop z))) from ⟨rfl, rfl, rfl⟩)]
    refine hK.out _ _ (held_next hHeld hb3) (fun hHeld => ?_)
    clear hK K
    try simp only [Act.put, List.setIfInBounds_toArray, List.set_cons_zero, List.set_cons_succ]
    refine wpAnyH_take (i := 4) (oi := { dst := some 116, op := Op.move (Operand.tmp 115), type := 4, pos := "law.go:79", after := #[{ on := 3, ground := Ground.data }, { on := 3, ground := Ground.chain }], guard := none }) (v := ?vb4) rfl (by kernel_rfl) (by kernel_rfl) (by kernel_rfl) (fun _ _ _ h => h) (Or.inl ⟨by rfl, ?hyb4⟩) hHeld ?restb4
    case hyb4 => (intro w hSw; go_simp; try with_reducible rfl)
    try simp only [Act.put, List.setIfInBounds_toArray, List.set_cons_zero, List.set_cons_succ]
    refine wpAnyH_take (i := 5) (oi := { dst := some 117, op := Op.move (Operand.tmp 8), type := 28, pos := "law.go:79", after := #[{ on := 4, ground := Ground.guard }], guard := some (4, true) }) (v := ?vb5) rfl (by kernel_rfl) (by kernel_rfl) (by kernel_rfl) (fun _ _ _ h => h) (Or.inl ⟨by rfl, ?hyb5⟩) hHeld ?restb5
    case hyb5 => (intro w hSw; go_simp; try with_reducible rfl)
    try simp only [Act.put, List.setIfInBounds_toArray, List.set_cons_zero, List.set_cons_succ]
    refine wpAnyH_take (i := 6) (oi := { dst := some 118, op := Op.move (Operand.tmp 11), type := 28, pos := "law.go:79", after := #[{ on := 4, ground := Ground.guard }], guard := some (4, true) }) (v := ?vb6) rfl (by kernel_rfl) (by kernel_rfl) (by kernel_rfl) (fun _ _ _ h => h) (Or.inl ⟨by rfl, ?hyb6⟩) hHeld ?restb6
    case hyb6 => (intro w hSw; go_simp; try with_reducible rfl)
    try simp only [Act.put, List.setIfInBounds_toArray, List.set_cons_zero, List.set_cons_succ]
    refine wpAnyH_take (i := 7) (oi := { dst := some 119, op := Op.binOp BinOp.eql 28 (Operand.tmp 117) (Operand.tmp 118) 28, type := 4, pos := "law.go:79", after := #[{ on := 5, ground := Ground.data }, { on := 6, ground := Ground.data }, { on := 4, ground := Ground.guard }], guard := some (4, true) }) (v := ?vb7) rfl (by kernel_rfl) (by kernel_rfl) (by kernel_rfl) (fun _ _ _ h => h) (Or.inl ⟨by rfl, ?hyb7⟩) hHeld ?restb7
    case hyb7 => (intro w hSw; go_simp; try with_reducible rfl)
    try simp only [Act.put, List.setIfInBounds_toArray, List.set_cons_zero, List.set_cons_succ]
    refine wpAnyH_take (i := 8) (oi := { dst := some 120, op := Op.pick (Operand.tmp 116) (Operand.tmp 119) (Operand.const (Value.bool false)), type := 4, pos := "law.go:79", after := #[{ on := 4, ground := Ground.data }, { on := 7, ground := Ground.data }], guard := none }) (v := ?vb8) rfl (by kernel_rfl) (by kernel_rfl) (by kernel_rfl) (fun _ _ _ h => h) (Or.inl ⟨by rfl, ?hyb8⟩) hHeld ?restb8
    case hyb8 => (intro w hSw; go_simp; try with_reducible rfl)
    try simp only [Act.put, List.setIfInBounds_toArray, List.set_cons_zero, List.set_cons_succ]
    refine wpAnyH_take (i := 9) (oi := { dst := some 121, op := Op.move (Operand.tmp 120), type := 4, pos := "law.go:79", after := #[{ on := 8, ground := Ground.data }, { on := 4, ground := Ground.chain }], guard := none }) (v := ?vb9) rfl (by kernel_rfl) (by kernel_rfl) (by kernel_rfl) (fun _ _ _ h => h) (Or.inl ⟨by rfl, ?hyb9⟩) hHeld ?restb9
    case hyb9 => (intro w hSw; go_simp; try with_reducible rfl)
    try simp only [Act.put, List.setIfInBounds_toArray, List.set_cons_zero, List.set_cons_succ]
    refine wpAnyH_ready (rs := [10]) (by kernel_rfl) (by simp) ?_
    refine AllReadyH.cons (o := { dst := some 122, op := Op.call { callee := Callee.value (Operand.func 65), args := #[], argTypes := #[] }, type := 4, pos := "law.go:79", after := #[{ on := 9, ground := Ground.chain }, { on := 9, ground := Ground.guard }], guard := some (9, true) }) rfl (fun K hK => ?_) AllReadyH.nil
    go_simp
    refine (HALS.out _ hHeld).mono ?_; rintro e w10 ⟨rfl, hb10⟩
    refine hK.out _ _ (held_next hHeld hb10) (fun hHeld => ?_)
    clear hK K
    try simp only [Act.put, List.setIfInBounds_toArray, List.set_cons_zero, List.set_cons_succ]
    refine wpAnyH_take (i := 11) (oi := { dst := some 123, op := Op.pick (Operand.tmp 121) (Operand.tmp 122) (Operand.const (Value.bool false)), type := 4, pos := "law.go:79", after := #[{ on := 9, ground := Ground.data }, { on := 10, ground := Ground.data }], guard := none }) (v := ?vb11) rfl (by kernel_rfl) (by kernel_rfl) (by kernel_rfl) (fun _ _ _ h => h) (Or.inl ⟨by rfl, ?hyb11⟩) hHeld ?restb11
    case hyb11 => (intro w hSw; go_simp; try with_reducible rfl)
    try simp only [Act.put, List.setIfInBounds_toArray, List.set_cons_zero, List.set_cons_succ]
    refine wpAnyH_take (i := 12) (oi := { dst := some 4, op := Op.assign (Operand.tmp 123), type := 4, pos := "law.go:79", after := #[{ on := 11, ground := Ground.data }, { on := 10, ground := Ground.chain }, { on := 0, ground := Ground.phase }, { on := 1, ground := Ground.phase }, { on := 2, ground := Ground.phase }, { on := 3, ground := Ground.phase }, { on := 4, ground := Ground.phase }, { on := 5, ground := Ground.phase }, { on := 6, ground := Ground.phase }, { on := 7, ground := Ground.phase }, { on := 8, ground := Ground.phase }, { on := 9, ground := Ground.phase }, { on := 10, ground := Ground.phase }, { on := 11, ground := Ground.phase }], guard := none }) (v := ?vb12) rfl (by kernel_rfl) (by kernel_rfl) (by kernel_rfl) (fun _ _ _ h => h) (Or.inl ⟨by rfl, ?hyb12⟩) hHeld ?restb12
    case hyb12 => (intro w hSw; go_simp; try with_reducible rfl)
    try simp only [Act.put, List.setIfInBounds_toArray, List.set_cons_zero, List.set_cons_succ]
    refine wpAnyH_done (by kernel_rfl) ?_ _
    have HF := Lib.hid (HN12.out.below hHeld.out).bel
    go_wp2_with fail
    go_ret
    exact ⟨rfl, HF.out⟩
theorem frameScans_any (w : World) (S : Nat → Prop) (A : Option Addr) (n c : Nat) (bs : List UInt8) (hx : Bs w S A n c bs) (z : Int) :
    Calls Try.prog 14 #[.slice A n c, .int .i64 z] w fun e w' => e = .returned (.bool true) ∧ Below w.heap.size w w' := by
  by_cases h : 3000 < n
  · have t1 : (3000 : Int) < (n : Int) := by omega
    clear h
    go_enter Try.func14, Try.ntmps14
    go_wp2_with fail
    refine (falive_any _).mono ?_
    rintro e w1 ⟨rfl, hb⟩
    have HB := Lib.hid hb
    clear hb
    go_wp2_with fail
    go_ret
    exact ⟨rfl, HB.out⟩
  · exact frameScans_in w S A n c bs hx (by omega) z
end Go.Proofs.Ytaebmhbggbpnoaa
