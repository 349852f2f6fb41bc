/- The walk of the plain answer's form at a number. Conditions: each theorem's premises. -/
import Derived.Test.YtaebmhbggbpnoaaTlv23
namespace Go.Proofs.Ytaebmhbggbpnoaa
open Go.RowKit
theorem one_lit (w : World) (base : Nat) (hb : base ≤ w.heap.size) (n : Nat) : (w.alloc (.cells #[.int .u8 ((n : Int) % 256)] 5)).ownsRow base 5 1 (.slice (some ⟨w.heap.size, 0, none⟩) 1 1) 1 (u8s [UInt8.ofNat (n % 256)]) := by
  have e : u8s [UInt8.ofNat (n % 256)] = [.int .u8 ((n : Int) % 256)] := by
    simp only [u8s, u8v, List.map_cons, List.map_nil, UInt8.toNat_ofNat']
    have : ((n % 256 % 2 ^ 8 : Nat) : Int) = (n : Int) % 256 := by omega
    rw [this]
  rw [e]
  exact World.ownsRow_lit w #[.int .u8 ((n : Int) % 256)] 1 hb (by simp [maxLen]) rfl
set_option maxRecDepth 10000 in
set_option maxHeartbeats 4000000 in
theorem form_one (d : Nat) (n : Nat) (b : List UInt8) (l : List TV) (q : Quad) (w : World) (S : Nat → Prop) (h : VR w S q (.mk 1 n b l)) : Calls Try.prog 97 #[q.agg, .int .i64 (d : Int)] w (FormPost w (putT d (.mk 1 n b l))) := by
  obtain ⟨t, n, b, l, A2, A3, n2, c2, n3, c3, rfl, he, hu, hb, hn2, hl⟩ := h.opens
  cases he
  unfold u64ok at hu
  have HW : Hid (∀ o, Below w.heap.size w (w.alloc o)) := Lib.hid fun o => (Below.refl _ _).alloc (Nat.le_refl _) o
  obtain ⟨W, hW⟩ : ∃ W, W = w.alloc (.cells #[.int .i64 1, .int .u64 (n : Int), .slice A2 n2 c2, .slice A3 n3 c3] 33) := ⟨_, rfl⟩
  have hXW : Blk W w.heap.size 33 #[.int .i64 1, .int .u64 (n : Int), .slice A2 n2 c2, .slice A3 n3 c3] := by rw [hW]; exact Blk.new _ _ _
  have hsz : W.heap.size = w.heap.size + 1 := by rw [hW]; simp
  have hbW : Below w.heap.size w W := by rw [hW]; exact HW.out _
  have HXW := Lib.hid hXW
  have HW' := Lib.hid hW
  obtain ⟨r, hr⟩ : ∃ r, r = putT d (.mk 1 n b l) := ⟨_, rfl⟩
  rw [← hr]
  have hnone : 0 < n2 ∨ 0 < n3 → r = none := fun h => by
    rw [hr]
    refine putT_not ?_
    rw [onlyT_a hb hl]
    rcases h with h | h <;> simp [h]
  have hsome : n2 = 0 → n3 = 0 → r = some (headT 1 (numE n) ++ numE n) := fun h1 h2 => by
    rw [hr]
    have ho : onlyT (.mk 1 n b l) = true := by rw [onlyT_a hb hl]; simp [h1, h2]
    exact putT_some (bodyT_one ho hu)
  have HN := Lib.hid hnone
  have HS := Lib.hid hsome
  have h8 := numE_len8 n hu
  clear hr hnone hsome hXW hb hl h hW
  dsimp only [Quad.agg]
  go_enter Try.func97, Try.ntmps97
  go_wp2_with fail
  have hW := HW'.out
  rw [← hW]
  clear hW HW'
  go_loopw [6, 7] (fun sv nv wr => ∃ (cur : Nat) (A : Option Addr) (c : Nat) (ys : List UInt8), cur < 18446744073709551616 ∧ nv = .int .u64 (cur : Int) ∧ sv = .slice A ys.length c ∧ Hid (numE n = numE cur ++ ys) ∧ Hid (wr.ownsRow (w.heap.size + 1) 5 1 (.slice A ys.length c) ys.length (u8s ys)) ∧ Hid (Below (w.heap.size + 1) W wr)) (fun _ nv _ => (intOf nv).toNat)
  case atStart => exact ⟨n, none, 0, [], hu, rfl, rfl, Lib.hid (by simp), Lib.hid (World.ownsRow_nil _ _ _ _), Lib.hid (Below.refl _ _)⟩
  case round =>
    obtain ⟨cur, A, c, ys, hcu, rfl, rfl, hnn, hown, hbr⟩ := hrel
    obtain ⟨z0, z1, z2, z3, -⟩ := (HXW.out.below hbr.out (by omega)).four
    have hsr : w.heap.size + 1 ≤ wr.heap.size := by have := hbr.out.size; omega
    have hyl : ys.length ≤ 8 := by
      have h1 := congrArg List.length hnn.out
      simp at h1
      omega
    by_cases hc : 0 < cur
    · have hc' : (0 : Int) < (cur : Int) := by omega
      obtain ⟨_, _, he, hbs⟩ := own_bs hown.out
      cases he
      go_wp2_with (at_builtin; go_must ((refine wpList_append_u8 (A := A) (m := ys.length) (c := c) (ys := ys) (v := .slice (some ⟨wr.heap.size, 0, none⟩) 1 1) (n := 1) (xs := [UInt8.ofNat (cur % 256)]) rfl (.tmp 24) (.tmp 25) rfl rfl (one_lit wr (w.heap.size + 1) hsr cur) rfl (hbs.after ((Below.refl _ _).alloc (Nat.le_refl _) _)) (by omega) (by simp; omega) ?_; intro v2 w2 hown2 hg2 hat2; obtain ⟨A8, c8, rfl, _⟩ := own_shape hown2)))
      have hbw2 : Below (w.heap.size + 1) W w2 := (hbr.out.trans ((Below.refl _ wr).alloc hsr _)).grown hg2 (by simp; omega) (by intro k hk; simp [Value.ownBlock] at hk; omega)
      have hlen : ([UInt8.ofNat (cur % 256)] ++ ys).length = 1 + ys.length := by simp; omega
      refine ⟨⟨cur / 256, A8, c8, [UInt8.ofNat (cur % 256)] ++ ys, by omega, by congr 1, by rw [hlen], Lib.hid ?_, by rw [hlen]; exact Lib.hid hown2, Lib.hid hbw2⟩, by simp [intOf]; omega⟩
      rw [hnn.out, numE_pos (show cur ≠ 0 by omega)]
      simp
    · obtain rfl : cur = 0 := by omega
      have hys : numE n = ys := by have := hnn.out; rw [numE_zero] at this; simpa using this
      have HYS := Lib.hid hys
      clear hnn hys
      by_cases hb0 : 0 < n2
      · obtain rfl : r = none := HN.out (.inl hb0)
        have hb0' : (0 : Int) < (n2 : Int) := by omega
        go_wp2_with fail
        go_ret2
        exact ⟨rfl, hbW.trans (hbr.out.mono (by omega))⟩
      by_cases hl0 : 0 < n3
      · obtain rfl : r = none := HN.out (.inr hl0)
        have hb0' : ¬ (0 : Int) < (n2 : Int) := by omega
        have hl0' : (0 : Int) < (n3 : Int) := by omega
        go_wp2_with fail
        go_ret2
        exact ⟨rfl, hbW.trans (hbr.out.mono (by omega))⟩
      · obtain rfl : n2 = 0 := by omega
        obtain rfl : n3 = 0 := by omega
        obtain rfl : r = _ := HS.out rfl rfl
        obtain ⟨xn, hxn⟩ : ∃ xn, ys.length = xn := ⟨_, rfl⟩
        rw [hxn] at hown hyl ⊢
        obtain ⟨_, _, he, hbs1⟩ := own_bs hown.out
        cases he
        have hx1 : ¬ (65535 : Int) < (xn : Int) := by omega
        go_wp2_with (at_builtin; go_must ((refine wpList_append_u8 (A := A) (m := xn) (c := c) (ys := ys) (v := .slice (some ⟨wr.heap.size, 0, none⟩) 3 3) (n := 3) (xs := headT 1 ys) rfl (.tmp 109) (.tmp 110) rfl rfl (own_head wr (w.heap.size + 1) hsr hxn (by omega) (by omega) (by omega)) rfl (hbs1.after ((Below.refl _ _).alloc (Nat.le_refl _) _)) (by omega) (by simp; omega) ?_; intro v2 w2 hown2 hg2 hat2; obtain ⟨A8, c8, rfl, _⟩ := own_shape hown2)))
        go_ret2
        obtain ⟨A9, c9, he, hbs2⟩ := own_bs hown2
        cases he
        rw [HYS.out]
        have hlen : (headT 1 ys ++ ys).length = 3 + xn := by simp [headT]; omega
        have hbw2 : Below (w.heap.size + 1) W w2 := (hbr.out.trans ((Below.refl _ wr).alloc hsr _)).grown hg2 (by simp; omega) (by intro k hk; simp [Value.ownBlock] at hk; omega)
        exact ⟨A8, c8, by rw [hlen]; rfl, by rw [hlen]; exact hbs2.mono (fun k hk => by omega), by rw [hlen]; omega, hbW.trans (hbw2.mono (by omega))⟩
end Go.Proofs.Ytaebmhbggbpnoaa
