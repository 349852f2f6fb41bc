/- The walk of the plain answer's form (hayloftref01). Conditions: each theorem's premises. -/
import Derived.Test.YtaebmhbggbpnoaaTlv16
namespace Go.Proofs.Ytaebmhbggbpnoaa
open Go.RowKit
def FormPost (w : World) (o : Option (List UInt8)) (e : Ending) (w' : World) : Prop := match o with
  | none => e = .returned (.tuple #[.slice none 0 0, .bool false]) ∧ Below w.heap.size w w'
  | some xs => ∃ A c, e = .returned (.tuple #[.slice A xs.length c, .bool true]) ∧ Bs w' (fun k => w.heap.size ≤ k) A xs.length c xs ∧ xs.length ≤ 70000 ∧ Below w.heap.size w w'
def FormSaid (d : Nat) : Prop := ∀ (v : TV) (q : Quad) (w : World) (S : Nat → Prop), VR w S q v → Calls Try.prog 97 #[q.agg, .int .i64 (d : Int)] w (FormPost w (putT d v))
theorem putT_not {d : Nat} {v : TV} (h : onlyT v = false) : putT d v = none := by
  cases hb : bodyT d v with
  | none => exact putT_none hb
  | some x => rw [(bodyT_only hb).1] at h; cases h
theorem bodyT_two {d n : Nat} {b : List UInt8} {l : List TV} (h : onlyT (.mk 2 n b l) = true) : bodyT d (.mk 2 n b l) = fitT b := by
  simp only [onlyT] at h
  simp at h
  obtain ⟨rfl, rfl⟩ := h
  cases d <;> simp [bodyT, onlyT, formsT, numE_zero]
theorem num_body' (d n : Nat) (h : n < 18446744073709551616) : bodyT d (.mk 1 n [] []) = some (numE n) := by
  have := numE_len8 n h
  cases d <;> simp [bodyT, onlyT, formsT, fitT] <;> omega
theorem bodyT_one {d n : Nat} {b : List UInt8} {l : List TV} (h : onlyT (.mk 1 n b l) = true) (hu : n < 18446744073709551616) : bodyT d (.mk 1 n b l) = some (numE n) := by
  simp only [onlyT] at h
  simp at h
  obtain ⟨rfl, rfl⟩ := h
  exact num_body' d n hu
/-- The head that is laid ahead of a body. -/
theorem own_head (w : World) (base : Nat) (hb : base ≤ w.heap.size) {t : Int} {x : List UInt8} {xn : Nat} (hx : x.length = xn) (hle : xn ≤ 65535) (h1 : 1 ≤ t) (h3 : t ≤ 3) :
    (w.alloc (.cells #[.int .u8 t, .int .u8 ((xn : Int) / 256), .int .u8 ((xn : Int) % 256)] 5)).ownsRow base 5 1 (.slice (some ⟨w.heap.size, 0, none⟩) 3 3) 3 (u8s (headT t x)) := by
  have e : u8s (headT t x) = [.int .u8 t, .int .u8 ((xn : Int) / 256), .int .u8 ((xn : Int) % 256)] := by
    simp only [u8s, u8v, headT, List.map_cons, List.map_nil, UInt8.toNat_ofNat', hx]
    have e1 : ((t.toNat % 2 ^ 8 : Nat) : Int) = t := by omega
    have e2 : ((xn / 256 % 2 ^ 8 : Nat) : Int) = (xn : Int) / 256 := by omega
    have e3 : ((xn % 256 % 2 ^ 8 : Nat) : Int) = (xn : Int) % 256 := by omega
    rw [e1, e2, e3]
  rw [e]
  exact World.ownsRow_lit w #[.int .u8 t, .int .u8 ((xn : Int) / 256), .int .u8 ((xn : Int) % 256)] 3 hb (by simp [maxLen]) rfl
theorem below_size {w w1 : World} {o : Obj} {B : Nat} (h : Below B (w.alloc o) w1) : w.heap.size + 1 ≤ w1.heap.size := by have := h.size; simpa using this
set_option maxRecDepth 10000 in
set_option maxHeartbeats 2000000 in
theorem form_other (d : Nat) (v : TV) (q : Quad) (w : World) (S : Nat → Prop) (h : VR w S q v) (h1 : v.tag ≠ 1) (h2 : v.tag ≠ 2) (h3 : v.tag ≠ 3) : Calls Try.prog 97 #[q.agg, .int .i64 (d : Int)] w (FormPost w (putT d v)) := by
  obtain ⟨t, n, b, l, A2, A3, n2, c2, n3, c3, rfl, rfl, hu, hb, hn2, hl⟩ := h.opens
  simp only [TV.tag] at h1 h2 h3
  have ho : onlyT (.mk t n b l) = false := by simp only [onlyT]; rw [if_neg h1, if_neg h2, if_neg h3]
  rw [putT_not ho]
  have T1 : (t == 1) = false := by simpa using h1
  have T2 : (t == 2) = false := by simpa using h2
  have T3 : (t == 3) = false := by simpa using h3
  have HW : Hid (∀ o, Below w.heap.size w (w.alloc o)) := Lib.hid fun o => (Below.refl _ _).alloc (Nat.le_refl _) o
  clear h1 h2 h3 ho hb hl h hu
  dsimp only [Quad.agg]
  go_enter Try.func97, Try.ntmps97
  go_wp2_with fail
  go_ret2
  exact ⟨rfl, HW.out _⟩
set_option maxRecDepth 10000 in
set_option maxHeartbeats 2000000 in
theorem form_two (d : Nat) (n : Nat) (b : List UInt8) (l : List TV) (q : Quad) (w : World) (S : Nat → Prop) (h : VR w S q (.mk 2 n b l)) : Calls Try.prog 97 #[q.agg, .int .i64 (d : Int)] w (FormPost w (putT d (.mk 2 n b l))) := by
  obtain ⟨t, n, b, l, A2, A3, n2, c2, n3, c3, rfl, he, hu, hb, hn2, hl⟩ := h.opens
  cases he
  have HW : Hid (∀ o, Below w.heap.size w (w.alloc o)) := Lib.hid fun o => (Below.refl _ _).alloc (Nat.le_refl _) o
  have HB : Hid (∀ o, Bs (w.alloc o) S A2 n2 c2 b) := Lib.hid fun o => hb.after (HW.out o)
  have hX := fun (w' : World) (hb : Below (w.alloc (.cells #[.int .i64 2, .int .u64 (n : Int), .slice A2 n2 c2, .slice A3 n3 c3] 33)).heap.size (w.alloc (.cells #[.int .i64 2, .int .u64 (n : Int), .slice A2 n2 c2, .slice A3 n3 c3] 33)) w') => ((Blk.new w 33 #[.int .i64 2, .int .u64 (n : Int), .slice A2 n2 c2, .slice A3 n3 c3]).after hb).four
  have HX := Lib.hid hX
  cases ho : onlyT (.mk 2 n b l) with
  | false =>
    rw [putT_not ho]
    have hor : n ≠ 0 ∨ (n = 0 ∧ 0 < n3) := by
      simp only [onlyT] at ho
      have := hl.len
      by_cases h0 : n = 0
      · refine .inr ⟨h0, ?_⟩
        cases l with
        | nil => simp [h0] at ho
        | cons x xs => simp at this; omega
      · exact .inl h0
    clear ho hb hl h hu hX
    dsimp only [Quad.agg]
    rcases hor with h0 | ⟨rfl, h0⟩
    · have h0' : ((n : Int) != 0) = true := by simp; omega
      go_enter Try.func97, Try.ntmps97
      go_wp2_with (at_builtin; go_must ((refine wpList_append_u8 (A := A2) (m := n2) (c := c2) (ys := b) (v := .slice none 0 0) (n := 0) (xs := []) rfl (.tmp 39) (.tmp 41) rfl rfl (World.ownsRow_nil _ (w.heap.size + 1) _ _ : World.ownsRow _ _ _ _ _ _ (u8s [])) rfl (HB.out _) (by omega) (by simp) ?_; intro v1 w1 hown hg hat; obtain ⟨A7, c7, rfl, _⟩ := own_shape hown; have hbb := (Below.refl (w.heap.size + 1) _).grown hg (by simp) (by simp [Value.ownBlock]); obtain ⟨z0, z1, z2, z3, -⟩ := HX.out _ (by simpa using hbb))))
      go_ret2
      exact ⟨rfl, (HW.out _).trans (hbb.mono (by omega))⟩
    · have h0' : (0 : Int) < (n3 : Int) := by omega
      go_enter Try.func97, Try.ntmps97
      go_wp2_with (at_builtin; go_must ((refine wpList_append_u8 (A := A2) (m := n2) (c := c2) (ys := b) (v := .slice none 0 0) (n := 0) (xs := []) rfl (.tmp 39) (.tmp 41) rfl rfl (World.ownsRow_nil _ (w.heap.size + 1) _ _ : World.ownsRow _ _ _ _ _ _ (u8s [])) rfl (HB.out _) (by omega) (by simp) ?_; intro v1 w1 hown hg hat; obtain ⟨A7, c7, rfl, _⟩ := own_shape hown; have hbb := (Below.refl (w.heap.size + 1) _).grown hg (by simp) (by simp [Value.ownBlock]); obtain ⟨z0, z1, z2, z3, -⟩ := HX.out _ (by simpa using hbb))))
      go_ret2
      exact ⟨rfl, (HW.out _).trans (hbb.mono (by omega))⟩
  | true =>
    have hbt := bodyT_two (d := d) ho
    have hor : n = 0 ∧ n3 = 0 := by
      simp only [onlyT] at ho
      have := hl.len
      simp at ho
      obtain ⟨rfl, rfl⟩ := ho
      exact ⟨rfl, this.symm⟩
    obtain ⟨rfl, rfl⟩ := hor
    have hbl := hb.len
    dsimp only [Quad.agg]
    by_cases hbig : n2 ≤ 65535
    · rw [putT_some (by rw [hbt]; unfold fitT; rw [if_pos (by omega)])]
      have hb1 : ¬ (65535 : Int) < (n2 : Int) := by omega
      clear hbt ho hb hl h hu hX
      go_enter Try.func97, Try.ntmps97
      go_wp2_with (at_builtin; first | (have _g := hown; go_must ((refine wpList_append_u8 (A := A7) (m := n2) (c := c7) (ys := b) (v := .slice (some ⟨w1.heap.size, 0, none⟩) 3 3) (n := 3) (xs := headT 2 b) rfl (.tmp 109) (.tmp 110) rfl rfl (own_head w1 (w.heap.size + 1) (below_size hbb) hbl hbig (by omega) (by omega)) rfl (hbs1.after ((Below.refl _ _).alloc (Nat.le_refl _) _)) (by omega) (by have := hbb.size; simp at this ⊢; omega) ?_; intro v2 w2 hown2 hg2 hat2; obtain ⟨A8, c8, rfl, _⟩ := own_shape hown2))) | (refine wpList_append_u8 (A := A2) (m := n2) (c := c2) (ys := b) (v := .slice none 0 0) (n := 0) (xs := []) rfl (.tmp 39) (.tmp 41) rfl rfl (World.ownsRow_nil _ (w.heap.size + 1) _ _ : World.ownsRow _ _ _ _ _ _ (u8s [])) rfl (HB.out _) (by omega) (by simp) ?_; intro v1 w1 hown hg hat; obtain ⟨A7, c7, rfl, _⟩ := own_shape hown; have hbb := (Below.refl (w.heap.size + 1) _).grown hg (by simp) (by simp [Value.ownBlock]); simp only [Nat.zero_add, List.nil_append] at hown ⊢; obtain ⟨z0, z1, z2, z3, -⟩ := HX.out _ (by simpa using hbb); obtain ⟨_, _, he, hbs1⟩ := own_bs hown; cases he))
      go_ret2
      obtain ⟨A9, c9, he, hbs2⟩ := own_bs hown2
      cases he
      have hlen : (headT 2 b ++ b).length = 3 + n2 := by simp [headT]; omega
      refine ⟨A8, c8, by rw [TV.tag, hlen]; rfl, by rw [TV.tag, hlen]; exact hbs2.mono (fun k hk => by omega), by rw [TV.tag, hlen]; omega, ?_⟩
      have hbw1 : Below (w.heap.size + 1) (w.alloc (.cells #[.int .i64 2, .int .u64 0, .slice A2 n2 c2, .slice A3 0 c3] 33)) w2 := (hbb.alloc (below_size hbb) _).grown hg2 (by have := hbb.size; simp at this ⊢; omega) (by intro k hk; simp [Value.ownBlock] at hk; have := hbb.size; simp at this; omega)
      exact (HW.out _).trans (hbw1.mono (by omega))
    · rw [putT_none (by rw [hbt]; unfold fitT; rw [if_neg (by omega)])]
      have hb1 : (65535 : Int) < (n2 : Int) := by omega
      clear hbt ho hb hl h hu hX
      go_enter Try.func97, Try.ntmps97
      go_wp2_with (at_builtin; go_must ((refine wpList_append_u8 (A := A2) (m := n2) (c := c2) (ys := b) (v := .slice none 0 0) (n := 0) (xs := []) rfl (.tmp 39) (.tmp 41) rfl rfl (World.ownsRow_nil _ (w.heap.size + 1) _ _ : World.ownsRow _ _ _ _ _ _ (u8s [])) rfl (HB.out _) (by omega) (by simp) ?_; intro v1 w1 hown hg hat; obtain ⟨A7, c7, rfl, _⟩ := own_shape hown; have hbb := (Below.refl (w.heap.size + 1) _).grown hg (by simp) (by simp [Value.ownBlock]); simp only [Nat.zero_add, List.nil_append] at hown ⊢; obtain ⟨z0, z1, z2, z3, -⟩ := HX.out _ (by simpa using hbb))))
      go_ret2
      exact ⟨rfl, (HW.out _).trans (hbb.mono (by omega))⟩
end Go.Proofs.Ytaebmhbggbpnoaa
