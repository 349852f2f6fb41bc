/- The walk of tlv.Put. Conditions: each theorem's premises. -/
import Derived.Test.YtaebmhbggbpnoaaTlv15
namespace Go.Proofs.Ytaebmhbggbpnoaa
open Go.RowKit
def PutPost (w : World) (o : Option (List UInt8)) (e : Ending) (w' : World) : Prop := match o with
  | none => e = .returned (.tuple #[.slice none 0 0, .int .i64 1]) ∧ Below w.heap.size w w'
  | some xs => ∃ A c, e = .returned (.tuple #[.slice A xs.length c, .int .i64 0]) ∧ Bs w' (fun k => w.heap.size ≤ k) A xs.length c xs ∧ xs.length ≤ 70000 ∧ Below w.heap.size w w'
set_option maxRecDepth 10000 in
set_option maxHeartbeats 1000000 in
theorem put_any (v : TV) (q : Quad) (w : World) (S : Nat → Prop) (h : VR w S q v) : Calls Try.prog 45 #[q.agg] w (PutPost w (putT 8 v)) := by
  have HW : Hid (∀ o, Below w.heap.size w (w.alloc o)) := Lib.hid fun o => (Below.refl _ _).alloc (Nat.le_refl _) o
  have K := fun o => right_any v q (w.alloc o) S (h.after (HW.out _))
  have HV := Lib.hid h.old
  cases hi : bodyT 8 v with
  | none =>
    rw [putT_none hi]
    have K2 := K
    unfold rightB at K2
    rw [hi] at K2
    have HK := Lib.hid K2
    clear K K2 hi
    obtain ⟨t, n, b, l, A2, A3, n2, c2, n3, c3, rfl, rfl, -⟩ := h.opens
    dsimp only [Quad.agg] at HK ⊢
    clear h HV
    go_enter Try.func45, Try.ntmps45
    go_wp2_with fail
    refine (HK.out _).mono ?_
    rintro e w1 ⟨rfl, hbw⟩
    go_wp2_with fail
    go_ret2
    exact ⟨rfl, (HW.out _).trans (hbw.mono (by simp))⟩
  | some x =>
    rw [putT_some hi]
    have K2 := K
    unfold rightB at K2
    rw [hi] at K2
    have HK := Lib.hid K2
    have hx := (bodyT_only hi).2
    have KV := fun (w1 : World) (hb : Below w.heap.size w w1) => value_any 8 v q (w1.alloc (.cells #[.slice none 0 0] 177)) w1.heap.size (w1.heap.size + 1) 0 0 none [] x
      ((HV.out.lower (hb.alloc hb.size _)).keep (fun _ _ _ => rfl) (fun k hk _ => by unfold Lo at *; have := hb.size; omega)) hi (Blk.new _ _ _) (World.ownsRow_nil _ _ _ _) (by omega) (by simp) (by omega)
    have HKV := Lib.hid KV
    have HX := Lib.hid (And.intro hx hi)
    clear K K2 hi KV HV hx
    obtain ⟨t, n, b, l, A2, A3, n2, c2, n3, c3, rfl, rfl, -⟩ := h.opens
    dsimp only [Quad.agg] at HK HKV ⊢
    clear h
    go_enter Try.func45, Try.ntmps45
    go_wp2_with fail
    refine (HK.out _).mono ?_
    rintro e w1 ⟨rfl, hbw⟩
    have hX := (Blk.new w 27 #[.int .i64 t, .int .u64 (n : Int), .slice A2 n2 c2, .slice A3 n3 c3]).after hbw
    obtain ⟨z0, z1, z2, z3, f0, f1, f2, f3, hz⟩ := hX.four
    have hb1 := (HW.out _).trans (hbw.mono (by simp))
    go_wp2_with fail
    refine (HKV.out w1 hb1).mono ?_
    rintro e w2 ⟨A', c', rfl, hW⟩
    obtain ⟨y0, y1, y2⟩ := hW.blk.one
    go_wp2_with fail
    go_ret2
    obtain ⟨A7, c7, he, hbs⟩ := own_bs hW.own
    cases he
    have hlen : (headT (TV.mk t n b l).tag x ++ x).length = 0 + 3 + x.length := by simp [headT]; omega
    refine ⟨A', c', by rw [hlen]; rfl, by rw [hlen]; exact hbs.mono (fun k hk => by have := hb1.size; omega), by rw [hlen]; have := HX.out.1; omega, ?_⟩
    have hlo := hW.lo (fun k h => by simp [Value.ownBlock] at h)
    exact (hb1.alloc hb1.size _).trans (hlo.mono hb1.size)
end Go.Proofs.Ytaebmhbggbpnoaa
