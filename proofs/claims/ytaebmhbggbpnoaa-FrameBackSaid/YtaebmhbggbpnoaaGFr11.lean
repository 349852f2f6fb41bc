/- Lists of records in memory; the walk of Light (frame). Conditions: each theorem's premises. -/
import Derived.Test.YtaebmhbggbpnoaaGFr0
namespace Go.Proofs.Ytaebmhbggbpnoaa
open Go.RowKit
/-- A record as plain data. -/
structure Rd where
  k : Int
  nm : List UInt8
  bs : List UInt8
  hn : nm.length = 32
/-- A slice of records. -/
structure RQ (w : World) (S : Nat → Prop) (A : Option Addr) (n c : Nat) (l : List Rd) : Prop where
  len : l.length = n
  cap : n ≤ c
  at_ : ∀ i, i < n → ∃ ad x A' n' c' r, A = some ad ∧ S ad.block ∧ Hid (l[i]? = some r) ∧ ad.add (i * 34) = x ∧ Hid (∀ j v, (RC r.k r.nm (.slice A' n' c'))[j]? = some v → w.cell? (x.add j) = some v) ∧ Bs w S A' n' c' r.bs
theorem RQ.keep {w w' : World} {S S' : Nat → Prop} {A : Option Addr} {n c : Nat} {l : List Rd} (h : RQ w S A n c l) (hk : ∀ p : Addr, S p.block → p.block < w.heap.size → w'.cell? p = w.cell? p) (hS : ∀ k, S k → k < w.heap.size → S' k) : RQ w' S' A n c l :=
  ⟨h.len, h.cap, fun i hi => by
    obtain ⟨ad, x, A', n', c', r, e, hs, hl, hx, hc, hb⟩ := h.at_ i hi
    have hz := World.block_lt_of_cell? w _ (hc.out 0 _ RC.at0)
    have hxb : ∀ j, (x.add j).block = ad.block := fun j => by rw [← hx, block_of_add, block_of_add]
    rw [hxb] at hz
    exact ⟨ad, x, A', n', c', r, e, hS _ hs hz, hl, hx, Lib.hid fun j v hv => (hk _ (by rw [hxb]; exact hs) (by rw [hxb]; exact hz)).trans (hc.out j v hv), hb.keep hk hS⟩⟩
theorem RQ.after {w w' : World} {S : Nat → Prop} {A : Option Addr} {n c : Nat} {l : List Rd} (h : RQ w S A n c l) (hb : Below w.heap.size w w') : RQ w' S A n c l := h.keep (fun _ _ hp => hb.cell hp) (fun _ h _ => h)
theorem RQ.old {w : World} {S : Nat → Prop} {A : Option Addr} {n c : Nat} {l : List Rd} (h : RQ w S A n c l) : RQ w (Lo w.heap.size) A n c l := h.keep (fun _ _ _ => rfl) (fun _ _ h => h)
def light (l : List Rd) : Bool := decide (l.length ≤ 20) && l.all fun r => decide (r.bs.length ≤ 5100)
set_option maxRecDepth 100000 in
theorem flight_any (w : World) (S : Nat → Prop) (A : Option Addr) (n c : Nat) (l : List Rd) (hx : RQ w S A n c l) :
    Calls Try.prog 75 #[.slice A n c] w fun e w' => e = .returned (.bool (light l)) ∧ w' = w := by
  have HX := Lib.hid hx
  have HL := Lib.hid hx.len
  clear hx
  by_cases hn : 20 < n
  · have hr : light l = false := by unfold light; rw [HL.out]; simp; omega
    rw [hr]
    clear hr
    go_enter Try.func75, Try.ntmps75
    go_wp2_with fail
    go_ret
    exact ⟨rfl, rfl⟩
  · go_enter Try.func75, Try.ntmps75
    go_wp2_with fail
    go_loopw [3] (fun v3 wr => w = wr ∧ ∃ i : Nat, i ≤ n ∧ v3 = .int .i64 (i : Int) ∧ Hid (∀ r ∈ l.take i, r.bs.length ≤ 5100)) (fun v3 _ => n - (intOf v3).toNat)
    case atStart => exact ⟨rfl, 0, Nat.zero_le _, rfl, Lib.hid (by simp)⟩
    case round =>
      obtain ⟨rfl, i, hi, rfl, HI⟩ := hrel
      by_cases hlt : i < n
      · obtain ⟨ad, x, A', n', c', r, rfl, -, hr, hxe, hc, hb⟩ := HX.out.at_ i hlt
        have hcell := hc.out 33 _ (RC.at33 r.hn)
        have hlen := hb.len
        have hcell' : w.cell? ⟨x.block, x.off + 33, none⟩ = some (.slice A' n' c') := by rw [← hcell, Addr.add_succ']
        have HR := Lib.hid hr.out
        clear hcell hc hb hr
        by_cases hl : 5100 < n'
        · have hr : light l = false := by
            unfold light
            rw [Bool.and_eq_false_iff]
            refine .inr (List.all_eq_false.2 ⟨r, List.mem_of_getElem? HR.out, ?_⟩)
            simp; omega
          have HRL := Lib.hid hr
          clear hr
          go_wp2_with fail
          go_ret
          exact ⟨by rw [HRL.out]; rfl, rfl⟩
        · go_wp2_with fail
          go_roundw
          case rel => exact ⟨trivial, i + 1, by omega, by go_num, Lib.hid fun q hq => by
            rw [List.take_succ_eq_append_getElem (by rw [HL.out]; exact hlt)] at hq
            rcases List.mem_append.1 hq with h | h
            · exact HI.out q h
            · have e : l[i]'(by rw [HL.out]; exact hlt) = r := by
                have := HR.out
                rw [List.getElem?_eq_getElem (by rw [HL.out]; exact hlt)] at this
                exact Option.some.inj this
              rw [e] at h
              simp at h
              subst h
              omega⟩
          case measure => simp [intOf]; omega
      · obtain rfl : i = n := by omega
        have hr : light l = true := by
          have h := HI.out
          rw [List.take_of_length_le (by rw [HL.out]; exact Nat.le_refl _)] at h
          unfold light
          rw [HL.out]
          simp only [Bool.and_eq_true, decide_eq_true_eq, List.all_eq_true]
          exact ⟨by omega, fun r hr => by simpa using h r hr⟩
        have HRL := Lib.hid hr
        clear hr
        go_wp2_with fail
        go_ret
        exact ⟨by rw [HRL.out]; rfl, rfl⟩
end Go.Proofs.Ytaebmhbggbpnoaa
