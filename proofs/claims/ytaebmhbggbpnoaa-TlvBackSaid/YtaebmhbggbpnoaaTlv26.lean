/- Lists of nodes (hayloftlaw01.Node) in memory, and the walk of light. Conditions: each theorem's premises. -/
import Derived.Test.YtaebmhbggbpnoaaTlv17
namespace Go.Proofs.Ytaebmhbggbpnoaa
open Go.RowKit
/-- A node: its tag, how many are in it, its number, its bytes. -/
structure ND where
  tag : Int
  many : Int
  num : Nat
  bytes : List UInt8
/-- A node's cells. -/
def NDR (w : World) (S : Nat → Prop) (q : Quad) (x : ND) : Prop := ∃ (A2 : Option Addr) (n2 c2 : Nat), q = ⟨.int .i64 x.tag, .int .i64 x.many, .int .u64 (x.num : Int), .slice A2 n2 c2⟩ ∧ u64ok x.num ∧ (-9223372036854775808 ≤ x.many ∧ x.many ≤ 9223372036854775807) ∧ Bs w S A2 n2 c2 x.bytes ∧ n2 ≤ 9223372036854775807
/-- A list of nodes. -/
structure NR (w : World) (S : Nat → Prop) (A : Option Addr) (n c : Nat) (l : List ND) : Prop where
  len : l.length = n
  cap : n ≤ c
  few : n ≤ 9223372036854775807
  rd : ∃ qs : List Quad, qs.length = l.length ∧ Reads w S 4 A n (flat qs) ∧ ∀ (i : Nat) (q : Quad) (x : ND), qs[i]? = some q → l[i]? = some x → NDR w S q x
section
variable {w w' : World} {S S' : Nat → Prop} {A : Option Addr} {n c : Nat} {l : List ND}
theorem NDR.keep {q : Quad} {x : ND} (h : NDR w S q x) (hk : ∀ p : Addr, S p.block → p.block < w.heap.size → w'.cell? p = w.cell? p) (hS : ∀ k, S k → k < w.heap.size → S' k) : NDR w' S' q x := by
  obtain ⟨A2, n2, c2, e, hu, hm, hb, hn⟩ := h
  exact ⟨A2, n2, c2, e, hu, hm, hb.keep hk hS, hn⟩
theorem NR.keep (h : NR w S A n c l) (hk : ∀ p : Addr, S p.block → p.block < w.heap.size → w'.cell? p = w.cell? p) (hS : ∀ k, S k → k < w.heap.size → S' k) : NR w' S' A n c l := by
  obtain ⟨hl, hc, hf, qs, hq, hr, hv⟩ := h
  exact ⟨hl, hc, hf, qs, hq, hr.keep (by omega) hk hS, fun i q x h1 h2 => (hv i q x h1 h2).keep hk hS⟩
theorem NR.after (h : NR w S A n c l) (hb : Below w.heap.size w w') : NR w' S A n c l := h.keep (fun _ _ hp => hb.cell hp) (fun _ h _ => h)
theorem NR.old (h : NR w S A n c l) : NR w (Lo w.heap.size) A n c l := h.keep (fun _ _ _ => rfl) (fun _ _ h => h)
theorem NR.lower {B : Nat} (h : NR w (Lo B) A n c l) (hb : Below B w w') : NR w' (Lo B) A n c l := h.keep (fun _ hp _ => hb.cell hp) (fun _ h _ => h)
/-- An element of a list of nodes. -/
theorem NR.at_ (h : NR w S A n c l) {k : Nat} (hk : k < n) : ∃ ad x A2 n2 c2 y, A = some ad ∧ ad.add (k * 4) = x ∧ Hid (l[k]? = some y) ∧ u64ok y.num ∧ (-9223372036854775808 ≤ y.many ∧ y.many ≤ 9223372036854775807) ∧ Bs w S A2 n2 c2 y.bytes ∧ n2 ≤ 9223372036854775807 ∧
    w.cell? x = some (.int .i64 y.tag) ∧ w.cell? ⟨x.block, x.off + 1, none⟩ = some (.int .i64 y.many) ∧ w.cell? ⟨x.block, x.off + 2, none⟩ = some (.int .u64 (y.num : Int)) ∧ w.cell? ⟨x.block, x.off + 3, none⟩ = some (.slice A2 n2 c2) := by
  obtain ⟨hl, hc, hf, qs, hq, hr, hv⟩ := h
  obtain ⟨ad, e, hS, hcell⟩ := hr.2 (by omega)
  have hkl : k < l.length := by omega
  have hkq : k < qs.length := by omega
  have h1 := flat_at qs k qs[k] (List.getElem?_eq_getElem hkq)
  have c0 := hcell _ _ h1.1
  have e1 : ∀ j, ad.add (k * 4 + (j + 1)) = ⟨(ad.add (k * 4)).block, (ad.add (k * 4)).off + (j + 1), none⟩ := fun j => by rw [← add_of_add, Addr.add_succ']
  obtain ⟨A2, n2, c2, he, hu, hm, hb, hn⟩ := hv k _ _ (List.getElem?_eq_getElem hkq) (List.getElem?_eq_getElem hkl)
  have c1 := hcell _ _ h1.2.1
  have c2' := hcell _ _ h1.2.2.1
  have c3 := hcell _ _ h1.2.2.2
  rw [he] at c0 c1 c2' c3
  refine ⟨ad, _, A2, n2, c2, l[k], e, rfl, List.getElem?_eq_getElem hkl, hu, hm, hb, hn, c0, ?_, ?_, ?_⟩
  · rw [← e1 0]; exact c1
  · rw [← e1 1]; exact c2'
  · rw [← e1 2]; exact c3
/-- A list from a place on. -/
theorem NR.from_ (h : NR w S A n c l) (lo : Int) (j k : Nat) (hl : lo = (j : Int)) (hk : j + k = n) :
    ∃ A' c', (∀ W, (Instr.sliceAt 65 (.slice A n c) (some (.int .i64 lo)) none none).run Try.prog W = .ok (.slice A' k c') W) ∧ NR w S A' k c' (l.drop j) := by
  obtain ⟨i0, hi0, _, hz1, _⟩ := info_parts (show (Try.prog.info? 175).map (fun i => (i.zero, i.size, i.bytes)) = some (some (.agg #[.int .i64 0, .int .i64 0, .int .u64 0, .slice none 0 0]), 4, 48) by kernel_rfl)
  refine ⟨_, _, run_cut_from Try.underlying65 hi0 hz1 A n c lo j k hl hk, ?_⟩
  obtain ⟨hll, hc, hf, qs, hq, hr, hv⟩ := h
  refine ⟨by rw [List.length_drop]; omega, by omega, by omega, qs.drop j, by rw [List.length_drop, List.length_drop, hq], ?_, fun i q x h1 h2 => hv (j + i) q x (by rw [← h1, List.getElem?_drop]) (by rw [← h2, List.getElem?_drop])⟩
  have h1 := hr.drop (k := j) (cap := c) (by omega) hc
  have h2 : (flat qs).drop (j * 4) = flat (qs.drop j) := by
    have e : flat qs = flat (qs.take j) ++ flat (qs.drop j) := by rw [← flat_append, List.take_append_drop]
    rw [e, List.drop_append_of_le_length (by rw [flat_length, List.length_take]; omega), List.drop_eq_nil_of_le (by rw [flat_length, List.length_take]; omega)]
    rfl
  rw [h2, show n - j = k from by omega] at h1
  exact h1
end
/-- Are nodes few, and short? -/
def lightB (l : List ND) : Bool := decide (l.length ≤ 40) && l.all fun x => decide (x.bytes.length ≤ 3000)
set_option maxRecDepth 10000 in
set_option maxHeartbeats 2000000 in
theorem light_any (w : World) (S : Nat → Prop) (A : Option Addr) (n c : Nat) (l : List ND) (h : NR w S A n c l) : Calls Try.prog 43 #[.slice A n c] w fun e w' => e = .returned (.bool (lightB l)) ∧ Below w.heap.size w w' := by
  have hf := h.few
  have hln := h.len
  by_cases hn : n ≤ 40
  · have hn' : ¬ (40 : Int) < (n : Int) := by omega
    have hb : lightB l = l.all fun x => decide (x.bytes.length ≤ 3000) := by unfold lightB; rw [hln]; simp [hn]
    rw [hb]
    have HLN := Lib.hid hln
    clear hb hln
    go_enter Try.func43, Try.ntmps43
    go_wp2_with fail
    go_loopw [3] (fun i wr => ∃ k : Nat, k ≤ n ∧ i = .int .i64 (k : Int) ∧ Hid ((l.take k).all (fun x => decide (x.bytes.length ≤ 3000)) = true) ∧ wr = w) (fun i _ => n - (intOf i).toNat)
    case atStart => exact ⟨0, Nat.zero_le _, rfl, Lib.hid (by simp), rfl⟩
    case round =>
      obtain ⟨k, hk, rfl, hal, rfl⟩ := hrel
      by_cases hlt : k < n
      · obtain ⟨ad, x, A2, n2, c2, y, rfl, hx, hy, -, -, hbs, hn2, y0, y1, y2, y3⟩ := h.at_ hlt
        have hlt' : (k : Int) < (n : Int) := by omega
        have hbl := hbs.len
        by_cases hs : n2 ≤ 3000
        · have hs' : ¬ (3000 : Int) < (n2 : Int) := by omega
          have hal' : Hid ((l.take (k + 1)).all (fun x => decide (x.bytes.length ≤ 3000)) = true) := Lib.hid (by rw [take_snoc hy.out, List.all_append, hal.out]; simp; omega)
          clear hbl hs
          go_wp2_with fail
          exact ⟨⟨k + 1, by omega, by go_num, hal', trivial⟩, by simp [intOf]; omega⟩
        · have hs' : (3000 : Int) < (n2 : Int) := by omega
          have hR : Hid ((l.all fun x => decide (x.bytes.length ≤ 3000)) = false) := Lib.hid (by
            rw [List.all_eq_false]
            exact ⟨y, List.mem_of_getElem? hy.out, by simp; omega⟩)
          clear hbl hs
          go_wp2_with fail
          go_ret
          exact ⟨ret_bool hR.out.symm, Below.refl _ _⟩
      · obtain rfl : k = n := by omega
        have hR : Hid ((l.all fun x => decide (x.bytes.length ≤ 3000)) = true) := Lib.hid (by
          have := hal.out
          rwa [List.take_of_length_le (by rw [HLN.out]; exact Nat.le_refl _)] at this)
        go_wp2_with fail
        go_ret
        exact ⟨ret_bool hR.out.symm, Below.refl _ _⟩
  · have hn' : (40 : Int) < (n : Int) := by omega
    have hb : lightB l = false := by unfold lightB; rw [hln]; simp [hn]
    rw [hb]
    clear hb hln hn
    go_enter Try.func43, Try.ntmps43
    go_wp2_with fail
    go_ret
    exact ⟨rfl, Below.refl _ _⟩
end Go.Proofs.Ytaebmhbggbpnoaa
