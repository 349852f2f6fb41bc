/- Frames one behind the other, and cut off: what a scan finds. Plain theorems, no program; conditions: each theorem's premises. -/
import Derived.Test.YtaebmhbggbpnoaaGFrT1
namespace Go.Proofs.Ytaebmhbggbpnoaa
/-- A right record's frame. -/
def frOf (r : Rd) : List UInt8 := frE r.k.toNat r.nm r.bs
def okR (r : Rd) : Prop := 0 < r.k ∧ r.k ≤ 9 ∧ r.bs.length ≤ 5000
def flatR (ws : List Rd) : List UInt8 := ws.flatMap frOf
theorem frOf_len (r : Rd) : 48 ≤ (frOf r).length := by
  unfold frOf
  rw [frE_len, recE_len r.hn]
  omega
theorem frOf_le {r : Rd} (h : okR r) : (frOf r).length ≤ 5056 := by
  unfold frOf
  rw [frE_len, recE_len r.hn]
  have := numE_small (k := r.k.toNat) (by have := h.2.1; omega)
  have := h.2.2
  omega
theorem flatR_snoc (ws : List Rd) (r : Rd) : flatR (ws ++ [r]) = flatR ws ++ frOf r := by simp [flatR]
theorem frT_of {r : Rd} (h : okR r) (rest : List UInt8) : frT (frOf r ++ rest) = .good r.k.toNat r.nm r.bs (frOf r).length :=
  frT_put (by have := h.1; omega) (by have := h.2.1; omega) r.hn h.2.2
/-- A frame that is cut off is none. -/
theorem frT_cut {r : Rd} (h : okR r) {j : Nat} (hj : j < (frOf r).length) : frT ((frOf r).take j) = .bad 16 := by
  have hk : r.k.toNat ≤ 9 := by have := h.2.1; omega
  have hb : r.bs.length ≤ 5100 := by have := h.2.2; omega
  have hp := rec_put (k := r.k.toNat) hk r.hn hb
  unfold frT
  cases hr : readT 8 ((frOf r).take j) with
  | none => rfl
  | some p =>
    obtain ⟨v, rest⟩ := p
    simp only
    obtain ⟨hok, x, hx, e⟩ := put_read 8 _ rest v hr
    have hfull : readT 8 (frOf r) = some (v, rest ++ (frOf r).drop j) := by
      have h1 : frOf r = headT v.tag x ++ x ++ (rest ++ (frOf r).drop j) := by
        rw [← List.append_assoc, ← e, List.take_append_drop]
      have h2 := read_put 8 v x (rest ++ (frOf r).drop j) hok hx
      rw [← h1] at h2
      exact h2
    have h3 : readT 8 (frOf r) = some (recT r.k.toNat r.nm r.bs, Crc.le32 (Crc.sum (recE r.k.toNat r.nm r.bs))) := by
      have h4 := rec_read (k := r.k.toNat) hk r.hn hb (Crc.le32 (Crc.sum (recE r.k.toNat r.nm r.bs)))
      exact h4
    rw [hfull] at h3
    injection h3 with h3
    injection h3 with _ h3
    have h5 := congrArg List.length h3
    rw [List.length_append, List.length_drop, le32_len] at h5
    rw [if_pos (by omega)]
/-- The records placed one behind the other. -/
def pls : List Rd → Nat → List Pd
  | [], _ => []
  | r :: ws, z => ⟨z, (frOf r).length, r.k.toNat, r.nm, r.bs⟩ :: pls ws (z + (frOf r).length)
def gts : List Rd → Nat → List (Nat × FrR)
  | [], _ => []
  | r :: ws, z => (z, .good r.k.toNat r.nm r.bs (frOf r).length) :: gts ws (z + (frOf r).length)
theorem gts_goods : ∀ (ws : List Rd) (z : Nat) (t : List (Nat × FrR)), goods t = [] → goods (gts ws z ++ t) = pls ws z ∧ faultOf (gts ws z ++ t) = faultOf t
  | [], _, _, h => ⟨h, rfl⟩
  | r :: ws, z, t, h => by
    have ih := gts_goods ws (z + (frOf r).length) t h
    exact ⟨by simp [gts, goods, pls, ih.1], by simp [gts, faultOf, ih.2]⟩
theorem turns_frames : ∀ (ws : List Rd) (pre t : List UInt8) (fuel : Nat), (∀ r ∈ ws, okR r) → (t = [] ∨ frT t = .bad 16) → ws.length + 1 ≤ fuel → turnsF fuel (pre ++ (flatR ws ++ t)) pre.length = gts ws pre.length ++ (if t = [] then [] else [(pre.length + (flatR ws).length, .bad 16)])
  | [], pre, t, fuel + 1, _, ht, _ => by
    simp only [flatR, List.flatMap_nil, List.nil_append, gts, List.length_nil, Nat.add_zero]
    rw [turnsF]
    by_cases h0 : t = []
    · subst h0
      rw [if_neg (by simp), if_pos rfl]
    · have hp : 0 < t.length := List.length_pos_iff.2 h0
      rw [if_pos (by rw [List.length_append]; omega), List.drop_left, if_neg h0, ht.resolve_left h0]
  | r :: ws, pre, t, fuel + 1, hw, ht, hf => by
    have hr := hw r (List.mem_cons_self)
    have h48 := frOf_len r
    have e : pre ++ (flatR (r :: ws) ++ t) = (pre ++ frOf r) ++ (flatR ws ++ t) := by simp [flatR]
    have ih := turns_frames ws (pre ++ frOf r) t fuel (fun r hr => hw r (List.mem_cons_of_mem _ hr)) ht (by simp at hf; omega)
    rw [turnsF, if_pos (by rw [e, List.length_append, List.length_append]; omega)]
    rw [show (pre ++ (flatR (r :: ws) ++ t)).drop pre.length = frOf r ++ (flatR ws ++ t) by rw [List.drop_left]; simp [flatR]]
    rw [frT_of hr]
    simp only
    rw [e]
    rw [show pre.length + (frOf r).length = (pre ++ frOf r).length by rw [List.length_append], ih]
    simp only [gts, List.length_append, List.cons_append, flatR, List.flatMap_cons, Nat.add_assoc]
/-- What a scan of frames finds, with something behind them that is none. -/
theorem scan_frames (ws : List Rd) (t : List UInt8) (hw : ∀ r ∈ ws, okR r) (ht : t = [] ∨ frT t = .bad 16) :
    goods (turnsF ((flatR ws ++ t).length + 1) (flatR ws ++ t) 0) = pls ws 0 ∧ faultOf (turnsF ((flatR ws ++ t).length + 1) (flatR ws ++ t) 0) = if t = [] then 0 else 16 := by
  have hl : ws.length ≤ (flatR ws).length := by
    induction ws with
    | nil => simp
    | cons r ws ih =>
      have := ih (fun r hr => hw r (List.mem_cons_of_mem _ hr))
      have := frOf_len r
      simp only [flatR, List.flatMap_cons, List.length_cons, List.length_append] at *
      omega
  have h := turns_frames ws [] t ((flatR ws ++ t).length + 1) hw ht (by rw [List.length_append]; omega)
  simp only [List.nil_append, List.length_nil] at h
  rw [h]
  have h2 := gts_goods ws 0 (if t = [] then [] else [(0 + (flatR ws).length, .bad 16)]) (by split <;> rfl)
  refine ⟨h2.1, h2.2.trans ?_⟩
  split <;> rfl
theorem pls_len : ∀ (ws : List Rd) (z : Nat), (pls ws z).length = ws.length
  | [], _ => rfl
  | r :: ws, z => by simp [pls, pls_len ws]
theorem pls_at : ∀ {ws : List Rd} {z i : Nat} {r : Rd}, ws[i]? = some r → (pls ws z)[i]? = some ⟨z + (flatR (ws.take i)).length, (frOf r).length, r.k.toNat, r.nm, r.bs⟩
  | q :: ws, z, 0, r, h => by
    simp at h
    subst h
    simp [pls, flatR]
  | q :: ws, z, i + 1, r, h => by
    have ih := pls_at (ws := ws) (z := z + (frOf q).length) (i := i) (r := r) (by simpa using h)
    simp only [pls, List.getElem?_cons_succ, ih, List.take_succ_cons, flatR, List.flatMap_cons, List.length_append, Nat.add_assoc]
theorem pls_end (ws : List Rd) : endOf (pls ws 0) = (flatR ws).length := by
  rcases List.eq_nil_or_concat ws with h | ⟨l, r, h⟩
  · subst h; rfl
  · rw [List.concat_eq_append] at h
    subst h
    have hq := pls_at (ws := l ++ [r]) (z := 0) (i := l.length) (r := r) (by simp)
    unfold endOf
    rw [List.getLast?_eq_getElem?, pls_len]
    simp only [List.length_append, List.length_cons, List.length_nil, Nat.add_sub_cancel, Nat.zero_add] at hq ⊢
    rw [hq]
    simp [flatR]
end Go.Proofs.Ytaebmhbggbpnoaa
