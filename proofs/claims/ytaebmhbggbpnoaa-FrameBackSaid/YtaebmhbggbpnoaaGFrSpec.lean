/- Frames of layer 7 as plain data: a record's form, its frame, what any bytes begin with. Plain definitions and theorems, no program; conditions: each theorem's premises. -/
import Derived.Test.YtaebmhbggbpnoaaGTlv30
import Derived.Test.YtaebmhbggbpnoaaGCrc8
namespace Go.Proofs.Ytaebmhbggbpnoaa
/-- A record's value. -/
def recT (k : Nat) (nm bs : List UInt8) : TV := .mk 3 0 [] [.mk 1 k [] [], .mk 2 0 nm [], .mk 2 0 bs []]
/-- What is in its form. -/
def recX (k : Nat) (nm bs : List UInt8) : List UInt8 := (headT 1 (numE k) ++ numE k) ++ ((headT 2 nm ++ nm) ++ (headT 2 bs ++ bs))
def recE (k : Nat) (nm bs : List UInt8) : List UInt8 := headT 3 (recX k nm bs) ++ recX k nm bs
section
variable {k : Nat} {nm bs : List UInt8}
theorem headT_len (t : Int) (x : List UInt8) : (headT t x).length = 3 := rfl
theorem numE_small (h : k ≤ 9) : (numE k).length ≤ 8 := numE_len8 k (by omega)
theorem recX_len (hn : nm.length = 32) : (recX k nm bs).length = (numE k).length + bs.length + 41 := by
  simp only [recX, List.length_append, headT_len, hn]
  omega
theorem rec_body (hk : k ≤ 9) (hn : nm.length = 32) (hb : bs.length ≤ 5100) : bodyT 8 (recT k nm bs) = some (recX k nm bs) := by
  have h8 := numE_small hk
  have hx := recX_len (k := k) (nm := nm) (bs := bs) hn
  have f1 : bodyT 7 (.mk 1 k [] []) = some (numE k) := by
    rw [bodyT_succ, if_pos (by simp [onlyT])]
    simp [formsT, fitT]
    omega
  have f2 : ∀ x : List UInt8, x.length ≤ 65535 → bodyT 7 (.mk 2 0 x []) = some x := fun x h => by
    rw [bodyT_succ, if_pos (by simp [onlyT])]
    simp [formsT, fitT, numE_zero]
    omega
  have p1 := putT_some f1
  have p2 := putT_some (f2 nm (by omega))
  have p3 := putT_some (f2 bs (by omega))
  have hf : formsT (putT 7) [.mk 1 k [] [], .mk 2 0 nm [], .mk 2 0 bs []] = some (recX k nm bs) := by
    simp only [formsT, p1, p2, p3, Option.map_some, recX, TV.tag, List.append_nil]
  rw [recT, bodyT_succ, if_pos (by simp [onlyT]), hf, Option.bind_some, numE_zero, List.nil_append, List.nil_append]
  unfold fitT
  rw [if_pos (by omega)]
theorem rec_put (hk : k ≤ 9) (hn : nm.length = 32) (hb : bs.length ≤ 5100) : putT 8 (recT k nm bs) = some (recE k nm bs) := putT_some (rec_body hk hn hb)
theorem recE_len (hn : nm.length = 32) : (recE k nm bs).length = (numE k).length + bs.length + 44 := by
  rw [recE, List.length_append, headT_len, recX_len hn]
  omega
theorem rec_size (hk : k ≤ 9) (hn : nm.length = 32) (hb : bs.length ≤ 5100) : sizeT (recT k nm bs) = (recE k nm bs).length := by
  unfold sizeT
  rw [rec_body hk hn hb]
  simp only [recE, List.length_append, headT_len]
  omega
theorem rec_ok (hk : k ≤ 9) : OkT (recT k nm bs) := .mk (by decide) (fun i v h => by
  match i with
  | 0 => simp at h; subst h; exact .mk (by omega) (by simp)
  | 1 => simp at h; subst h; exact .mk (by decide) (by simp)
  | 2 => simp at h; subst h; exact .mk (by decide) (by simp)
  | i + 3 => simp at h)
theorem rec_read (hk : k ≤ 9) (hn : nm.length = 32) (hb : bs.length ≤ 5100) (rest : List UInt8) : readT 8 (recE k nm bs ++ rest) = some (recT k nm bs, rest) := read_put 8 _ _ rest (rec_ok hk) (rec_body hk hn hb)
/-- Its frame. -/
def frE (k : Nat) (nm bs : List UInt8) : List UInt8 := Crc.seal_ (recE k nm bs)
end
/-- Kind, name, body of a record that bytes begin with, and how many bytes; or what is wrong. -/
def recX_ (v : TV) : TV := v.list.getD 0 .zero
def recY_ (v : TV) : TV := v.list.getD 1 .zero
def recZ_ (v : TV) : TV := v.list.getD 2 .zero
/-- Has a value a record's form? -/
def recIs (v : TV) : Prop := (v.tag = 3 ∧ v.list.length = 3) ∧ ((recX_ v).tag = 1 ∧ (recX_ v).num ≤ 9 ∧ (recY_ v).tag = 2 ∧ (recY_ v).bytes.length = 32 ∧ (recZ_ v).tag = 2) ∧ 0 < (recX_ v).num ∧ (recZ_ v).bytes.length ≤ 5000
instance (v : TV) : Decidable (recIs v) := by unfold recIs; infer_instance
def recOf (v : TV) : Option (Nat × List UInt8 × List UInt8) := if recIs v then some ((recX_ v).num, (recY_ v).bytes, (recZ_ v).bytes) else none
inductive FrR where
  | bad (f : Int)
  | good (k : Nat) (nm bs : List UInt8) (n : Nat)
def frT (b : List UInt8) : FrR := match readT 8 b with
  | none => .bad 16
  | some (v, rest) => if rest.length < 4 then .bad 16 else
    if openF (b.take (b.length - rest.length + 4)) ≠ 0 then .bad (openF (b.take (b.length - rest.length + 4))) else
    match recOf v with
    | none => .bad 3
    | some (k, nm, bs) => .good k nm bs (b.length - rest.length + 4)
end Go.Proofs.Ytaebmhbggbpnoaa
namespace Go.Proofs.Ytaebmhbggbpnoaa
theorem take_open {bs rest : List UInt8} {v : TV} (hr : readT 8 bs = some (v, rest)) (h4 : 4 ≤ rest.length) (hF : openF (bs.take (bs.length - rest.length + 4)) = 0) : readT 8 (openB (bs.take (bs.length - rest.length + 4))) = some (v, []) := by
  obtain ⟨hok, x, hx, e⟩ := put_read 8 bs rest v hr
  obtain ⟨E, hE⟩ : ∃ E, E = headT v.tag x ++ x := ⟨_, rfl⟩
  rw [← hE] at e
  have hl : bs.length = E.length + rest.length := by rw [e, List.length_append]
  have hN : bs.length - rest.length + 4 = E.length + 4 := by omega
  rw [hN] at hF ⊢
  have ht : bs.take (E.length + 4) = E ++ rest.take 4 := by rw [e, List.take_append, List.take_of_length_le (Nat.le_add_right _ _)]; simp
  rw [ht] at hF ⊢
  have hlen : (E ++ rest.take 4).length = E.length + 4 := by rw [List.length_append, List.length_take]; omega
  have hp : (E ++ rest.take 4).take ((E ++ rest.take 4).length - 4) = E := by rw [hlen, Nat.add_sub_cancel]; simp
  unfold openF at hF
  unfold openB
  rw [hp] at hF ⊢
  rw [if_neg (by omega)] at hF ⊢
  by_cases hs : Crc.seal_ E = E ++ rest.take 4
  · rw [if_pos hs]
    have h := read_put 8 v x [] hok hx
    rw [← hE, List.append_nil] at h
    exact h
  · rw [if_neg hs] at hF
    cases hF
end Go.Proofs.Ytaebmhbggbpnoaa
