/- Values of layer 1 as plain data, and what reading and writing them come to. Plain definitions, no program; no conditions. -/
namespace Go.Proofs.Ytaebmhbggbpnoaa

/-- A value: its tag, number, bytes, list. -/
inductive TV where
  | mk (tag : Int) (n : Nat) (b : List UInt8) (l : List TV)
def TV.tag : TV → Int | .mk t _ _ _ => t
def TV.num : TV → Nat | .mk _ n _ _ => n
def TV.bytes : TV → List UInt8 | .mk _ _ b _ => b
def TV.list : TV → List TV | .mk _ _ _ l => l
def TV.zero : TV := .mk 0 0 [] []

/-- Bytes as a number, the highest first. -/
def bigE (bs : List UInt8) : Nat := bs.foldl (fun a c => a * 256 + c.toNat) 0
theorem bigE_snoc (bs : List UInt8) (c : UInt8) : bigE (bs ++ [c]) = bigE bs * 256 + c.toNat := by simp [bigE]
theorem bigE_lt (bs : List UInt8) : bigE bs < 256 ^ bs.length := by
  suffices h : ∀ (l : List UInt8) (a k : Nat), a < 256 ^ k → l.foldl (fun a c => a * 256 + c.toNat) a < 256 ^ (k + l.length) by
    have := h bs 0 0 (by simp)
    simpa [bigE] using this
  intro l
  induction l with
  | nil => intro a k h; simpa using h
  | cons c l ih =>
    intro a k h
    have hc : c.toNat < 256 := c.toNat_lt
    have := ih (a * 256 + c.toNat) (k + 1) (by rw [Nat.pow_succ]; omega)
    simpa [Nat.add_assoc, Nat.add_comm 1] using this

/-- All values that stand in bytes, one behind the other. -/
def readAll (rd : List UInt8 → Option (TV × List UInt8)) (b : List UInt8) : Option (List TV) :=
  match b with
  | [] => some []
  | x :: xs => match rd (x :: xs) with
    | none => none
    | some (v, rest) => if rest.length < (x :: xs).length then (readAll rd rest).map (v :: ·) else none
termination_by b.length

/-- The head of a form: its tag, what is in it, what is behind. -/
def splitT (b : List UInt8) : Option (Nat × List UInt8 × List UInt8) :=
  match b with
  | t :: h :: l :: rest => if h.toNat * 256 + l.toNat ≤ rest.length then some (t.toNat, rest.take (h.toNat * 256 + l.toNat), rest.drop (h.toNat * 256 + l.toNat)) else none
  | _ => none
/-- The value that bytes begin with, and what is behind it. -/
def readT : Nat → List UInt8 → Option (TV × List UInt8)
  | deep, b => match splitT b with
    | none => none
    | some (t, inn, rest) =>
      if t = 1 then (if inn.length ≤ 8 ∧ (inn = [] ∨ inn.head? ≠ some 0) then some (.mk 1 (bigE inn) [] [], rest) else none)
      else if t = 2 then some (.mk 2 0 inn [], rest)
      else if t = 3 then (match deep with
        | 0 => none
        | d + 1 => (readAll (readT d) inn).map fun l => (.mk 3 0 [] l, rest))
      else none

end Go.Proofs.Ytaebmhbggbpnoaa
