/- Files and directories of layer 14 as plain data, their values and back. Plain definitions and theorems, no program; conditions: each theorem's premises. -/
import Derived.Test.YtaebmhbggbpnoaaGTlv27
import Derived.Test.YtaebmhbggbpnoaaGTlv18
namespace Go.Proofs.Ytaebmhbggbpnoaa
/-- A file: its size, the names of its chunks. -/
structure FV where
  size : Int
  hs : List (List UInt8)
/-- An entry: its name, whether it is a directory, its object's name. -/
structure EV where
  name : ByteArray
  dir : Bool
  h : List UInt8
deriving instance DecidableEq for FV
deriving instance DecidableEq for EV
def hashT (h : List UInt8) : TV := .mk 2 0 h []
def fileT (x : FV) : TV := .mk 3 0 [] [.mk 1 x.size.toNat [] [], .mk 3 0 [] (x.hs.map hashT)]
def entT (e : EV) : TV := .mk 3 0 [] [.mk 2 0 e.name.data.toList [], .mk 1 (if e.dir then 1 else 0) [] [], hashT e.h]
def dirT (l : List EV) : TV := .mk 3 0 [] (l.map entT)
def rightF (x : FV) : Bool := decide (0 ≤ x.size ∧ x.size ≤ 2000 ∧ (x.hs.length : Int) ≤ x.size ∧ (0 < x.hs.length ∨ x.size = 0))
/-- Have all names 32 bytes? -/
def FV.ok (x : FV) : Prop := ∀ h ∈ x.hs, h.length = 32
def EV.ok (e : EV) : Prop := e.h.length = 32
def asHash (v : TV) : Option (List UInt8) := if v.tag = 2 ∧ v.bytes.length = 32 then some v.bytes else none
def allT {α : Type} (f : TV → Option α) : List TV → Option (List α)
  | [] => some []
  | v :: l => match f v with
    | none => none
    | some x => (allT f l).map (x :: ·)
def TV.sub (v : TV) (i : Nat) : TV := v.list.getD i .zero
def fileShape (v : TV) : Prop := v.tag = 3 ∧ v.list.length = 2 ∧ (v.sub 0).tag = 1 ∧ (v.sub 0).num ≤ 2000 ∧ (v.sub 1).tag = 3
instance (v : TV) : Decidable (fileShape v) := by unfold fileShape; exact inferInstance
def asFileT (v : TV) : Option FV := if fileShape v then (allT asHash (v.sub 1).list).bind fun hs => if rightF ⟨((v.sub 0).num : Int), hs⟩ = true then some ⟨((v.sub 0).num : Int), hs⟩ else none else none
def entShape (v : TV) : Prop := v.tag = 3 ∧ v.list.length = 3 ∧ (v.sub 0).tag = 2 ∧ (v.sub 1).tag = 1 ∧ (v.sub 1).num ≤ 1
instance (v : TV) : Decidable (entShape v) := by unfold entShape; exact inferInstance
def asEntT (v : TV) : Option EV := if entShape v then (asHash (v.sub 2)).map fun h => ⟨⟨(v.sub 0).bytes.toArray⟩, decide ((v.sub 1).num = 1), h⟩ else none
section
variable {α : Type} {f : TV → Option α} {l : List TV} {k : Nat} {v : TV}
theorem allT_snoc (f : TV → Option α) (l : List TV) (v : TV) : allT f (l ++ [v]) = (allT f l).bind fun a => (f v).map fun b => a ++ [b] := by
  induction l with
  | nil => simp only [List.nil_append, allT]; cases f v <;> rfl
  | cons u l ih =>
    simp only [List.cons_append, allT, ih]
    cases f u with
    | none => rfl
    | some x => cases allT f l <;> cases f v <;> rfl
theorem allT_len {a : List α} (h : allT f l = some a) : a.length = l.length := by
  induction l generalizing a with
  | nil => simp [allT] at h; subst h; rfl
  | cons u l ih =>
    simp only [allT] at h
    cases hu : f u with
    | none => rw [hu] at h; cases h
    | some x =>
      rw [hu] at h
      simp only [Option.map_eq_some_iff] at h
      obtain ⟨b, hb, rfl⟩ := h
      simp [ih hb]
theorem allT_none (h : l[k]? = some v) (hv : f v = none) : allT f l = none := by
  induction l generalizing k with
  | nil => simp at h
  | cons u l ih =>
    cases k with
    | zero =>
      simp at h
      subst h
      simp [allT, hv]
    | succ k =>
      simp only [allT, ih (k := k) (by simpa using h)]
      cases f u <;> rfl
theorem allT_next {a : List α} {x : α} (ha : allT f (l.take k) = some a) (h : l[k]? = some v) (hv : f v = some x) : allT f (l.take (k + 1)) = some (a ++ [x]) := by
  have hk : k < l.length := (List.getElem?_eq_some_iff.1 h).1
  have e : l[k] = v := (List.getElem?_eq_some_iff.1 h).2
  rw [List.take_succ_eq_append_getElem hk, e, allT_snoc, ha, hv]
  rfl
theorem allT_map {β : Type} {g : β → TV} {f : TV → Option β} {l : List β} (h : ∀ x ∈ l, f (g x) = some x) : allT f (l.map g) = some l := by
  induction l with
  | nil => rfl
  | cons x l ih =>
    simp only [List.map_cons, allT, h x (by simp), ih (fun y hy => h y (by simp [hy])), Option.map_some]
theorem allT_back {g : α → TV} {a : List α} (h : allT f l = some a) (hg : ∀ v ∈ l, ∀ x, f v = some x → g x = v) : a.map g = l := by
  induction l generalizing a with
  | nil => simp [allT] at h; subst h; rfl
  | cons u l ih =>
    simp only [allT] at h
    cases hu : f u with
    | none => rw [hu] at h; cases h
    | some x =>
      rw [hu] at h
      simp only [Option.map_eq_some_iff] at h
      obtain ⟨b, hb, rfl⟩ := h
      rw [List.map_cons, ih hb (fun v hv => hg v (by simp [hv])), hg u (by simp) x hu]
theorem allT_all {a : List α} {p : α → Prop} (h : allT f l = some a) (hp : ∀ v x, f v = some x → p x) : ∀ x ∈ a, p x := by
  induction l generalizing a with
  | nil => simp [allT] at h; subst h; simp
  | cons u l ih =>
    simp only [allT] at h
    cases hu : f u with
    | none => rw [hu] at h; cases h
    | some x =>
      rw [hu] at h
      simp only [Option.map_eq_some_iff] at h
      obtain ⟨b, hb, rfl⟩ := h
      intro y hy
      rcases List.mem_cons.1 hy with e | e
      · subst e; exact hp u _ hu
      · exact ih hb y e
end
/-- A value that is as its form says, all through. -/
inductive Cl : TV → Prop
  | mk {v : TV} (h : onlyT v = true) (hl : ∀ u ∈ v.list, Cl u) : Cl v
theorem formsT_each {f : TV → Option (List UInt8)} {l : List TV} {y : List UInt8} (h : formsT f l = some y) : ∀ u ∈ l, ∃ x, f u = some x := by
  induction l generalizing y with
  | nil => simp
  | cons v l ih =>
    simp only [formsT] at h
    cases hv : f v with
    | none => rw [hv] at h; cases h
    | some x =>
      rw [hv] at h
      simp only [Option.map_eq_some_iff] at h
      obtain ⟨b, hb, rfl⟩ := h
      intro u hu
      rcases List.mem_cons.1 hu with e | e
      · subst e; exact ⟨x, hv⟩
      · exact ih hb u e
theorem cl_of (d : Nat) : ∀ (v : TV) (x : List UInt8), bodyT d v = some x → Cl v := by
  induction d with
  | zero =>
    intro v x h
    refine .mk (bodyT_only h).1 ?_
    have ho := (bodyT_only h).1
    obtain ⟨t, n, b, l⟩ := v
    unfold bodyT at h
    split at h
    · next h1 =>
      simp only [onlyT] at ho
      simp only [TV.list]
      split at ho
      · simp only [Bool.and_eq_true, List.isEmpty_iff] at ho; rw [ho.2]; simp
      · split at ho
        · simp only [Bool.and_eq_true, List.isEmpty_iff] at ho; rw [ho.2]; simp
        · split at ho
          · exact absurd (by assumption) h1.2
          · cases ho
    · cases h
  | succ d ih =>
    intro v x h
    refine .mk (bodyT_only h).1 ?_
    obtain ⟨t, n, b, l⟩ := v
    rw [bodyT_succ] at h
    split at h
    · rw [Option.bind_eq_some_iff] at h
      obtain ⟨y, hy, -⟩ := h
      intro u hu
      obtain ⟨z, hz⟩ := formsT_each hy u hu
      unfold putT at hz
      simp only [Option.map_eq_some_iff] at hz
      obtain ⟨a, ha, -⟩ := hz
      exact ih u a ha
    · cases h
theorem Cl.one {v : TV} (h : Cl v) (ht : v.tag = 1) : v = .mk 1 v.num [] [] := by
  cases h with
  | mk h hl =>
    obtain ⟨t, n, b, l⟩ := v
    simp only [TV.tag] at ht
    subst ht
    simp only [onlyT, if_true, Bool.and_eq_true, List.isEmpty_iff] at h
    obtain ⟨rfl, rfl⟩ := h
    rfl
theorem Cl.two {v : TV} (h : Cl v) (ht : v.tag = 2) : v = .mk 2 0 v.bytes [] := by
  cases h with
  | mk h hl =>
    obtain ⟨t, n, b, l⟩ := v
    simp only [TV.tag] at ht
    subst ht
    simp [onlyT] at h
    obtain ⟨rfl, rfl⟩ := h
    rfl
theorem Cl.three {v : TV} (h : Cl v) (ht : v.tag = 3) : v = .mk 3 0 [] v.list := by
  cases h with
  | mk h hl =>
    obtain ⟨t, n, b, l⟩ := v
    simp only [TV.tag] at ht
    subst ht
    simp [onlyT] at h
    obtain ⟨rfl, rfl⟩ := h
    rfl
theorem Cl.mem {v u : TV} (h : Cl v) (hu : u ∈ v.list) : Cl u := by
  cases h with
  | mk _ hl => exact hl u hu
theorem Cl.sub_ {v : TV} (h : Cl v) {i : Nat} (hi : i < v.list.length) : Cl (v.sub i) := by
  unfold TV.sub
  rw [List.getD_eq_getElem?_getD, List.getElem?_eq_getElem hi]
  exact h.mem (List.getElem_mem hi)
theorem asHash_hash {h : List UInt8} (hn : h.length = 32) : asHash (hashT h) = some h := by simp [asHash, hashT, TV.tag, TV.bytes, hn]
theorem asHash_back {v : TV} {h : List UInt8} (hv : asHash v = some h) (hc : Cl v) : hashT h = v := by
  unfold asHash at hv
  split at hv
  · next h1 =>
    injection hv with hv
    subst hv
    rw [hashT, ← hc.two h1.1]
  · cases hv
theorem asHash_len {v : TV} {h : List UInt8} (hv : asHash v = some h) : h.length = 32 := by
  unfold asHash at hv
  split at hv
  · next h1 => injection hv with hv; subst hv; exact h1.2
  · cases hv
theorem asEnt_ent {e : EV} (h : e.ok) : asEntT (entT e) = some e := by
  obtain ⟨nm, d, x⟩ := e
  have hx : x.length = 32 := h
  have hs : entShape (entT ⟨nm, d, x⟩) := by
    refine ⟨rfl, rfl, rfl, rfl, ?_⟩
    cases d
    · exact Nat.zero_le 1
    · exact Nat.le_refl 1
  rw [asEntT, if_pos hs]
  have e2 : (entT ⟨nm, d, x⟩).sub 2 = hashT x := rfl
  have e0 : ((entT ⟨nm, d, x⟩).sub 0).bytes = nm.data.toList := rfl
  have e1 : ((entT ⟨nm, d, x⟩).sub 1).num = if d then 1 else 0 := rfl
  rw [e2, e0, e1, asHash_hash hx, Option.map_some]
  cases d <;> simp
theorem asEnt_ok {v : TV} {e : EV} (h : asEntT v = some e) : e.ok := by
  unfold asEntT at h
  split at h
  · rw [Option.map_eq_some_iff] at h
    obtain ⟨x, hx, rfl⟩ := h
    exact asHash_len hx
  · cases h
theorem list_two (l : List TV) (h : l.length = 2) : l = [l.getD 0 .zero, l.getD 1 .zero] := by
  match l, h with
  | [a, b], _ => rfl
theorem list_three (l : List TV) (h : l.length = 3) : l = [l.getD 0 .zero, l.getD 1 .zero, l.getD 2 .zero] := by
  match l, h with
  | [a, b, c], _ => rfl
theorem asEnt_back {v : TV} {e : EV} (h : asEntT v = some e) (hc : Cl v) : entT e = v := by
  unfold asEntT at h
  split at h
  · next hs =>
    obtain ⟨h1, h2, h3, h4, h5⟩ := hs
    rw [Option.map_eq_some_iff] at h
    obtain ⟨x, hx, rfl⟩ := h
    have e0 := (hc.sub_ (i := 0) (by omega)).two h3
    have e1 := (hc.sub_ (i := 1) (by omega)).one h4
    have e2 := asHash_back hx (hc.sub_ (i := 2) (by omega))
    have ev := hc.three h1
    rw [list_three v.list h2] at ev
    refine Eq.trans ?_ ev.symm
    simp only [entT]
    rw [e2]
    have e1' : (TV.mk 1 (if decide ((v.sub 1).num = 1) = true then 1 else 0) [] []) = v.sub 1 := by
      refine Eq.trans ?_ e1.symm
      rcases Nat.lt_or_ge (v.sub 1).num 1 with h | h
      · rw [show (v.sub 1).num = 0 by omega]; rfl
      · rw [show (v.sub 1).num = 1 by omega]; rfl
    have e0' : (TV.mk 2 0 (v.sub 0).bytes []) = v.sub 0 := e0.symm
    show TV.mk 3 0 [] [TV.mk 2 0 (v.sub 0).bytes [], _, v.sub 2] = _
    rw [e1', e0']
    rfl
  · cases h
theorem asFile_file {x : FV} (h : x.ok) (hr : rightF x = true) : asFileT (fileT x) = some x := by
  have hr' := hr
  simp only [rightF, decide_eq_true_eq] at hr'
  obtain ⟨s, hs⟩ := x
  simp only at hr'
  have e0 : ((s.toNat : Nat) : Int) = s := by omega
  have hsh : fileShape (fileT ⟨s, hs⟩) := ⟨rfl, rfl, rfl, by simp only [fileT, TV.sub, TV.list, TV.num, List.getD_cons_zero]; omega, rfl⟩
  rw [asFileT, if_pos hsh]
  have e1 : ((fileT ⟨s, hs⟩).sub 1).list = hs.map hashT := rfl
  have e2 : ((fileT ⟨s, hs⟩).sub 0).num = s.toNat := rfl
  rw [e1, e2, allT_map (fun y hy => asHash_hash (h y hy)), Option.bind_some, e0, if_pos hr]
theorem asFile_ok {v : TV} {x : FV} (h : asFileT v = some x) : x.ok ∧ rightF x = true := by
  unfold asFileT at h
  split at h
  · rw [Option.bind_eq_some_iff] at h
    obtain ⟨hs, h1, h2⟩ := h
    split at h2
    · next hr =>
      injection h2 with h2
      subst h2
      have ha := allT_all (p := fun h => h.length = 32) h1 (fun v x hv => asHash_len hv)
      exact ⟨ha, hr⟩
    · cases h2
  · cases h
theorem asFile_back {v : TV} {x : FV} (h : asFileT v = some x) (hc : Cl v) : fileT x = v := by
  unfold asFileT at h
  split at h
  · next hs =>
    obtain ⟨h1, h2, h3, h4, h5⟩ := hs
    rw [Option.bind_eq_some_iff] at h
    obtain ⟨hs, h6, h7⟩ := h
    split at h7
    · injection h7 with h7
      subst h7
      have c1 := hc.sub_ (i := 1) (by omega)
      have e0 := (hc.sub_ (i := 0) (by omega)).one h3
      have e1 := c1.three h5
      have em := allT_back (g := hashT) h6 (fun u hu y hy => asHash_back hy (c1.mem hu))
      have ev := hc.three h1
      rw [list_two v.list h2] at ev
      refine Eq.trans ?_ ev.symm
      simp only [fileT, Int.toNat_natCast]
      rw [em, ← e1, ← e0]
      rfl
    · cases h7
  · cases h
end Go.Proofs.Ytaebmhbggbpnoaa
namespace Go.Proofs.Ytaebmhbggbpnoaa
def objF (v : TV) : Int := if putF v = 0 ∧ (putB v).length ≤ 5000 then 0 else 1
def objB (v : TV) : List UInt8 := if putF v = 0 ∧ (putB v).length ≤ 5000 then putB v else []
def objK (k : Int) (v : TV) : Int := if putF v = 0 ∧ (putB v).length ≤ 5000 then k else 0
theorem objF_ok {v : TV} (h : objF v = 0) : putF v = 0 ∧ (putB v).length ≤ 5000 := by
  unfold objF at h
  split at h
  · assumption
  · cases h
theorem objB_ok {v : TV} (h : objF v = 0) : objB v = putB v := by unfold objB; rw [if_pos (objF_ok h)]
theorem objK_ok {k : Int} {v : TV} (h : objF v = 0) : objK k v = k := by unfold objK; rw [if_pos (objF_ok h)]
theorem putF_ok {v : TV} (h : putF v = 0) : ∃ x, putT 8 v = some x ∧ putB v = x := by
  unfold putF at h
  unfold putB
  cases hv : putT 8 v with
  | none => rw [hv] at h; simp at h
  | some x => exact ⟨x, rfl, rfl⟩
theorem get_put {v : TV} (hk : OkT v) (h : putF v = 0) : getF (putB v) = 0 ∧ getV (putB v) = v := by
  obtain ⟨x, hx, e⟩ := putF_ok h
  unfold putT at hx
  simp only [Option.map_eq_some_iff] at hx
  obtain ⟨a, ha, rfl⟩ := hx
  have hr := read_put 8 v a [] hk ha
  rw [List.append_nil] at hr
  rw [e]
  unfold getF getV
  rw [hr]
  exact ⟨rfl, rfl⟩
theorem put_get {b : List UInt8} (h : getF b = 0) : OkT (getV b) ∧ Cl (getV b) ∧ putF (getV b) = 0 ∧ putB (getV b) = b := by
  unfold getF at h
  unfold getV
  cases hr : readT 8 b with
  | none => rw [hr] at h; simp at h
  | some p =>
    obtain ⟨v, r⟩ := p
    cases r with
    | nil =>
      obtain ⟨h1, x, h2, h3⟩ := put_read 8 b [] v hr
      have hp := putT_some h2
      refine ⟨h1, cl_of 8 v x h2, ?_, ?_⟩
      · unfold putF; simp [hp]
      · unfold putB
        simp only [hp, Option.getD_some]
        rw [h3, List.append_nil]
    | cons y ys => rw [hr] at h; simp at h
/-- Two values that are put have the same bytes only if they are the same. -/
theorem put_inj {u v : TV} (hu : OkT u) (hv : OkT v) (h1 : putF u = 0) (h2 : putF v = 0) (h : putB u = putB v) : u = v := by
  obtain ⟨x, hx, e1⟩ := putF_ok h1
  obtain ⟨y, hy, e2⟩ := putF_ok h2
  exact (put_prefix hu hv hx hy (z := []) (by rw [List.append_nil, ← e1, ← e2, h])).1
theorem okT_hash (h : List UInt8) : OkT (hashT h) := .mk (by decide) (by simp)
theorem okT_list {l : List TV} (h : ∀ v ∈ l, OkT v) : OkT (.mk 3 0 [] l) := .mk (by decide) (fun _ v hv => h v (List.mem_of_getElem? hv))
theorem okT_file {x : FV} (hr : rightF x = true) : OkT (fileT x) := by
  simp only [rightF, decide_eq_true_eq] at hr
  refine okT_list (fun v hv => ?_)
  simp only [List.mem_cons, List.not_mem_nil, or_false] at hv
  rcases hv with e | e
  · subst e; exact .mk (by omega) (by simp)
  · subst e
    refine okT_list (fun v hv => ?_)
    rw [List.mem_map] at hv
    obtain ⟨y, -, rfl⟩ := hv
    exact okT_hash y
theorem okT_ent (e : EV) : OkT (entT e) := by
  refine okT_list (fun v hv => ?_)
  simp only [List.mem_cons, List.not_mem_nil, or_false] at hv
  rcases hv with h | h | h
  · subst h; exact .mk (by decide) (by simp)
  · subst h; exact .mk (by split <;> decide) (by simp)
  · subst h; exact okT_hash _
theorem okT_dir (l : List EV) : OkT (dirT l) := by
  refine okT_list (fun v hv => ?_)
  rw [List.mem_map] at hv
  obtain ⟨y, -, rfl⟩ := hv
  exact okT_ent y
/-! ### Files -/
def pfF (x : FV) : Int := if rightF x = true then objF (fileT x) else 1
def pfB (x : FV) : List UInt8 := if rightF x = true then objB (fileT x) else []
def pfK (x : FV) : Int := if rightF x = true then objK 2 (fileT x) else 0
/-- The file of an object's kind and bytes, if it is one. -/
def gotF (k : Int) (b : List UInt8) : Option FV := if k = 2 ∧ getF b = 0 ∧ b.length ≤ 5000 then asFileT (getV b) else none
def gfF (k : Int) (b : List UInt8) : Int := if k = 2 then (if (gotF k b).isSome then 0 else 3) else 1
def gfX (k : Int) (b : List UInt8) : FV := (gotF k b).getD ⟨0, []⟩
theorem pfF_ok {x : FV} (h : pfF x = 0) : rightF x = true ∧ objF (fileT x) = 0 := by
  unfold pfF at h
  split at h
  · exact ⟨by assumption, h⟩
  · cases h
theorem pfB_ok {x : FV} (h : pfF x = 0) : pfB x = putB (fileT x) := by
  obtain ⟨h1, h2⟩ := pfF_ok h
  unfold pfB
  rw [if_pos h1, objB_ok h2]
theorem pfK_ok {x : FV} (h : pfF x = 0) : pfK x = 2 := by
  obtain ⟨h1, h2⟩ := pfF_ok h
  unfold pfK
  rw [if_pos h1, objK_ok h2]
theorem file_got {x : FV} (hx : x.ok) (h : pfF x = 0) : gotF (pfK x) (pfB x) = some x := by
  obtain ⟨h1, h2⟩ := pfF_ok h
  obtain ⟨h3, h4⟩ := objF_ok h2
  obtain ⟨h5, h6⟩ := get_put (okT_file h1) h3
  unfold gotF
  rw [pfK_ok h, pfB_ok h, if_pos ⟨rfl, h5, h4⟩, h6, asFile_file hx h1]
theorem file_apart {x y : FV} (hx : x.ok) (hy : y.ok) (h : pfF x = 0) (h' : pfF y = 0) : pfB x = pfB y ↔ x = y := by
  constructor
  · intro e
    have h1 := file_got hx h
    have h2 := file_got hy h'
    rw [pfK_ok h, e] at h1
    rw [pfK_ok h', h1] at h2
    injection h2
  · rintro rfl; rfl
theorem file_put {k : Int} {b : List UInt8} {x : FV} (h : gotF k b = some x) : pfF x = 0 ∧ pfK x = k ∧ pfB x = b ∧ x.ok := by
  unfold gotF at h
  split at h
  · next hc =>
    obtain ⟨rfl, hg, hl⟩ := hc
    obtain ⟨h1, h2, h3, h4⟩ := put_get hg
    have hb := asFile_back h h2
    obtain ⟨hok, hr⟩ := asFile_ok h
    have hf : pfF x = 0 := by
      unfold pfF
      rw [if_pos hr, hb]
      unfold objF
      rw [if_pos ⟨h3, by rw [h4]; exact hl⟩]
    refine ⟨hf, pfK_ok hf, ?_, hok⟩
    rw [pfB_ok hf, hb, h4]
  · cases h
theorem gfF_ok {k : Int} {b : List UInt8} (h : gfF k b = 0) : gotF k b = some (gfX k b) := by
  unfold gfF at h
  split at h
  · split at h
    · unfold gfX
      cases hg : gotF k b with
      | none => simp [hg] at *
      | some x => rfl
    · cases h
  · cases h
theorem gfF_some {k : Int} {b : List UInt8} {x : FV} (h : gotF k b = some x) : gfF k b = 0 ∧ gfX k b = x := by
  have hk : k = 2 := by
    unfold gotF at h
    split at h
    · next hc => exact hc.1
    · cases h
  unfold gfF gfX
  rw [if_pos hk, h]
  exact ⟨rfl, rfl⟩
/-! ### Directories -/
section
variable (part : ByteArray → Bool) (cmp : ByteArray → ByteArray → Int)
/-- Is an entry right behind those ahead of it? -/
def stepD (part : ByteArray → Bool) (cmp : ByteArray → ByteArray → Int) (l : List EV) (i : Nat) : Bool := match l[i]? with
  | none => true
  | some e => part e.name && (i == 0 || (match l[i - 1]? with
    | none => true
    | some d => decide (cmp d.name e.name < 0)))
def rightD (part : ByteArray → Bool) (cmp : ByteArray → ByteArray → Int) (l : List EV) : Bool := (List.range l.length).all (stepD part cmp l) && decide (l.length ≤ 60)
def pdF (l : List EV) : Int := if rightD part cmp l = true then objF (dirT l) else 1
def pdB (l : List EV) : List UInt8 := if rightD part cmp l = true then objB (dirT l) else []
def pdK (l : List EV) : Int := if rightD part cmp l = true then objK 3 (dirT l) else 0
def asDirT (v : TV) : Option (List EV) := if v.tag = 3 then (allT asEntT v.list).bind fun l => if rightD part cmp l = true then some l else none else none
def gotD (k : Int) (b : List UInt8) : Option (List EV) := if k = 3 ∧ getF b = 0 ∧ b.length ≤ 5000 then asDirT part cmp (getV b) else none
def gdF (k : Int) (b : List UInt8) : Int := if k = 3 then (if (gotD part cmp k b).isSome then 0 else 3) else 1
def gdX (k : Int) (b : List UInt8) : List EV := (gotD part cmp k b).getD []
variable {part cmp} {k : Int} {b : List UInt8} {l m : List EV}
theorem pdF_ok (h : pdF part cmp l = 0) : rightD part cmp l = true ∧ objF (dirT l) = 0 := by
  unfold pdF at h
  split at h
  · exact ⟨by assumption, h⟩
  · cases h
theorem pdB_ok (h : pdF part cmp l = 0) : pdB part cmp l = putB (dirT l) := by
  obtain ⟨h1, h2⟩ := pdF_ok h
  unfold pdB
  rw [if_pos h1, objB_ok h2]
theorem pdK_ok (h : pdF part cmp l = 0) : pdK part cmp l = 3 := by
  obtain ⟨h1, h2⟩ := pdF_ok h
  unfold pdK
  rw [if_pos h1, objK_ok h2]
theorem asDir_dir (hl : ∀ e ∈ l, e.ok) (hr : rightD part cmp l = true) : asDirT part cmp (dirT l) = some l := by
  unfold asDirT
  have h3 : (dirT l).tag = 3 := rfl
  rw [if_pos h3]
  have e : (dirT l).list = l.map entT := rfl
  rw [e, allT_map (fun y hy => asEnt_ent (hl y hy)), Option.bind_some, if_pos hr]
theorem asDir_ok {v : TV} (h : asDirT part cmp v = some l) : (∀ e ∈ l, e.ok) ∧ rightD part cmp l = true := by
  unfold asDirT at h
  split at h
  · rw [Option.bind_eq_some_iff] at h
    obtain ⟨hs, h1, h2⟩ := h
    split at h2
    · next hr =>
      injection h2 with h2
      subst h2
      exact ⟨allT_all (p := EV.ok) h1 (fun v x hv => asEnt_ok hv), hr⟩
    · cases h2
  · cases h
theorem asDir_back {v : TV} (h : asDirT part cmp v = some l) (hc : Cl v) : dirT l = v := by
  unfold asDirT at h
  split at h
  · next h3 =>
    rw [Option.bind_eq_some_iff] at h
    obtain ⟨hs, h1, h2⟩ := h
    split at h2
    · injection h2 with h2
      subst h2
      rw [dirT, allT_back (g := entT) h1 (fun u hu y hy => asEnt_back hy (hc.mem hu)), ← hc.three h3]
    · cases h2
  · cases h
theorem dir_got (hl : ∀ e ∈ l, e.ok) (h : pdF part cmp l = 0) : gotD part cmp (pdK part cmp l) (pdB part cmp l) = some l := by
  obtain ⟨h1, h2⟩ := pdF_ok h
  obtain ⟨h3, h4⟩ := objF_ok h2
  obtain ⟨h5, h6⟩ := get_put (okT_dir l) h3
  unfold gotD
  rw [pdK_ok h, pdB_ok h, if_pos ⟨rfl, h5, h4⟩, h6, asDir_dir hl h1]
theorem dir_apart (hl : ∀ e ∈ l, e.ok) (hm : ∀ e ∈ m, e.ok) (h : pdF part cmp l = 0) (h' : pdF part cmp m = 0) : pdB part cmp l = pdB part cmp m ↔ l = m := by
  constructor
  · intro e
    have h1 := dir_got hl h
    have h2 := dir_got hm h'
    rw [pdK_ok h, e] at h1
    rw [pdK_ok h', h1] at h2
    injection h2
  · rintro rfl; rfl
theorem dir_put (h : gotD part cmp k b = some l) : pdF part cmp l = 0 ∧ pdK part cmp l = k ∧ pdB part cmp l = b ∧ ∀ e ∈ l, e.ok := by
  unfold gotD at h
  split at h
  · next hc =>
    obtain ⟨rfl, hg, hl⟩ := hc
    obtain ⟨h1, h2, h3, h4⟩ := put_get hg
    have hb := asDir_back h h2
    obtain ⟨hok, hr⟩ := asDir_ok h
    have hf : pdF part cmp l = 0 := by
      unfold pdF
      rw [if_pos hr, hb]
      unfold objF
      rw [if_pos ⟨h3, by rw [h4]; exact hl⟩]
    refine ⟨hf, pdK_ok hf, ?_, hok⟩
    rw [pdB_ok hf, hb, h4]
  · cases h
theorem gdF_ok (h : gdF part cmp k b = 0) : gotD part cmp k b = some (gdX part cmp k b) := by
  unfold gdF at h
  split at h
  · split at h
    · unfold gdX
      cases hg : gotD part cmp k b with
      | none => simp [hg] at *
      | some x => rfl
    · cases h
  · cases h
theorem gdF_some (h : gotD part cmp k b = some l) : gdF part cmp k b = 0 ∧ gdX part cmp k b = l := by
  have hk : k = 3 := by
    unfold gotD at h
    split at h
    · next hc => exact hc.1
    · cases h
  unfold gdF gdX
  rw [if_pos hk, h]
  exact ⟨rfl, rfl⟩
end
end Go.Proofs.Ytaebmhbggbpnoaa
