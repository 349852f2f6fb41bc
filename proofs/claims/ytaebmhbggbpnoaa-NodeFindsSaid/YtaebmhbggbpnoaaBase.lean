/- Words for memory: slices that read as lists, bytes, appends onto rows of the call's own. Plain theorems; conditions: none beyond each theorem's premises. -/
import Derived.Test.YtaebmhbggbpnoaaRows
import Derived.WalkKit
import Derived.WalkSpells
import Derived.WalkLawsBesides
import Derived.BigQuiet
import Derived.Deep.QuietTactic
import Derived.Deep.RegionHeld3
import Derived.Deep.Draws
import Derived.Deep.AppendLies
import Derived.Deep.LoopGhost
import Derived.Maps.AppendAt
import Derived.Lib.Hide
import Derived.Lib.SliceRun
namespace Go.Proofs.Ytaebmhbggbpnoaa
open Go.RowKit

/-! ### 1. Slices that read as lists -/
theorem block_of_add (a : Addr) (n : Nat) : (a.add n).block = a.block := by unfold Addr.add; split <;> rfl
theorem add_of_add (a : Addr) (i j : Nat) : (a.add i).add j = a.add (i + j) := by
  unfold Addr.add
  by_cases hi : i = 0 <;> by_cases hj : j = 0 <;> simp [hi, hj, Nat.add_assoc]
theorem add_plain (g j : Nat) : (⟨g, 0, none⟩ : Addr).add j = ⟨g, j, none⟩ := by unfold Addr.add; split <;> simp_all

/-- The slice value '.slice A n c' holds the cells xs ('size' cells an element); its block is one of S. -/
def Reads (w : World) (S : Nat → Prop) (size : Nat) (A : Option Addr) (n : Nat) (xs : List Value) : Prop :=
  xs.length = n * size ∧ (0 < n → ∃ ad, A = some ad ∧ S ad.block ∧ ∀ j u, xs[j]? = some u → w.cell? (ad.add j) = some u)
def AnyB : Nat → Prop := fun _ => True
def Lo (B : Nat) : Nat → Prop := fun k => k < B

section
variable {w w' : World} {S S' : Nat → Prop} {B size n : Nat} {A : Option Addr} {xs : List Value}
theorem Reads.none_ : Reads w S size A 0 [] := ⟨by simp, fun h => absurd h (by omega)⟩
theorem Reads.keep (h : Reads w S size A n xs) (hs : 0 < size) (hk : ∀ p : Addr, S p.block → p.block < w.heap.size → w'.cell? p = w.cell? p) (hS : ∀ k, S k → k < w.heap.size → S' k) : Reads w' S' size A n xs :=
  ⟨h.1, fun hn => by
    obtain ⟨ad, e, hb, hc⟩ := h.2 hn
    have hpos : 0 < xs.length := by rw [h.1]; exact Nat.mul_pos hn hs
    have hlt : ad.block < w.heap.size := by
      have := World.block_lt_of_cell? w _ (hc 0 _ (List.getElem?_eq_getElem hpos))
      rwa [block_of_add] at this
    refine ⟨ad, e, hS _ hb hlt, fun j u hu => (hk _ (by rw [block_of_add]; exact hb) (by rw [block_of_add]; exact hlt)).trans (hc j u hu)⟩⟩
theorem Reads.mono (h : Reads w S size A n xs) (hS : ∀ k, S k → S' k) : Reads w S' size A n xs :=
  ⟨h.1, fun hn => by
    obtain ⟨ad, e, hb, hc⟩ := h.2 hn
    exact ⟨ad, e, hS _ hb, hc⟩⟩
theorem Reads.any (h : Reads w S size A n xs) : Reads w AnyB size A n xs := h.mono fun _ _ => trivial
theorem Reads.old (h : Reads w S size A n xs) (hs : 0 < size) : Reads w (Lo w.heap.size) size A n xs := h.keep hs (fun _ _ _ => rfl) (fun _ _ h => h)
theorem Reads.after (h : Reads w S size A n xs) (hs : 0 < size) (hb : Below w.heap.size w w') : Reads w' S size A n xs := h.keep hs (fun _ _ hp => hb.cell hp) (fun _ h _ => h)
theorem Reads.below (h : Reads w (Lo B) size A n xs) (hb : Below B w w') : Reads w' (Lo B) size A n xs :=
  ⟨h.1, fun hn => by
    obtain ⟨ad, e, hl, hc⟩ := h.2 hn
    exact ⟨ad, e, hl, fun j u hu => (hb.cell (by rw [block_of_add]; exact hl)).trans (hc j u hu)⟩⟩
theorem Reads.drewN (h : Reads w S size A n xs) (k : Nat) : Reads (w.drewN k) S size A n xs := h
theorem Reads.drop (h : Reads w S size A n xs) {k cap : Nat} (hk : k ≤ n) (hc : n ≤ cap) :
    Reads w S size (if cap = k then A else A.map (·.add (k * size))) (n - k) (xs.drop (k * size)) := by
  refine ⟨by rw [List.length_drop, h.1, Nat.sub_mul], fun hn => ?_⟩
  obtain ⟨ad, rfl, hb, hcell⟩ := h.2 (by omega)
  rw [if_neg (by omega)]
  refine ⟨ad.add (k * size), rfl, by rw [block_of_add]; exact hb, fun j u hu => ?_⟩
  rw [add_of_add]
  exact hcell _ u (by rw [← hu, List.getElem?_drop])
theorem Reads.take (h : Reads w S size A n xs) {k : Nat} (hk : k ≤ n) : Reads w S size A k (xs.take (k * size)) := by
  refine ⟨?_, fun hn => ?_⟩
  · rw [List.length_take, h.1]
    exact Nat.min_eq_left (Nat.mul_le_mul_right _ hk)
  · obtain ⟨ad, rfl, hb, hcell⟩ := h.2 (by omega)
    refine ⟨ad, rfl, hb, fun j u hu => hcell j u ?_⟩
    rw [List.getElem?_take] at hu
    split at hu
    · exact hu
    · cases hu
theorem Reads.of_own {base : Nat} {e : TypeId} {c : Nat} (h : w.ownsRow base e size (.slice A n c) n xs) : Reads w (fun k => base ≤ k) size A n xs := by
  refine ⟨h.1, fun hn => ?_⟩
  obtain ⟨g, cap, hv, hbg, hlt⟩ := h.form hn
  have hA : A = some ⟨g, 0, none⟩ := by injection hv
  subst hA
  exact ⟨_, rfl, hbg, h.cells (g := g) rfl⟩
end

/-! ### 1b. A block that is known whole -/
def Blk (w : World) (g : Nat) (t : TypeId) (cs : Array Value) : Prop := w.heap[g]? = some (.cells cs t (0, 0))
section
variable {w w' : World} {g : Nat} {t : TypeId} {cs : Array Value}
theorem Blk.lt (h : Blk w g t cs) : g < w.heap.size := by
  rcases Nat.lt_or_ge g w.heap.size with hlt | hge
  · exact hlt
  · unfold Blk at h; rw [Array.getElem?_eq_none hge] at h; cases h
theorem Blk.cell (h : Blk w g t cs) (i : Nat) : w.cell? ⟨g, i, none⟩ = cs[i]? := cell_of_row w g i cs t (0, 0) h
theorem Blk.frozen (h : Blk w g t cs) (i : Nat) : w.frozen? ⟨g, i, none⟩ = false := by
  unfold Blk at h
  simp [World.frozen?, h]
theorem Blk.new (w : World) (t : TypeId) (cs : Array Value) : Blk (w.alloc (.cells cs t)) w.heap.size t cs := heap_alloc_new w _
theorem Blk.drew (h : Blk w g t cs) : Blk w.drew g t cs := h
theorem Blk.drewN (h : Blk w g t cs) (n : Nat) : Blk (w.drewN n) g t cs := h
theorem Blk.alloc (h : Blk w g t cs) (o : Obj) : Blk (w.alloc o) g t cs := (Below.heap_alloc w o g h.lt).trans h
theorem Blk.set_ (h : Blk w g t cs) (i : Nat) (u : Value) : Blk (w.setCell ⟨g, i, none⟩ u) g t (cs.setIfInBounds i u) := by
  unfold Blk at h ⊢
  simp [World.setCell, Array.getElem?_modify, h]
theorem Blk.far (h : Blk w g t cs) {p : Addr} (hp : g ≠ p.block) (u : Value) : Blk (w.setCell p u) g t cs := (Below.heap_setCell w p u g hp).trans h
theorem Blk.below {B : Nat} (h : Blk w g t cs) (hb : Below B w w') (hg : g < B) : Blk w' g t cs := (hb.block g hg).trans h
theorem Blk.after (h : Blk w g t cs) (hb : Below w.heap.size w w') : Blk w' g t cs := h.below hb h.lt
theorem Blk.grown {row : Option Nat} (h : Blk w g t cs) (hb : w.grownBy w' row) (hg : some g ≠ row) : Blk w' g t cs := (hb.block g h.lt hg).trans h
end
/-- The cells of a block of four, as the walk asks for them. -/
theorem Blk.four {w : World} {g : Nat} {t : TypeId} {a b c d : Value} (h : Blk w g t #[a, b, c, d]) :
    w.cell? ⟨g, 0, none⟩ = some a ∧ w.cell? ⟨g, 1, none⟩ = some b ∧ w.cell? ⟨g, 2, none⟩ = some c ∧ w.cell? ⟨g, 3, none⟩ = some d ∧
    w.frozen? ⟨g, 0, none⟩ = false ∧ w.frozen? ⟨g, 1, none⟩ = false ∧ w.frozen? ⟨g, 2, none⟩ = false ∧ w.frozen? ⟨g, 3, none⟩ = false ∧ g < w.heap.size :=
  ⟨h.cell 0, h.cell 1, h.cell 2, h.cell 3, h.frozen 0, h.frozen 1, h.frozen 2, h.frozen 3, h.lt⟩
theorem Blk.one {w : World} {g : Nat} {t : TypeId} {a : Value} (h : Blk w g t #[a]) : w.cell? ⟨g, 0, none⟩ = some a ∧ w.frozen? ⟨g, 0, none⟩ = false ∧ g < w.heap.size := ⟨h.cell 0, h.frozen 0, h.lt⟩
/-- An address in another block. -/
theorem far_of {ad : Addr} {g : Nat} (h : ad.block ≠ g) : (∀ i j, ¬ (⟨g, i, none⟩ : Addr) = ad.add j) ∧ (∀ i, ¬ (⟨g, i, none⟩ : Addr) = ad) ∧ ¬ g = ad.block :=
  ⟨fun i j e => h (by have := congrArg Addr.block e; rw [block_of_add] at this; exact this.symm), fun i e => h (by rw [← e]), fun e => h e.symm⟩

/-! ### 2. Bytes -/
def u8v (b : UInt8) : Value := .int .u8 (b.toNat : Int)
def u8s (bs : List UInt8) : List Value := bs.map u8v
theorem u8s_length (bs : List UInt8) : (u8s bs).length = bs.length := by simp [u8s]
theorem u8s_append (a b : List UInt8) : u8s (a ++ b) = u8s a ++ u8s b := by simp [u8s]
theorem u8s_drop (a : List UInt8) (k : Nat) : u8s (a.drop k) = (u8s a).drop k := by simp [u8s]
theorem u8s_take (a : List UInt8) (k : Nat) : u8s (a.take k) = (u8s a).take k := by simp [u8s]
theorem u8s_one {bs : List UInt8} : ∀ u ∈ u8s bs, u.oneCell' = true := by
  intro u hu
  simp only [u8s, List.mem_map] at hu
  obtain ⟨b, _, rfl⟩ := hu
  rfl
/-- Bytes that can be read: their number, their places in blocks of S, the room. -/
structure Bs (w : World) (S : Nat → Prop) (A : Option Addr) (n c : Nat) (bs : List UInt8) : Prop where
  len : bs.length = n
  cap : n ≤ c
  rd : Reads w S 1 A n (u8s bs)
section
variable {w w' : World} {S S' : Nat → Prop} {B n c : Nat} {A : Option Addr} {bs : List UInt8}
theorem Bs.any (h : Bs w S A n c bs) : Bs w AnyB A n c bs := ⟨h.len, h.cap, h.rd.any⟩
theorem Bs.old (h : Bs w S A n c bs) : Bs w (Lo w.heap.size) A n c bs := ⟨h.len, h.cap, h.rd.old (by omega)⟩
theorem Bs.mono (h : Bs w S A n c bs) (hS : ∀ k, S k → S' k) : Bs w S' A n c bs := ⟨h.len, h.cap, h.rd.mono hS⟩
theorem Bs.after (h : Bs w S A n c bs) (hb : Below w.heap.size w w') : Bs w' S A n c bs := ⟨h.len, h.cap, h.rd.after (by omega) hb⟩
theorem Bs.below (h : Bs w (Lo B) A n c bs) (hb : Below B w w') : Bs w' (Lo B) A n c bs := ⟨h.len, h.cap, h.rd.below hb⟩
theorem Bs.keep (h : Bs w S A n c bs) (hk : ∀ p : Addr, S p.block → p.block < w.heap.size → w'.cell? p = w.cell? p) (hS : ∀ k, S k → k < w.heap.size → S' k) : Bs w' S' A n c bs := ⟨h.len, h.cap, h.rd.keep (by omega) hk hS⟩
theorem Bs.at_ (h : Bs w S A n c bs) {k : Nat} (hk : k < n) : ∃ ad b, A = some ad ∧ Hid (bs[k]? = some b) ∧ w.cell? (ad.add k) = some (.int .u8 (b.toNat : Int)) := by
  obtain ⟨ad, e, hb, hc⟩ := h.rd.2 (by omega)
  have hl : k < bs.length := by rw [h.len]; exact hk
  refine ⟨ad, bs[k], e, List.getElem?_eq_getElem hl, hc k _ ?_⟩
  simp [u8s, u8v, List.getElem?_eq_getElem hl]
theorem Bs.under {W : World} {B : Nat} (h : Bs w S A n c bs) (hS : ∀ k, S k → k < B) (hb : Below B w W) : Bs W S A n c bs := h.keep (fun _ hp _ => hb.cell (hS _ hp)) (fun _ h _ => h)
theorem Bs.oldS (h : Bs w S A n c bs) : Bs w (fun k => S k ∧ k < w.heap.size) A n c bs := h.keep (fun _ _ _ => rfl) (fun _ h h' => ⟨h, h'⟩)
theorem Bs.drew (h : Bs w S A n c bs) : Bs w.drew S A n c bs := ⟨h.len, h.cap, h.rd⟩
theorem Bs.drop (h : Bs w S A n c bs) {k : Nat} (hk : k ≤ n) : Bs w S (if c = k then A else A.map (·.add k)) (n - k) (c - k) (bs.drop k) := by
  refine ⟨by rw [List.length_drop, h.len], by have := h.cap; omega, ?_⟩
  have := h.rd.drop (k := k) (cap := c) hk h.cap
  simpa [u8s_drop] using this
theorem Bs.take (h : Bs w S A n c bs) {k c' : Nat} (hk : k ≤ n) (hc : k ≤ c') : Bs w S A k c' (bs.take k) := by
  refine ⟨by rw [List.length_take, h.len]; omega, hc, ?_⟩
  have := h.rd.take (k := k) hk
  simpa [u8s_take] using this
end

/-! ### 3. append onto a row of the call's own, the source nil, empty or not -/
section
variable {P : Program} (w : World)

theorem run_append_of_nil (base : Nat) (t ty e : TypeId) (i : TypeInfo) (size : Nat) (ht : P.underlying t = some (.slice e)) (hi : P.info? e = some i)
    (v : Value) (n : Nat) (xs : List Value) (hown : w.ownsRow base e size v n xs) (c : Nat) : (Builtin.append_ #[t, t] ty #[v, .slice none 0 c]).run P w = .ok v w := by
  rcases hown.2 with ⟨rfl, rfl⟩ | ⟨g, cap, cur, rfl, _, _, hnc, _⟩
  · simp [Builtin.append_, run_underlying ht, sizeOf, typeInfo, hi, Builtin.lenOf, Builtin.firstCells]
  · simp [Builtin.append_, run_underlying ht, sizeOf, typeInfo, hi, Builtin.lenOf, Builtin.firstCells, hnc, storeCells]

theorem run_append_any (base : Nat) (t ty e : TypeId) (i : TypeInfo) (z : Value) (size bytes : Nat) (ht : P.underlying t = some (.slice e)) (hi : P.info? e = some i) (hz : i.zero = some z)
    (hsize : i.size = size) (hby : i.bytes = bytes) (hzs : z.cells.size = size) (hsz : 0 < size)
    (v : Value) (n : Nat) (xs : List Value) (hown : w.ownsRow base e size v n xs)
    (S : Nat → Prop) (A : Option Addr) (m c : Nat) (news : List Value) (hr : Reads w S size A m news) (h1 : ∀ u ∈ news, u.oneCell' = true)
    (h63 : n + m ≤ maxLen) (hbytes : (n + m) * bytes ≤ 140737488355328) (hbase : base ≤ w.heap.size) :
    ∃ v' w', (Builtin.append_ #[t, t] ty #[v, .slice A m c]).run P w = .ok v' w' ∧ w'.ownsRow base e size v' (n + m) (xs ++ news) ∧ w.grownBy w' v.ownBlock ∧
      (v'.ownBlock = v.ownBlock ∨ v'.ownBlock = some w.heap.size) := by
  rcases A with _ | ad
  · have hm : m = 0 := by
      rcases Nat.eq_zero_or_pos m with h0 | h0
      · exact h0
      · obtain ⟨ad, h, _⟩ := hr.2 h0
        cases h
    subst hm
    have hn : news = [] := List.eq_nil_of_length_eq_zero (by simpa using hr.1)
    subst hn
    exact ⟨v, w, run_append_of_nil w base t ty e i size ht hi v n xs hown c, by simpa using hown, World.grownBy.refl w _, .inl rfl⟩
  · have hcells : ∀ j u, news[j]? = some u → w.cell? (ad.add j) = some u := by
      intro j u hu
      rcases Nat.eq_zero_or_pos m with h0 | h0
      · subst h0
        have hn : news = [] := List.eq_nil_of_length_eq_zero (by simpa using hr.1)
        subst hn
        simp at hu
      · obtain ⟨ad', h, _, hc⟩ := hr.2 h0
        injection h with h
        subst h
        exact hc j u hu
    obtain ⟨v', w', hrun, h2, h3, _, h5⟩ := run_append_own_at (P := P) w base t ty e i z size bytes ht hi hz hsize hby hzs hsz v n xs hown ad m c news hr.1 hcells h1 h63 hbytes hbase
    exact ⟨v', w', hrun, h2, h3, h5⟩

theorem wp_append_any {o : Oper} {a : Act} {K : Act → World → Prop} {Q : Exit → Act → World → Prop} (s x : Operand) (t : TypeId)
    (ho : o.op = .call { callee := .builtin .append, args := #[s, x], argTypes := #[t, t] })
    (base : Nat) (e : TypeId) (i : TypeInfo) (z : Value) (size bytes : Nat) (ht : P.underlying t = some (.slice e)) (hi : P.info? e = some i) (hz : i.zero = some z)
    (hsize : i.size = size) (hby : i.bytes = bytes) (hzs : z.cells.size = size) (hsz : 0 < size)
    (v : Value) (n : Nat) (xs : List Value) (hs : a.eval s = v) (hown : w.ownsRow base e size v n xs)
    (S : Nat → Prop) (A : Option Addr) (m c : Nat) (news : List Value) (hx : a.eval x = .slice A m c) (hr : Reads w S size A m news) (h1 : ∀ u ∈ news, u.oneCell' = true)
    (h63 : n + m ≤ maxLen) (hbytes : (n + m) * bytes ≤ 140737488355328) (hbase : base ≤ w.heap.size)
    (h : ∀ v' w', w'.ownsRow base e size v' (n + m) (xs ++ news) → w.grownBy w' v.ownBlock → (v'.ownBlock = v.ownBlock ∨ v'.ownBlock = some w.heap.size) → K (a.put o.dst v') w') : o.wp P a w K Q := by
  obtain ⟨v', w', hrun, h2, h3, h4⟩ := run_append_any (P := P) w base t o.type e i z size bytes ht hi hz hsize hby hzs hsz v n xs hown S A m c news hr h1 h63 hbytes hbase
  unfold Oper.wp execOp
  simp only [ho, resolve, invoke, builtin, Sem.run_bind, Sem.run_pure, Result.andThen_ok, List.map_toArray, List.map_cons, List.map_nil, hs, hx, hrun]
  exact h v' w' h2 h3 h4

theorem wpList_append_any {ops : Array Oper} {rest : List Oper} {o : Oper} {a : Act} {Q : Exit → Act → World → Prop} (hgd : o.guard = none) (s x : Operand) (t : TypeId)
    (ho : o.op = .call { callee := .builtin .append, args := #[s, x], argTypes := #[t, t] })
    (base : Nat) (e : TypeId) (i : TypeInfo) (z : Value) (size bytes : Nat) (ht : P.underlying t = some (.slice e)) (hi : P.info? e = some i) (hz : i.zero = some z)
    (hsize : i.size = size) (hby : i.bytes = bytes) (hzs : z.cells.size = size) (hsz : 0 < size)
    (v : Value) (n : Nat) (xs : List Value) (hs : a.eval s = v) (hown : w.ownsRow base e size v n xs)
    (S : Nat → Prop) (A : Option Addr) (m c : Nat) (news : List Value) (hx : a.eval x = .slice A m c) (hr : Reads w S size A m news) (h1 : ∀ u ∈ news, u.oneCell' = true)
    (h63 : n + m ≤ maxLen) (hbytes : (n + m) * bytes ≤ 140737488355328) (hbase : base ≤ w.heap.size)
    (h : ∀ v' w', w'.ownsRow base e size v' (n + m) (xs ++ news) → w.grownBy w' v.ownBlock → (v'.ownBlock = v.ownBlock ∨ v'.ownBlock = some w.heap.size) → wpList P ops Q rest (a.put o.dst v') w') : wpList P ops Q (o :: rest) a w :=
  wpList_plain hgd fun _ hK => wp_append_any w s x t ho base e i z size bytes ht hi hz hsize hby hzs hsz v n xs hs hown S A m c news hx hr h1 h63 hbytes hbase fun v' w' h2 h3 h4 => hK _ _ (h v' w' h2 h3 h4)

theorem step_append_any {ops : Array Oper} {o : Oper} {a : Act} {K : Act → World → Prop} {Q : Exit → Act → World → Prop} {E : Prop} (hgd : o.guard = none) (s x : Operand) (t : TypeId)
    (ho : o.op = .call { callee := .builtin .append, args := #[s, x], argTypes := #[t, t] })
    (base : Nat) (e : TypeId) (i : TypeInfo) (z : Value) (size bytes : Nat) (ht : P.underlying t = some (.slice e)) (hi : P.info? e = some i) (hz : i.zero = some z)
    (hsize : i.size = size) (hby : i.bytes = bytes) (hzs : z.cells.size = size) (hsz : 0 < size)
    (v : Value) (n : Nat) (xs : List Value) (hs : a.eval s = v) (hown : w.ownsRow base e size v n xs)
    (S : Nat → Prop) (A : Option Addr) (m c : Nat) (news : List Value) (hx : a.eval x = .slice A m c) (hr : Reads w S size A m news) (h1 : ∀ u ∈ news, u.oneCell' = true)
    (h63 : n + m ≤ maxLen) (hbytes : (n + m) * bytes ≤ 140737488355328) (hbase : base ≤ w.heap.size)
    (h : ∀ v' w', w'.ownsRow base e size v' (n + m) (xs ++ news) → w.grownBy w' v.ownBlock → (v'.ownBlock = v.ownBlock ∨ v'.ownBlock = some w.heap.size) → K (a.put o.dst v') w') :
    if Region.wanted o (yielded ops a.tmps) = true then Oper.wp P o a w K Q else E := by
  have hw : Region.wanted o (yielded ops a.tmps) = true := by simp [Region.wanted, hgd]
  rw [if_pos hw]
  exact wp_append_any w s x t ho base e i z size bytes ht hi hz hsize hby hzs hsz v n xs hs hown S A m c news hx hr h1 h63 hbytes hbase h
end

/-! ### 4. The same for bytes -/
theorem Try.info5 : (Try.prog.info? 5).map (fun i => (i.zero, i.size, i.bytes)) = some (some (.int .u8 0), 1, 1) := by kernel_rfl
theorem wpList_append_u8 {ops : Array Oper} {rest : List Oper} {o : Oper} {a : Act} {Q : Exit → Act → World → Prop} {w : World} (hgd : o.guard = none) (s x : Operand)
    (ho : o.op = .call { callee := .builtin .append, args := #[s, x], argTypes := #[22, 22] })
    {base : Nat} {v : Value} {n : Nat} {xs : List UInt8} (hs : a.eval s = v) (hown : w.ownsRow base 5 1 v n (u8s xs))
    {S : Nat → Prop} {A : Option Addr} {m c : Nat} {ys : List UInt8} (hx : a.eval x = .slice A m c) (hr : Bs w S A m c ys)
    (hbytes : n + m ≤ 140737488355328) (hbase : base ≤ w.heap.size)
    (h : ∀ v' w', w'.ownsRow base 5 1 v' (n + m) (u8s (xs ++ ys)) → w.grownBy w' v.ownBlock → (v'.ownBlock = v.ownBlock ∨ v'.ownBlock = some w.heap.size) → wpList Try.prog ops Q rest (a.put o.dst v') w') : wpList Try.prog ops Q (o :: rest) a w := by
  obtain ⟨i0, hi0, hz0, hz1, hz2⟩ := info_parts Try.info5
  refine wpList_append_any w hgd s x 22 ho base 5 i0 _ 1 1 Try.underlying22 hi0 hz0 hz1 hz2 rfl (by omega) v n (u8s xs) hs hown S A m c (u8s ys) hx hr.rd u8s_one (by simp only [maxLen]; omega) (by omega) hbase ?_
  intro v' w' h1 h2 h3
  exact h v' w' (by rw [u8s_append]; exact h1) h2 h3
theorem own_base {w : World} {base : Nat} {e : TypeId} {size n : Nat} {v : Value} {xs : List Value} (h : w.ownsRow base e size v n xs) : ∀ k, v.ownBlock = some k → base ≤ k := fun k hk => (h.lt k hk).1
/-- What is owned can be read. -/
theorem own_bs {w : World} {base n : Nat} {v : Value} {xs : List UInt8} (h : w.ownsRow base 5 1 v n (u8s xs)) : ∃ A c, v = .slice A n c ∧ Bs w (fun k => base ≤ k) A n c xs := by
  have hl : xs.length = n := by have := h.1; simp [u8s] at this; exact this
  rcases h.2 with ⟨rfl, rfl⟩ | ⟨g, cap, cur, rfl, _, _, hnc, _⟩
  · exact ⟨none, 0, rfl, hl, Nat.le_refl _, Reads.of_own h⟩
  · exact ⟨_, cap, rfl, hl, hnc, Reads.of_own h⟩
theorem own_below {w w1 : World} {base B : Nat} {e : TypeId} {size n : Nat} {v : Value} {xs : List Value} (h : w.ownsRow base e size v n xs) (hb : Below B w w1) (hB : w.heap.size ≤ B) : w1.ownsRow base e size v n xs :=
  h.kept ⟨hb.os, hb.tape, hb.output, hb.size, fun k hk _ => hb.block k (by omega)⟩ (row := none) (by cases v.ownBlock <;> simp)
theorem below_drewN {B : Nat} {a w : World} (h : Below B a w) (n : Nat) : Below B a (w.drewN n) := ⟨h.os, h.tape, h.output, h.size, h.block⟩
theorem below_then {B : Nat} {w w1 w2 : World} (h : Below B w w1) (hB : B ≤ w1.heap.size) (k : Below w1.heap.size w1 w2) : Below B w w2 := h.trans (k.mono hB)
theorem ret_bool {a b : Bool} (h : a = b) : Ending.returned (.bool a) = .returned (.bool b) := by rw [h]
theorem ret_int {k : IntKind} {a b : Int} (h : a = b) : Ending.returned (.int k a) = .returned (.int k b) := by rw [h]
theorem take_snoc {α : Type} {xs : List α} {k : Nat} {b : α} (h : xs[k]? = some b) : xs.take (k + 1) = xs.take k ++ [b] := by
  rw [List.take_add_one, h]; rfl
theorem u8_ne {x y : UInt8} (h : x ≠ y) : ((x.toNat : Int) != (y.toNat : Int)) = true := by
  simp only [bne_iff_ne, ne_eq]
  intro e
  exact h (UInt8.toNat_inj.1 (by omega))
/-- The shape of what is owned. -/
theorem own_shape {w : World} {base n : Nat} {e : TypeId} {size : Nat} {v : Value} {xs : List Value} (h : w.ownsRow base e size v n xs) : ∃ A c, v = .slice A n c ∧ n ≤ c := by
  rcases h.2 with ⟨rfl, rfl⟩ | ⟨g, cap, cur, rfl, _, _, hnc, _⟩
  · exact ⟨none, 0, rfl, Nat.le_refl _⟩
  · exact ⟨_, cap, rfl, hnc⟩
/-- '== nil' at []byte. -/
theorem eql_nil22 (w : World) (a : Option Addr) (n c n' c' : Nat) : (binOp .eql 22 (.slice a n c) (.slice none n' c')).run Try.prog w = .ok (.bool a.isNone) w := Lib.run_eql_slice_nil w _ _ a n c n' c' Try.underlying22
theorem Bs.nil0 {w : World} {S : Nat → Prop} {n c : Nat} {xs : List UInt8} (h : Bs w S none n c xs) : n = 0 ∧ xs = [] := by
  have h0 : n = 0 := by
    rcases Nat.eq_zero_or_pos n with h0 | h0
    · exact h0
    · obtain ⟨_, h', _⟩ := h.rd.2 h0; cases h'
  exact ⟨h0, List.eq_nil_of_length_eq_zero (by rw [h.len, h0])⟩

/-! ### 5. Cuts of a slice, each as one run equation, so that the walk does not part on the room -/
theorem elem_of {t e : TypeId} (ht : Try.prog.underlying t = some (.slice e)) : Try.prog.elem t = e := by simp [Program.elem, ht]
theorem run_cut {t e : TypeId} {i : TypeInfo} {size : Nat} (ht : Try.prog.underlying t = some (.slice e)) (hi : Try.prog.info? e = some i) (hs : i.size = size) (a : Option Addr) (n c : Nat) (lo hi' : Int) (l k : Nat) (hl : lo = (l : Int)) (hh : hi' = (l : Int) + k) (hc : l + k ≤ c) (W : World) :
    (Instr.sliceAt t (.slice a n c) (some (.int .i64 lo)) (some (.int .i64 hi')) none).run Try.prog W = .ok (.slice (if c = l then a else a.map (·.add (l * size))) k (c - l)) W := by
  have he := elem_of ht
  rw [run_sliceAt_slice W t _ _ _ _ (by rw [he]; exact ht), run_slice_lh W t a n c (by rw [he]; exact ht) .i64 .i64 lo hi' (by omega) (by omega) (by omega), he]
  subst hl
  subst hh
  have e1 : ((l : Int) + k).toNat = l + k := by omega
  simp [sizeOf, typeInfo, hi, hs, sliced, e1, Result.andThen]
theorem run_cut_from {t e : TypeId} {i : TypeInfo} {size : Nat} (ht : Try.prog.underlying t = some (.slice e)) (hi : Try.prog.info? e = some i) (hs : i.size = size) (a : Option Addr) (n c : Nat) (lo : Int) (l k : Nat) (hl : lo = (l : Int)) (hk : l + k = n) (W : World) :
    (Instr.sliceAt t (.slice a n c) (some (.int .i64 lo)) none none).run Try.prog W = .ok (.slice (if c = l then a else a.map (·.add (l * size))) k (c - l)) W := by
  have he := elem_of ht
  rw [run_sliceAt_slice W t _ _ _ _ (by rw [he]; exact ht), run_slice_l W t a n c (by rw [he]; exact ht) .i64 lo (by omega) (by omega), he]
  subst hl
  subst hk
  simp [sizeOf, typeInfo, hi, hs, sliced, Result.andThen]
theorem run_cut_upto {t e : TypeId} {i : TypeInfo} {size : Nat} (ht : Try.prog.underlying t = some (.slice e)) (hi : Try.prog.info? e = some i) (hs : i.size = size) (a : Option Addr) (n c : Nat) (hi' : Int) (k : Nat) (hh : hi' = (k : Int)) (hc : k ≤ c) (W : World) :
    (Instr.sliceAt t (.slice a n c) none (some (.int .i64 hi')) none).run Try.prog W = .ok (.slice (if c = 0 then a else a.map (·.add (0 * size))) k c) W := by
  have he := elem_of ht
  rw [run_sliceAt_slice W t _ _ _ _ (by rw [he]; exact ht), run_slice_h W t a n c (by rw [he]; exact ht) .i64 hi' (by omega) (by omega), he]
  subst hh
  simp [sizeOf, typeInfo, hi, hs, sliced, Result.andThen]
section
variable {w : World} {S : Nat → Prop} {n c : Nat} {A : Option Addr} {bs : List UInt8}
theorem Bs.cut (h : Bs w S A n c bs) (lo hi : Int) (l k : Nat) (hl : lo = (l : Int)) (hh : hi = (l : Int) + k) (hn : l + k ≤ n) :
    ∃ A' c', (∀ W, (Instr.sliceAt 22 (.slice A n c) (some (.int .i64 lo)) (some (.int .i64 hi)) none).run Try.prog W = .ok (.slice A' k c') W) ∧ Bs w S A' k c' ((bs.drop l).take k) := by
  obtain ⟨i0, hi0, _, hz1, _⟩ := info_parts Try.info5
  have hc := h.cap
  refine ⟨_, _, run_cut Try.underlying22 hi0 hz1 A n c lo hi l k hl hh (by omega), ?_⟩
  have h1 := (h.drop (k := l) (by omega)).take (k := k) (c' := c - l) (by omega) (by omega)
  simpa using h1
theorem Bs.from_ (h : Bs w S A n c bs) (lo : Int) (l k : Nat) (hl : lo = (l : Int)) (hk : l + k = n) :
    ∃ A' c', (∀ W, (Instr.sliceAt 22 (.slice A n c) (some (.int .i64 lo)) none none).run Try.prog W = .ok (.slice A' k c') W) ∧ Bs w S A' k c' (bs.drop l) := by
  obtain ⟨i0, hi0, _, hz1, _⟩ := info_parts Try.info5
  refine ⟨_, _, run_cut_from Try.underlying22 hi0 hz1 A n c lo l k hl hk, ?_⟩
  have h1 := h.drop (k := l) (by omega)
  rw [show n - l = k from by omega] at h1
  simpa using h1
theorem Bs.upto (h : Bs w S A n c bs) (hi : Int) (k : Nat) (hh : hi = (k : Int)) (hn : k ≤ n) :
    ∃ A' c', (∀ W, (Instr.sliceAt 22 (.slice A n c) none (some (.int .i64 hi)) none).run Try.prog W = .ok (.slice A' k c') W) ∧ Bs w S A' k c' (bs.take k) := by
  obtain ⟨i0, hi0, _, hz1, _⟩ := info_parts Try.info5
  have hc := h.cap
  refine ⟨_, _, run_cut_upto Try.underlying22 hi0 hz1 A n c hi k hh (by omega), ?_⟩
  have h1 := (h.drop (k := 0) (by omega)).take (k := k) (c' := c) (by omega) (by omega)
  simpa using h1
/-- A byte at a literal place. -/
theorem Bs.at0 (h : Bs w S A n c bs) (hk : 0 < n) : ∃ ad b, A = some ad ∧ Hid (bs[0]? = some b) ∧ w.cell? ad = some (.int .u8 (b.toNat : Int)) := by
  obtain ⟨ad, b, e, hb, hc⟩ := h.at_ hk
  exact ⟨ad, b, e, hb, by rwa [Addr.add_zero'] at hc⟩
theorem Bs.atS (h : Bs w S A n c bs) (k : Nat) (hk : k + 1 < n) : ∃ ad b, A = some ad ∧ Hid (bs[k + 1]? = some b) ∧ w.cell? ⟨ad.block, ad.off + (k + 1), none⟩ = some (.int .u8 (b.toNat : Int)) := by
  obtain ⟨ad, b, e, hb, hc⟩ := h.at_ hk
  exact ⟨ad, b, e, hb, by rwa [Addr.add_succ'] at hc⟩
end
theorem u8_lt (b : UInt8) : (b.toNat : Int) < 256 := by have := b.toNat_lt; omega
theorem i64_or_nat (a b : Nat) (ha : a < 9223372036854775808) (hb : b < 9223372036854775808) : bits .or .i64 (a : Int) (b : Int) = ((a ||| b : Nat) : Int) := by
  have hx : a ||| b < 2 ^ 63 := Nat.or_lt_two_pow (by omega) (by omega)
  have o1 : ∀ x : Nat, x < 9223372036854775808 → (BitVec.ofInt 64 (x : Int)).toNat = x := fun x hx => by
    rw [BitVec.ofInt_natCast, BitVec.toNat_ofNat]; exact Nat.mod_eq_of_lt (by omega)
  show IntKind.i64.wrap ((BitVec.ofInt 64 (a : Int) ||| BitVec.ofInt 64 (b : Int)).toNat : Int) = _
  rw [BitVec.toNat_or, o1 a ha, o1 b hb, IntKind.wrap_i64]
  omega
theorem or_add (a b : Nat) (hb : b < 256) : a * 256 ||| b = a * 256 + b := by
  have h := Nat.shiftLeft_add_eq_or_of_lt (i := 8) (b := b) (by omega) a
  rw [Nat.shiftLeft_eq] at h
  exact h.symm
theorem or256 (a b : UInt8) : bits .or .i64 ((a.toNat : Int) * 256) (b.toNat : Int) = ((a.toNat * 256 + b.toNat : Nat) : Int) := by
  have ha := a.toNat_lt
  have hb := b.toNat_lt
  have e1 : ((a.toNat : Int) * 256) = ((a.toNat * 256 : Nat) : Int) := by omega
  rw [e1, i64_or_nat _ _ (by omega) (by omega), or_add _ _ (by omega)]
/-- Four results. -/
theorem results_tmp4 {fn : Func} {t u v x : Tmp} (h : fn.results = #[.tmp t, .tmp u, .tmp v, .tmp x]) (tmps : Array Value) (P : Program) (w : World) :
    (results fn tmps).run P w = .ok (.tuple #[tmps.getD t undef, tmps.getD u undef, tmps.getD v undef, tmps.getD x undef]) w := by simp [results, h]
end Go.Proofs.Ytaebmhbggbpnoaa
