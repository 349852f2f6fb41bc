/- Lists of placed records: as data, in memory, and one that a call builds itself. Conditions: each theorem's premises. -/
import Derived.Test.YtaebmhbggbpnoaaGFrR2
import Derived.Great.BuildSlice
namespace Go.Proofs.Ytaebmhbggbpnoaa
open Go.RowKit Go.Shelf
/-- A placed record as plain data. -/
structure Pd where
  z : Nat
  m : Nat
  k : Nat
  nm : List UInt8
  bs : List UInt8
def goods : List (Nat × FrR) → List Pd
  | [] => []
  | (_, .bad _) :: _ => []
  | (z, .good k nm b m) :: r => ⟨z, m, k, nm, b⟩ :: goods r
def faultOf : List (Nat × FrR) → Int
  | [] => 0
  | (_, .bad f) :: _ => f
  | (_, .good _ _ _ _) :: r => faultOf r
def endOf (l : List Pd) : Nat := match l.getLast? with
  | none => 0
  | some p => p.z + p.m
def allGood (l : List (Nat × FrR)) : Prop := ∀ p ∈ l, ∃ k nm b m, p.2 = FrR.good k nm b m
theorem allGood.nil : allGood [] := fun _ h => by simp at h
theorem allGood.snoc {l : List (Nat × FrR)} (h : allGood l) (z k m : Nat) (nm b : List UInt8) : allGood (l ++ [(z, .good k nm b m)]) := fun p hp => by
  rcases List.mem_append.1 hp with hp | hp
  · exact h p hp
  · simp at hp; subst hp; exact ⟨_, _, _, _, rfl⟩
theorem goods_app : ∀ {l r : List (Nat × FrR)}, allGood l → goods (l ++ r) = goods l ++ goods r ∧ faultOf (l ++ r) = faultOf r
  | [], r, _ => ⟨rfl, rfl⟩
  | (z, R) :: l, r, h => by
    obtain ⟨k, nm, b, m, e⟩ := h _ (List.mem_cons_self)
    have ih := goods_app (l := l) (r := r) (fun p hp => h p (List.mem_cons_of_mem _ hp))
    simp only at e
    subst e
    exact ⟨by simp [goods, ih.1], by simp [faultOf, ih.2]⟩
theorem goods_len {l : List (Nat × FrR)} (h : allGood l) : (goods l).length = l.length := by
  induction l with
  | nil => rfl
  | cons p l ih =>
    obtain ⟨z, R⟩ := p
    obtain ⟨k, nm, b, m, e⟩ := h _ (List.mem_cons_self)
    simp only at e
    subst e
    simp [goods, ih (fun p hp => h p (List.mem_cons_of_mem _ hp))]
theorem endOf_snoc (l : List Pd) (p : Pd) : endOf (l ++ [p]) = p.z + p.m := by simp [endOf]
/-- A good turn more; a bad one. -/
theorem goods_step {T : List (Nat × FrR)} {i z k m : Nat} {nm b : List UInt8} (hg : allGood (T.take i)) (h : T[i]? = some (z, .good k nm b m)) : allGood (T.take (i + 1)) ∧ goods (T.take (i + 1)) = goods (T.take i) ++ [⟨z, m, k, nm, b⟩] := by
  have e : T.take (i + 1) = T.take i ++ [(z, .good k nm b m)] := by rw [List.take_add_one, h]; rfl
  rw [e]
  exact ⟨hg.snoc _ _ _ _ _, by rw [(goods_app hg).1]; rfl⟩
theorem goods_stop {T : List (Nat × FrR)} {i z : Nat} {f : Int} (hg : allGood (T.take i)) (h : T[i]? = some (z, .bad f)) : goods T = goods (T.take i) ∧ faultOf T = f := by
  have e : T = T.take i ++ T.drop i := (List.take_append_drop i T).symm
  have ed : T.drop i = (z, .bad f) :: T.drop (i + 1) := by
    have hl := (List.getElem?_eq_some_iff.1 h).1
    rw [List.drop_eq_getElem_cons hl, (List.getElem?_eq_some_iff.1 h).2]
  have h2 := goods_app (l := T.take i) (r := T.drop i) hg
  rw [← e] at h2
  rw [h2.1, h2.2, ed]
  simp [goods, faultOf]
theorem goods_all {T : List (Nat × FrR)} (hg : allGood (T.take T.length)) : goods T = goods (T.take T.length) ∧ faultOf T = 0 := by
  have h2 := goods_app (l := T.take T.length) (r := []) hg
  rw [List.append_nil, List.take_length] at h2
  exact ⟨by rw [List.take_length], h2.2⟩
/-! ### Cells that are kept wherever they are known -/
section
variable {w w' : World} {S S' : Nat → Prop} {size n c : Nat} {A : Option Addr} {xs : List Value} {bs : List UInt8}
theorem Reads.keepC (h : Reads w S size A n xs) (hs : 0 < size) (hk : ∀ (p : Addr) (u : Value), S p.block → w.cell? p = some u → w'.cell? p = some u) (hS : ∀ k, S k → k < w.heap.size → S' k) : Reads w' S' size A n xs :=
  ⟨h.1, fun hn => by
    obtain ⟨ad, e, hb, hc⟩ := h.2 hn
    have hpos : 0 < xs.length := by rw [h.1]; exact Nat.mul_pos hn hs
    have hlt : ad.block < w.heap.size := by
      have := World.block_lt_of_cell? w _ (hc 0 _ (List.getElem?_eq_getElem hpos))
      rwa [block_of_add] at this
    exact ⟨ad, e, hS _ hb hlt, fun j u hu => hk _ _ (by rw [block_of_add]; exact hb) (hc j u hu)⟩⟩
theorem Bs.keepC (h : Bs w S A n c bs) (hk : ∀ (p : Addr) (u : Value), S p.block → w.cell? p = some u → w'.cell? p = some u) (hS : ∀ k, S k → k < w.heap.size → S' k) : Bs w' S' A n c bs := ⟨h.len, h.cap, h.rd.keepC (by omega) hk hS⟩
end
/-- A slice of placed records. -/
structure PQ (w : World) (S : Nat → Prop) (A : Option Addr) (n c : Nat) (l : List Pd) : Prop where
  len : l.length = n
  cap : n ≤ c
  at_ : ∀ i, i < n → ∃ ad x A' c' r, A = some ad ∧ S ad.block ∧ Hid (l[i]? = some r ∧ r.nm.length = 32) ∧ ad.add (i * 36) = x ∧ Hid (∀ j v, (PC r.z r.m r.k r.nm (.slice A' r.bs.length c'))[j]? = some v → w.cell? (x.add j) = some v) ∧ Bs w S A' r.bs.length c' r.bs
theorem PC.at0 {z m k : Int} {nm : List UInt8} {b : Value} : (PC z m k nm b)[0]? = some (.int .i64 z) := by simp [PC]
theorem PC.at1 {z m k : Int} {nm : List UInt8} {b : Value} : (PC z m k nm b)[1]? = some (.int .i64 m) := by simp [PC]
theorem PC.rc {z m k : Int} {nm : List UInt8} {b : Value} (j : Nat) : (PC z m k nm b)[j + 2]? = (RC k nm b)[j]? := by simp [PC, RC]
theorem PC.one {z m k : Int} {nm : List UInt8} {b : Value} (hb : b.oneCell' = true) : ∀ u ∈ (PC z m k nm b).toList, u.oneCell' = true := by
  intro v hv
  simp only [PC, List.toList_toArray, List.mem_cons, List.mem_append] at hv
  rcases hv with e | e | e | e | e
  · subst e; rfl
  · subst e; rfl
  · subst e; rfl
  · simp only [u8s, List.mem_map] at e
    obtain ⟨x, -, rfl⟩ := e
    rfl
  · simp at e; subst e; exact hb
theorem PQ.keepC {w w' : World} {S S' : Nat → Prop} {A : Option Addr} {n c : Nat} {l : List Pd} (h : PQ w S A n c l) (hk : ∀ (p : Addr) (u : Value), S p.block → w.cell? p = some u → w'.cell? p = some u) (hS : ∀ k, S k → k < w.heap.size → S' k) : PQ w' S' A n c l :=
  ⟨h.len, h.cap, fun i hi => by
    obtain ⟨ad, x, A', c', r, e, hs, hl, hx, hc, hb⟩ := h.at_ i hi
    have hz := World.block_lt_of_cell? w _ (hc.out 0 _ PC.at0)
    have hxb : ∀ j, (x.add j).block = ad.block := fun j => by rw [← hx, block_of_add, block_of_add]
    rw [hxb] at hz
    exact ⟨ad, x, A', c', r, e, hS _ hs hz, hl, hx, Lib.hid fun j v hv => hk _ _ (by rw [hxb]; exact hs) (hc.out j v hv), hb.keepC hk hS⟩⟩
theorem PQ.after {w w' : World} {S : Nat → Prop} {A : Option Addr} {n c : Nat} {l : List Pd} (h : PQ w S A n c l) (hb : Below w.heap.size w w') : PQ w' S A n c l := h.keepC (fun _ _ _ hu => (hb.cell (World.block_lt_of_cell? w _ hu)).trans hu) (fun _ h _ => h)
/-- An element of a list that is being built. -/
structure PV where
  p : Pd
  A : Option Addr
  c : Nat
def PV.cells (q : PV) : List Value := (PC q.p.z q.p.m q.p.k q.p.nm (.slice q.A q.p.bs.length q.c)).toList
def flatP (qs : List PV) : List Value := qs.flatMap PV.cells
theorem flatP_at : ∀ {qs : List PV}, (∀ q ∈ qs, q.p.nm.length = 32) → ∀ {i : Nat} {q : PV}, qs[i]? = some q → ∀ {j : Nat} {v : Value}, (PC q.p.z q.p.m q.p.k q.p.nm (.slice q.A q.p.bs.length q.c))[j]? = some v → (flatP qs)[i * 36 + j]? = some v
  | [], _, i, q, h, _, _, _ => by simp at h
  | p :: qs, hn, 0, q, h, j, v, hv => by
    simp at h
    subst h
    have hj : j < (PV.cells p).length := by
      have := (Array.getElem?_eq_some_iff.1 hv).1
      simpa [PV.cells] using this
    simp only [flatP, List.flatMap_cons, Nat.zero_mul, Nat.zero_add]
    rw [List.getElem?_append_left hj]
    simpa [PV.cells] using hv
  | p :: qs, hn, i + 1, q, h, j, v, hv => by
    have ih := flatP_at (qs := qs) (fun q hq => hn q (List.mem_cons_of_mem _ hq)) (i := i) (q := q) (by simpa using h) hv
    have hl : (PV.cells p).length = 36 := by
      have := PC.size (z := p.p.z) (m := p.p.m) (k := p.p.k) (b := .slice p.A p.p.bs.length p.c) (hn p (List.mem_cons_self))
      simpa [PV.cells] using this
    simp only [flatP, List.flatMap_cons]
    rw [List.getElem?_append_right (by rw [hl]; omega), hl, show (i + 1) * 36 + j - 36 = i * 36 + j by omega]
    exact ih
/-- A list of placed records that the call itself lays. -/
structure PO (w : World) (T : Nat → Prop) (base : Nat) (e : TypeId) (v : Value) (n : Nat) (qs : List PV) : Prop where
  len : qs.length = n
  nms : ∀ q ∈ qs, q.p.nm.length = 32
  own : w.ownsRow base e 36 v n (flatP qs)
  vals : ∀ q ∈ qs, Bs w (fun k => T k ∧ some k ≠ v.ownBlock) q.A q.p.bs.length q.c q.p.bs
section
variable {w w' : World} {T : Nat → Prop} {base n : Nat} {e : TypeId} {v : Value} {qs : List PV}
theorem PO.nil (w : World) (T : Nat → Prop) (base : Nat) (e : TypeId) : PO w T base e (.slice none 0 0) 0 [] := ⟨rfl, fun _ h => by simp at h, World.ownsRow_nil _ _ _ _, fun _ h => by simp at h⟩
theorem PO.shape (h : PO w T base e v n qs) : ∃ A c, v = .slice A n c ∧ n ≤ c := own_shape h.own
theorem PO.keep (h : PO w T base e v n qs) {row : Option Nat} (hg : w.grownBy w' row) (h1 : v.ownBlock = none ∨ v.ownBlock ≠ row) (hk : ∀ (p : Addr) (u : Value), T p.block → w.cell? p = some u → w'.cell? p = some u) : PO w' T base e v n qs :=
  ⟨h.len, h.nms, h.own.kept hg h1, fun q hq => (h.vals q hq).keepC (fun p u hp hu => hk p u hp.1 hu) (fun _ h _ => h)⟩
theorem PO.reads {A : Option Addr} {c : Nat} (h : PO w T base e (.slice A n c) n qs) : PQ w (fun k => T k ∨ base ≤ k) A n c (qs.map (·.p)) := by
  have hc : n ≤ c := by
    obtain ⟨_, _, he, hc⟩ := own_shape h.own
    cases he
    exact hc
  refine ⟨by rw [List.length_map, h.len], hc, fun i hi => ?_⟩
  obtain ⟨ad, e1, hb, hcell⟩ := (Reads.of_own h.own).2 (by omega)
  have hq : qs[i]? = some (qs[i]'(by rw [h.len]; exact hi)) := List.getElem?_eq_getElem _
  obtain ⟨q, hqq⟩ : ∃ q, q = qs[i]'(by rw [h.len]; exact hi) := ⟨_, rfl⟩
  rw [← hqq] at hq
  have hm : q ∈ qs := List.mem_of_getElem? hq
  exact ⟨ad, _, q.A, q.c, q.p, e1, .inr hb, Lib.hid ⟨by rw [List.getElem?_map, hq]; rfl, h.nms q hm⟩, rfl, Lib.hid fun j v hv => by rw [add_of_add]; exact hcell _ _ (flatP_at h.nms hq hv), (h.vals q hm).mono (fun k hk => .inl hk.1)⟩
theorem PO.snoc {v' : Value} {q : PV} (h : PO w T base e v n qs) (hn : q.p.nm.length = 32) (hown : w'.ownsRow base e 36 v' (n + 1) (flatP qs ++ q.cells)) (hg : w.grownBy w' v.ownBlock)
    (hat : v'.ownBlock = v.ownBlock ∨ v'.ownBlock = some w.heap.size) (hx : Bs w (fun k => T k ∧ some k ≠ v.ownBlock) q.A q.p.bs.length q.c q.p.bs) : PO w' T base e v' (n + 1) (qs ++ [q]) := by
  have hkeep : ∀ {A : Option Addr} {m c : Nat} {b : List UInt8}, Bs w (fun k => T k ∧ some k ≠ v.ownBlock) A m c b → Bs w' (fun k => T k ∧ some k ≠ v'.ownBlock) A m c b := fun h =>
    h.keep (fun p hp hlt => World.cell?_of_block (hg.block p.block hlt hp.2)) (fun k hk hlt => ⟨hk.1, by
      rcases hat with e | e
      · rw [e]; exact hk.2
      · rw [e]; intro h; injection h with h; omega⟩)
  refine ⟨by simp [h.len], fun p hp => ?_, by simpa [flatP] using hown, fun p hp => ?_⟩
  · rcases List.mem_append.1 hp with hp | hp
    · exact h.nms p hp
    · simp at hp; subst hp; exact hn
  · rcases List.mem_append.1 hp with hp | hp
    · exact hkeep (h.vals p hp)
    · simp at hp; subst hp; exact hkeep hx
end
end Go.Proofs.Ytaebmhbggbpnoaa
namespace Go.Proofs.Ytaebmhbggbpnoaa
open Go.RowKit Go.Shelf
attribute [local go_sem] Oper.semAt_some
theorem frames_any (w : World) (p : Option Addr) (A : Option Addr) (n c : Nat) :
    Calls Try.prog 112 #[.pointer p, .slice A n c] w fun e w' => e = .returned (.func (.func 133) #[] #[.pointer (some ⟨w.heap.size + 1, 0, none⟩), .pointer (some ⟨w.heap.size, 0, none⟩)]) ∧ w' = (w.alloc (.cells #[.pointer p] 50)).alloc (.cells #[.slice A n c] 22) := by
  go_enter Try.func112, Try.ntmps112
  go_wp2_with fail
  go_ret
  exact ⟨rfl, rfl⟩
theorem below_put {B : Nat} (W : World) (l : Nat) (o : Obj) (h : B ≤ l) (hs : B ≤ W.heap.size) : Below B W (W.putObj l o) := (Below.refl B W).grown (grownBy_putObj' W l o) hs (fun k e => by cases e; exact h)
theorem cell_put {W : World} {l : Nat} {o o' : Obj} (h : W.heap[l]? = some o) (ho : o.isCells = false) {p : Addr} {u : Value} (hu : W.cell? p = some u) : (W.putObj l o').cell? p = some u := cell_kept hu (grownBy_putObj' W l o') (fun r e => by cases e; exact ⟨_, h, ho⟩)
section
variable {n l : Nat} {ops : Array Oper} {rest : List Oper} {o : Oper} {a : Act} {Q : Exit → Act → World → Prop} {w : World}
/-- An operation in a round, walked as elsewhere. -/
theorem wr_op (hp : plainOp o = true) (hw : Region.wanted o (yielded ops a.tmps) = true) (h : o.wp Try.prog a w (wpListIn (Fence.wide.inRound l) n Try.prog ops Q rest) Q) : wpListIn (Fence.wide.inRound l) n Try.prog ops Q (o :: rest) a w := by
  unfold wpListIn
  rw [if_pos hw]
  exact opIn_of_op hp h
end
set_option maxRecDepth 100000 in
theorem fill134 (z m k : Int) (nm : List UInt8) (A : Option Addr) (n c : Nat) (hn : nm.length = 32) : ∃ (ie : TypeInfo) (zz : Value), Try.prog.info? 134 = some ie ∧ ie.zero = some zz ∧ ie.size = 36 ∧ zz.cells.size = 36 ∧ ie.bytes = 80 ∧ Instr.fill (fun i => some (i * ie.size, ie.size)) ((Array.range (1 * ie.size)).map (zz.cells[· % zz.cells.size]!)) [(0, .agg (PC z m k nm (.slice A n c)))] = some (PC z m k nm (.slice A n c)) := by
  obtain ⟨a0, a1, a2, a3, a4, a5, a6, a7, a8, a9, a10, a11, a12, a13, a14, a15, a16, a17, a18, a19, a20, a21, a22, a23, a24, a25, a26, a27, a28, a29, a30, a31, rfl⟩ := list32 nm hn
  obtain ⟨i0, hi0, hz0, hz1, hz2⟩ := info_parts (P := Try.prog) (e := 134) (z := .agg #[.int .i64 0, .int .i64 0, .int .i64 0, .int .u8 0, .int .u8 0, .int .u8 0, .int .u8 0, .int .u8 0, .int .u8 0, .int .u8 0, .int .u8 0, .int .u8 0, .int .u8 0, .int .u8 0, .int .u8 0, .int .u8 0, .int .u8 0, .int .u8 0, .int .u8 0, .int .u8 0, .int .u8 0, .int .u8 0, .int .u8 0, .int .u8 0, .int .u8 0, .int .u8 0, .int .u8 0, .int .u8 0, .int .u8 0, .int .u8 0, .int .u8 0, .int .u8 0, .int .u8 0, .int .u8 0, .int .u8 0, .slice none 0 0]) (size := 36) (bytes := 80) (by kernel_rfl)
  refine ⟨i0, _, hi0, hz0, hz1, rfl, hz2, ?_⟩
  rw [hz1]
  kernel_rfl
theorem results_c3 {fn : Func} {i j k T U V : Nat} {W : World} {a b c : Addr} {u v x : Value} {tmps : Array Value} (h : fn.results = #[.cell i T, .cell j U, .cell k V]) (h1 : tmps.getD i undef = .pointer (some a)) (h2 : tmps.getD j undef = .pointer (some b)) (h3 : tmps.getD k undef = .pointer (some c))
    (l1 : (loadVar T a).run Try.prog W = .ok u W) (l2 : (loadVar U b).run Try.prog W = .ok v W) (l3 : (loadVar V c).run Try.prog W = .ok x W) : (results fn tmps).run Try.prog W = .ok (.tuple #[u, v, x]) W := by
  simp only [Array.getD_eq_getD_getElem?] at h1 h2 h3
  simp [results, h, h1, h2, h3, asAddr, l1, l2, l3]
theorem load_one {W : World} {b t : Nat} {v : Value} (h : Blk W b t #[v]) (ty : TypeId) (hty : ty = 115 ∨ ty = 3 ∨ ty = 28) : (loadVar ty ⟨b, 0, none⟩).run Try.prog W = .ok v W := by
  obtain ⟨c0, -, -⟩ := h.one
  rcases hty with rfl | rfl | rfl <;> simp [loadVar, go_sem, c0]
theorem fscan_nil (w : World) (A : Option Addr) (n c : Nat) :
    Calls Try.prog 68 #[.pointer none, .slice A n c] w fun e w' => e = .returned (.tuple #[.slice none 0 0, .int .i64 0, .int .i64 18]) ∧ Below w.heap.size w w' := by
  have H : Hid (∀ W, W = ((w.alloc (.cells #[.slice none 0 0] 115)).alloc (.cells #[.int .i64 0] 3)).alloc (.cells #[.int .i64 18] 28) → Below w.heap.size w W ∧ Blk W w.heap.size 115 #[.slice none 0 0] ∧ Blk W (w.heap.size + 1) 3 #[.int .i64 0] ∧ Blk W (w.heap.size + 1 + 1) 28 #[.int .i64 18]) := Lib.hid fun W hW => by
    subst hW
    exact ⟨(((Below.refl _ w).alloc (Nat.le_refl _) _).alloc (by simp) _).alloc (by simp; omega) _, ((Blk.new _ _ _).alloc _).alloc _, (blk_new (by simp)).alloc _, blk_new (by simp)⟩
  go_enter Try.func68, Try.ntmps68
  go_wp2_with fail
  obtain ⟨hb, b0, b1, b2⟩ := H.out _ rfl
  exact bodyPost_ret (results_c3 rfl rfl rfl rfl (load_one b0 _ (.inl rfl)) (load_one b1 _ (.inr (.inl rfl))) (load_one b2 _ (.inr (.inr rfl)))) rfl ⟨rfl, hb⟩
theorem own_block {w : World} {base : Nat} {e : TypeId} {size n b : Nat} {v : Value} {xs : List Value} (h : w.ownsRow base e size v n xs) (hb : v.ownBlock = some b) : base ≤ b ∧ ∃ o, w.heap[b]? = some o ∧ o.isCells = true := by
  rcases h.2 with ⟨rfl, -⟩ | ⟨g, cap, cur, rfl, h1, h2, -⟩
  · cases hb
  · injection hb with hb
    subst hb
    exact ⟨h1, _, h2, rfl⟩
/-- What Scan's road keeps. -/
structure SI (w w' : World) (g : Nat) (d : Int) (n : Nat) (k : Nat) (v : Value) (qs : List PV) (fv : Int) (W : World) : Prop where
  po : PO W (fun j => w'.heap.size ≤ j) w'.heap.size 134 v k qs
  b0 : Blk W w.heap.size 115 #[v]
  b1 : Blk W (w.heap.size + 1) 3 #[.int .i64 (endOf (qs.map (·.p)))]
  b2 : Blk W (w.heap.size + 2) 28 #[.int .i64 fv]
  gr : w.grownBy W (some g)
  sz : w'.heap.size ≤ W.heap.size
  tb : ∃ d', Tbl W g d' ∧ d ≤ d' ∧ d' ≤ d + (2 * n : Nat)
section
variable {w w' W W' : World} {g n k : Nat} {d : Int} {v : Value} {qs : List PV} {fv : Int}
theorem SI.turn (h : SI w w' g d n k v qs fv W) (hg : g < w.heap.size) (hs : w.heap.size + 5 ≤ w'.heap.size) (hG : W.grownBy W' (some g)) (hd : ∃ d', Tbl W' g d' ∧ d ≤ d' ∧ d' ≤ d + (2 * n : Nat)) : SI w w' g d n k v qs fv W' :=
  ⟨h.po.keep hG (.inr fun e => by have := (own_block h.po.own e).1; omega) (fun p u hp hu => (World.cell?_of_block (hG.block p.block (World.block_lt_of_cell? _ _ hu) (fun e => by injection e with e; have hp' : w'.heap.size ≤ p.block := hp; omega))).trans hu),
    h.b0.grown hG (fun e => by injection e with e; omega), h.b1.grown hG (fun e => by injection e with e; omega), h.b2.grown hG (fun e => by injection e with e; omega), only_trans h.gr hG, Nat.le_trans h.sz hG.size, hd⟩
theorem SI.below (h : SI w w' g d n k v qs fv W) (hg : g < w.heap.size) (hb : Below W.heap.size W W') (hs : w.heap.size + 5 ≤ w'.heap.size) : SI w w' g d n k v qs fv W' :=
  have hz := h.sz
  ⟨⟨h.po.len, h.po.nms, own_below h.po.own hb (Nat.le_refl _), fun q hq => (h.po.vals q hq).after hb⟩, h.b0.after hb, h.b1.after hb, h.b2.after hb, grown_below h.gr (hb.mono (by omega)), Nat.le_trans h.sz hb.size, by
    obtain ⟨d', ht, h1, h2⟩ := h.tb
    exact ⟨d', tblB ht hb (by omega), h1, h2⟩⟩
theorem SI.mark (h : SI w w' g d n k v qs fv W) (hg : g < w.heap.size) (hs : w.heap.size + 5 ≤ w'.heap.size) {l : Nat} {o o' : Obj} (hl : w'.heap.size ≤ l) (ho : W.heap[l]? = some o) (hc : o.isCells = false) : SI w w' g d n k v qs fv (W.putObj l o') := by
  have hG : W.grownBy (W.putObj l o') (some l) := grownBy_putObj' W l o'
  have hz := h.sz
  have hb : Below w'.heap.size W (W.putObj l o') := below_put W l o' hl hz
  obtain ⟨d', ht, h1, h2⟩ := h.tb
  exact ⟨h.po.keep hG (.inr fun e => by
      obtain ⟨o2, h3, h4⟩ := (own_block h.po.own e).2
      rw [ho] at h3
      injection h3 with h3
      subst h3
      rw [hc] at h4
      cases h4) (fun p u _ hu => cell_put ho hc hu), h.b0.below hb (by omega), h.b1.below hb (by omega), h.b2.below hb (by omega), grown_below h.gr (hb.mono (by omega)), Nat.le_trans hz hb.size, d', tblB ht hb (by omega), h1, h2⟩
end
theorem PC.all {z m k : Int} {nm : List UInt8} {b : Value} (hb : b.oneCell' = true) : (PC z m k nm b).all (·.oneCell') = true := by
  rw [Array.all_eq_true_iff_forall_mem]
  intro v hv
  exact PC.one hb v (by simpa using hv)
theorem keeps_below {B : Nat} {W W' : World} (h : Below W.heap.size W W') : KeepsFrom B W W' := ⟨h.size, fun k _ _ hk _ => (h.block k (Array.getElem?_eq_some_iff.1 hk).1).trans hk⟩
theorem keeps_grown {B : Nat} {W W' : World} {row : Option Nat} (h : W.grownBy W' row) (hr : ∀ j, row = some j → ∃ o, W.heap[j]? = some o ∧ o.isCells = true) : KeepsFrom B W W' := ⟨h.size, fun k o _ hk hc => (h.block k (Array.getElem?_eq_some_iff.1 hk).1 (fun e => by
  obtain ⟨o2, h2, h3⟩ := hr k e.symm
  rw [hk] at h2
  injection h2 with h2
  subst h2
  rw [hc] at h3
  cases h3)).trans hk⟩
theorem grown_set (W : World) (p : Addr) (u : Value) : W.grownBy (W.setCell p u) (some p.block) := ⟨rfl, rfl, rfl, by simp, fun k _ hk => Below.heap_setCell _ _ _ _ (fun e => hk (by rw [e]))⟩
theorem PO.set {w : World} {T : Nat → Prop} {base n : Nat} {e : TypeId} {v : Value} {qs : List PV} (h : PO w T base e v n qs) (p : Addr) (u : Value) (h1 : p.block < base) (h2 : ∀ k, T k → k ≠ p.block) : PO (w.setCell p u) T base e v n qs :=
  h.keep (grown_set w p u) (.inr fun e => by have := (own_block h.own e).1; omega) (fun q x hq hx => (World.cell?_setCell_other _ _ _ _ (fun e => h2 _ hq (by rw [← e]))).trans hx)
/-- The three results are stored. -/
theorem SI.put {w w' W : World} {g n k : Nat} {d : Int} {v x y z : Value} {qs : List PV} {gd : Int} (hg : g < w.heap.size) (hs : w.heap.size + 5 ≤ w'.heap.size) (po : PO W (fun j => w'.heap.size ≤ j) w'.heap.size 134 v k qs) (b0 : Blk W w.heap.size 115 #[x]) (b1 : Blk W (w.heap.size + 1) 3 #[y]) (b2 : Blk W (w.heap.size + 2) 28 #[z]) (gr : w.grownBy W (some g)) (sz : w'.heap.size ≤ W.heap.size) (tb : ∃ d', Tbl W g d' ∧ d ≤ d' ∧ d' ≤ d + (2 * n : Nat)) (hgd : gd = endOf (qs.map (·.p))) :
    PO ((W.setCell ⟨w.heap.size, 0, none⟩ v).setCell ⟨w.heap.size + 1, 0, none⟩ (.int .i64 gd)) (fun j => w'.heap.size ≤ j) w'.heap.size 134 v k qs ∧ Blk ((W.setCell ⟨w.heap.size, 0, none⟩ v).setCell ⟨w.heap.size + 1, 0, none⟩ (.int .i64 gd)) w.heap.size 115 #[v] ∧ Blk ((W.setCell ⟨w.heap.size, 0, none⟩ v).setCell ⟨w.heap.size + 1, 0, none⟩ (.int .i64 gd)) (w.heap.size + 1) 3 #[.int .i64 (endOf (qs.map (·.p)))] ∧ Blk ((W.setCell ⟨w.heap.size, 0, none⟩ v).setCell ⟨w.heap.size + 1, 0, none⟩ (.int .i64 gd)) (w.heap.size + 2) 28 #[z] ∧ w.grownBy ((W.setCell ⟨w.heap.size, 0, none⟩ v).setCell ⟨w.heap.size + 1, 0, none⟩ (.int .i64 gd)) (some g) ∧ w'.heap.size ≤ ((W.setCell ⟨w.heap.size, 0, none⟩ v).setCell ⟨w.heap.size + 1, 0, none⟩ (.int .i64 gd)).heap.size ∧ ∃ d', Tbl ((W.setCell ⟨w.heap.size, 0, none⟩ v).setCell ⟨w.heap.size + 1, 0, none⟩ (.int .i64 gd)) g d' ∧ d ≤ d' ∧ d' ≤ d + (2 * n : Nat) := by
  subst hgd
  have hb : Below w.heap.size W ((W.setCell ⟨w.heap.size, 0, none⟩ v).setCell ⟨w.heap.size + 1, 0, none⟩ (.int .i64 (endOf (qs.map (·.p)) : Nat))) := ((Below.refl w.heap.size W).setCell (p := ⟨w.heap.size, 0, none⟩) (Nat.le_refl _) _).setCell (p := ⟨w.heap.size + 1, 0, none⟩) (by simp) _
  refine ⟨(po.set _ _ (by simp; omega) (fun k hk => by simp; omega)).set _ _ (by simp; omega) (fun k hk => by simp; omega), (b0.set_ 0 v).far (by simp) _, (b1.far (by simp) _).set_ 0 _, (b2.far (by simp) _).far (by simp) _, grown_below gr (hb.mono (Nat.le_refl _)), by simp [World.setCell]; exact sz, ?_⟩
  obtain ⟨d', ht, h1, h2⟩ := tb
  exact ⟨d', tblB ht hb hg, h1, h2⟩
theorem SI.put2 {w w' W : World} {g n k : Nat} {d : Int} {v x y : Value} {qs : List PV} {gd fv : Int} (hg : g < w.heap.size) (hs : w.heap.size + 5 ≤ w'.heap.size) (po : PO W (fun j => w'.heap.size ≤ j) w'.heap.size 134 v k qs) (b0 : Blk W w.heap.size 115 #[x]) (b1 : Blk W (w.heap.size + 1) 3 #[y]) (b2 : Blk W (w.heap.size + 2) 28 #[.int .i64 fv]) (gr : w.grownBy W (some g)) (sz : w'.heap.size ≤ W.heap.size) (tb : ∃ d', Tbl W g d' ∧ d ≤ d' ∧ d' ≤ d + (2 * n : Nat)) (hgd : gd = endOf (qs.map (·.p))) :
    SI w w' g d n k v qs fv ((W.setCell ⟨w.heap.size, 0, none⟩ v).setCell ⟨w.heap.size + 1, 0, none⟩ (.int .i64 gd)) := by
  obtain ⟨h1, h2, h3, h4, h5, h6, h7⟩ := SI.put hg hs po b0 b1 b2 gr sz tb hgd
  exact ⟨h1, h2, h3, h4, h5, h6, h7⟩
theorem SI.put3 {w w' W : World} {g n k : Nat} {d : Int} {v : Value} {qs : List PV} {gd fv fv' : Int} (hg : g < w.heap.size) (hs : w.heap.size + 5 ≤ w'.heap.size) (h : SI w w' g d n k v qs fv W) (hgd : gd = endOf (qs.map (·.p))) :
    SI w w' g d n k v qs fv' (((W.setCell ⟨w.heap.size, 0, none⟩ v).setCell ⟨w.heap.size + 1, 0, none⟩ (.int .i64 gd)).setCell ⟨w.heap.size + 1 + 1, 0, none⟩ (.int .i64 fv')).drew := by
  obtain ⟨h1, h2, h3, h4, h5, h6, d', h7, h8, h9⟩ := SI.put hg hs h.po h.b0 h.b1 h.b2 h.gr h.sz h.tb hgd
  generalize (W.setCell ⟨w.heap.size, 0, none⟩ v).setCell ⟨w.heap.size + 1, 0, none⟩ (.int .i64 gd) = X at *
  have hb : Below w.heap.size X (X.setCell ⟨w.heap.size + 1 + 1, 0, none⟩ (.int .i64 fv')) := (Below.refl w.heap.size X).setCell (p := ⟨w.heap.size + 1 + 1, 0, none⟩) (by simp; omega) _
  have hb' : Below w.heap.size X (X.setCell ⟨w.heap.size + 1 + 1, 0, none⟩ (.int .i64 fv')).drew := hb.drew
  have p1 := h1.set ⟨w.heap.size + 1 + 1, 0, none⟩ (.int .i64 fv') (by simp; omega) (fun k hk => by simp; omega)
  refine ⟨p1.keep (row := none) (only_of_below ((Below.refl _ _).drew) _) (by cases hv : v.ownBlock with | none => exact .inl rfl | some b => exact .inr (by simp)) (fun _ _ _ hu => hu), (h2.far (by simp; omega) _).drew, (h3.far (by simp) _).drew, (h4.set_ 0 _).drew, grown_below h5 hb', Nat.le_trans h6 hb'.size, d', tblB h7 hb' hg, h8, h9⟩
theorem keeps_drew {B : Nat} {W : World} : KeepsFrom B W W.drew := ⟨Nat.le_refl _, fun _ _ _ h _ => h⟩
theorem keeps3 {B : Nat} (W : World) (p q r : Addr) (u v x : Value) : KeepsFrom B W (((W.setCell p u).setCell q v).setCell r x).drew := ((((KeepsOthers.setCell W p u).from _).trans ((KeepsOthers.setCell _ q v).from _)).trans ((KeepsOthers.setCell _ r x).from _)).trans keeps_drew
theorem keeps2 {B : Nat} (W : World) (p q : Addr) (u v : Value) : KeepsFrom B W ((W.setCell p u).setCell q v) := ((KeepsOthers.setCell W p u).from _).trans ((KeepsOthers.setCell _ q v).from _)
theorem turns_len : ∀ (fuel : Nat) (bs : List UInt8) (z : Nat), (turnsF fuel bs z).length ≤ fuel
  | 0, _, _ => Nat.le_refl _
  | fuel + 1, bs, z => by
    rw [turnsF]
    split
    · simp only [List.length_cons]
      cases frT (bs.drop z) with
      | bad f => simp
      | good k nm b m => have := turns_len fuel bs (z + m); simp only; omega
    · simp
/-- A placed record more. -/
theorem SI.more {w w' W w4 : World} {g n k : Nat} {d : Int} {v v4 : Value} {qs : List PV} {q : PV} {X : Array Value} (hg : g < w.heap.size) (hs : w.heap.size + 5 ≤ w'.heap.size) (h : SI w w' g d n k v qs 0 W) (hn : q.p.nm.length = 32)
    (hx : Bs W (fun j => w'.heap.size ≤ j ∧ some j ≠ v.ownBlock) q.A q.p.bs.length q.c q.p.bs) (hown : w4.ownsRow w'.heap.size 134 36 v4 (k + 1) (flatP qs ++ q.cells)) (hg4 : (W.alloc (.cells X 134)).grownBy w4 v.ownBlock) (hat : v4.ownBlock = v.ownBlock ∨ v4.ownBlock = some (W.alloc (.cells X 134)).heap.size) :
    SI w w' g d n (k + 1) v4 (qs ++ [q]) 0 ((w4.setCell ⟨w.heap.size, 0, none⟩ v4).setCell ⟨w.heap.size + 1, 0, none⟩ (.int .i64 ((q.p.z + q.p.m : Nat) : Int))) ∧ KeepsFrom w'.heap.size W ((w4.setCell ⟨w.heap.size, 0, none⟩ v4).setCell ⟨w.heap.size + 1, 0, none⟩ (.int .i64 ((q.p.z + q.p.m : Nat) : Int))) ∧ KpB w.heap.size (w.heap.size + 1 + 1 + 1 + 1) (w.heap.size + 1 + 1 + 1) W ((w4.setCell ⟨w.heap.size, 0, none⟩ v4).setCell ⟨w.heap.size + 1, 0, none⟩ (.int .i64 ((q.p.z + q.p.m : Nat) : Int))) := by
  have hz := h.sz
  have ha : Below W.heap.size W (W.alloc (.cells X 134)) := (Below.refl _ _).alloc (Nat.le_refl _) _
  have hob : ∀ j, v.ownBlock = some j → w'.heap.size ≤ j := fun j e => (own_block h.po.own e).1
  have h4 : Below w'.heap.size (W.alloc (.cells X 134)) w4 := (Below.refl _ _).grown hg4 (Nat.le_trans hz ha.size) (fun j e => hob j e)
  have hW4 : Below w'.heap.size W w4 := (ha.mono hz).trans h4
  have hi := h.below hg ha hs
  have po4 : PO w4 (fun j => w'.heap.size ≤ j) w'.heap.size 134 v4 (k + 1) (qs ++ [q]) := hi.po.snoc hn hown hg4 hat (hx.after ha)
  obtain ⟨d', ht, h1, h2⟩ := h.tb
  refine ⟨SI.put2 hg hs po4 (h.b0.below hW4 (by omega)) (h.b1.below hW4 (by omega)) (h.b2.below hW4 (by omega)) (grown_below h.gr (hW4.mono (by omega))) (Nat.le_trans hz hW4.size) ⟨d', tblB ht hW4 (by omega), h1, h2⟩ (by rw [List.map_append, List.map_cons, List.map_nil, endOf_snoc]), ?_, ?_, ?_, ?_⟩
  · refine ((keeps_below ha).trans (keeps_grown hg4 (fun j e => ?_))).trans (keeps2 _ _ _ _ _)
    exact (own_block hi.po.own e).2
  · have hW5 : Below w.heap.size W w4 := hW4.mono (by omega)
    exact (hW5.setCell (p := ⟨w.heap.size, 0, none⟩) (Nat.le_refl _) _).setCell (p := ⟨w.heap.size + 1, 0, none⟩) (by simp) _
  · rw [Below.heap_setCell _ _ _ _ (by show ¬ w.heap.size + 1 + 1 + 1 + 1 = w.heap.size + 1; omega), Below.heap_setCell _ _ _ _ (by show ¬ w.heap.size + 1 + 1 + 1 + 1 = w.heap.size; omega)]
    exact hW4.block _ (by omega)
  · rw [Below.heap_setCell _ _ _ _ (by show ¬ w.heap.size + 1 + 1 + 1 = w.heap.size + 1; omega), Below.heap_setCell _ _ _ _ (by show ¬ w.heap.size + 1 + 1 + 1 = w.heap.size; omega)]
    exact hW4.block _ (by omega)
theorem scan_cells {w w' W w4 : World} {g n k T7 : Nat} {d z m K : Int} {v b : Value} {qs : List PV} {nm : List UInt8} {X : Array Value} (hs : w.heap.size + 5 ≤ w'.heap.size) (h : SI w w' g d n k v qs 0 W) (h7 : Blk W T7 134 (PC z m K nm b)) (hv : v.ownBlock ≠ some T7) (hg4 : (W.alloc (.cells X 134)).grownBy w4 v.ownBlock) :
    w4.cell? ⟨w.heap.size, 0, none⟩ = some v ∧ w4.frozen? ⟨w.heap.size, 0, none⟩ = false ∧ w4.cell? ⟨w.heap.size + 1, 0, none⟩ = some (.int .i64 (endOf (qs.map (·.p)))) ∧ w4.frozen? ⟨w.heap.size + 1, 0, none⟩ = false ∧ w4.cell? ⟨T7, 0, none⟩ = some (.int .i64 z) ∧ w4.cell? ⟨T7, 1, none⟩ = some (.int .i64 m) := by
  have hob : ∀ j, v.ownBlock = some j → w'.heap.size ≤ j := fun j e => (own_block h.po.own e).1
  have b0 := (h.b0.alloc (.cells X 134)).grown hg4 (fun e => by have := hob _ e.symm; omega)
  have b1 := (h.b1.alloc (.cells X 134)).grown hg4 (fun e => by have := hob _ e.symm; omega)
  have b7 := (h7.alloc (.cells X 134)).grown hg4 (fun e => hv e.symm)
  exact ⟨b0.cell 0, b0.frozen 0, b1.cell 0, b1.frozen 0, (b7.cell 0).trans PC.at0, (b7.cell 1).trans PC.at1⟩
theorem reads_pc (W : World) (z m k : Int) (nm : List UInt8) (b : Value) (h : nm.length = 32) : Reads (W.alloc (.cells (PC z m k nm b) 134)) AnyB 36 (some ⟨W.heap.size, 0, none⟩) 1 (PC z m k nm b).toList :=
  ⟨by have := PC.size (z := z) (m := m) (k := k) (b := b) h; simpa using this, fun _ => ⟨_, rfl, trivial, fun j u hu => by rw [add_plain, World.cell?_alloc_new]; simpa using hu⟩⟩
/-- What Scan answers. -/
def FScanEnd (w : World) (g : Nat) (d : Int) (n : Nat) (T : List (Nat × FrR)) (e : Ending) (w' : World) : Prop :=
  ∃ A c, e = .returned (.tuple #[.slice A (goods T).length c, .int .i64 (endOf (goods T)), .int .i64 (faultOf T)]) ∧ PQ w' (fun k => w.heap.size ≤ k) A (goods T).length c (goods T) ∧ w.grownBy w' (some g) ∧ ∃ d', Tbl w' g d' ∧ d ≤ d' ∧ d' ≤ d + (2 * n : Nat)
theorem scan_end {w w' W : World} {g n k : Nat} {d fv : Int} {Av : Option Addr} {cv : Nat} {qs : List PV} {T : List (Nat × FrR)} (hs : w.heap.size ≤ w'.heap.size) (h : SI w w' g d n k (.slice Av k cv) qs fv W) (hq : qs.map (·.p) = goods T) (hf : fv = faultOf T) :
    FScanEnd w g d n T (.returned (.tuple #[.slice Av k cv, .int .i64 (endOf (qs.map (·.p)) : Nat), .int .i64 fv])) W := by
  have hk : (goods T).length = k := by rw [← hq, List.length_map, h.po.len]
  refine ⟨Av, cv, by rw [hk, hq, hf], ?_, h.gr, h.tb⟩
  rw [hk, ← hq]
  exact h.po.reads.keepC (fun _ _ _ hu => hu) (fun j hj _ => by
    rcases hj with hj | hj
    · exact Nat.le_trans hs hj
    · exact Nat.le_trans hs hj)
/-- Ahead of a round's body. -/
def ScanIa (w w' : World) (g : Nat) (d : Int) (n c : Nat) (A : Option Addr) (bs : List UInt8) (k : Nat) (_ : Array Value) (a : Act) (W : World) : Prop :=
  ∃ v qs T7 z K nm A9 n9 c9 m f, SI w w' g d n k v qs 0 W ∧ allGood ((turnsF (bs.length + 1) bs 0).take k) ∧ qs.map (·.p) = goods ((turnsF (bs.length + 1) bs 0).take k) ∧ v.ownBlock ≠ some T7 ∧ w'.heap.size ≤ T7 ∧ Blk W T7 134 (PC (z : Nat) m K nm (.slice A9 n9 c9)) ∧
    (turnsF (bs.length + 1) bs 0)[k]? = some (z, frT (bs.drop z)) ∧ z < bs.length ∧ nm.length = 32 ∧ (match frT (bs.drop z) with
      | .bad F => f = F
      | .good K' NM b M => K = (K' : Int) ∧ nm = NM ∧ n9 = b.length ∧ m = (M : Int) ∧ f = 0 ∧ Bs W (fun j => w'.heap.size ≤ j ∧ some j ≠ v.ownBlock) A9 b.length c9 b) ∧
    a = { tmps := #[.pointer (some ⟨g, 0, none⟩), .slice A n c, undef, undef, .pointer (some ⟨w.heap.size, 0, none⟩), .pointer (some ⟨w.heap.size + 1, 0, none⟩), .pointer (some ⟨w.heap.size + 1 + 1, 0, none⟩), .pointer (some ⟨T7, 0, none⟩), .int .i64 f, .pointer (some ⟨g, 0, none⟩), .bool false, .pointer (some ⟨g, 0, none⟩), .slice A n c, .func (.func 133) #[] #[.pointer (some ⟨w.heap.size + 1 + 1 + 1 + 1, 0, none⟩), .pointer (some ⟨w.heap.size + 1 + 1 + 1, 0, none⟩)], .agg (PC (z : Nat) m K nm (.slice A9 n9 c9)), .int .i64 f, undef, undef, undef, undef, undef, undef, undef, undef, undef, undef, undef, undef, undef, undef, undef, undef], defers := [] }
theorem turns_lt : ∀ {fuel : Nat} {bs : List UInt8} {z0 k z : Nat} {R : FrR}, (turnsF fuel bs z0)[k]? = some (z, R) → z < bs.length
  | 0, _, _, _, _, _, h => by simp [turnsF] at h
  | fuel + 1, bs, z0, k, z, R, h => by
    by_cases hz : z0 < bs.length
    · rw [turns_at hz] at h
      cases k with
      | zero =>
        simp at h
        rw [← h.1]; exact hz
      | succ k =>
        simp only [List.getElem?_cons_succ] at h
        cases hR : frT (bs.drop z0) with
        | bad f => rw [hR] at h; simp at h
        | good K nm b m => rw [hR] at h; exact turns_lt h
    · rw [turns_end hz] at h; simp at h
set_option maxRecDepth 100000 in
set_option maxHeartbeats 4000000 in
theorem fscan_any (w : World) (g : Nat) (d : Int) (S : Nat → Prop) (A : Option Addr) (n c : Nat) (bs : List UInt8) (ht : Tbl w g d) (hd : 0 ≤ d ∧ d ≤ 500000000) (hx : Bs w S A n c bs) (hS : ∀ k, S k → k < w.heap.size → k ≠ g) (hn : n ≤ 100000000) :
    Calls Try.prog 68 #[.pointer (some ⟨g, 0, none⟩), .slice A n c] w (FScanEnd w g d n (turnsF (bs.length + 1) bs 0)) := by
  have hgl := tbl_lt ht
  have HX := Lib.hid hx.oldS
  have HSS := Lib.hid hS
  have HT := Lib.hid ht
  have HL := Lib.hid hx.len
  clear hx hS ht
  refine (callsIn_wide (n := 3)).1 ?_
  refine callsIn_of_wp_marks Try.func68 rfl trivial ?_ rfl
  simp only [Try.ntmps68, List.size_toArray, List.length_cons, List.length_nil, Nat.reduceAdd, Nat.reduceSub, Array.replicate_succ, Array.replicate_zero, List.push_toArray, List.append_toArray, List.nil_append, List.cons_append]
  gi_wp2_with fail
  refine ⟨trivial, ?_⟩
  refine (callsIn_wide.2 (frames_any _ _ A n c)).mono ?_
  rintro e w' ⟨rfl, hw'⟩
  have HW := Lib.hid hw'
  clear hw'
  gi_wp2_with fail
  have hw' := HW.out
  clear HW
  have hB0 : Below w.heap.size w w' := by rw [hw']; exact (((((Below.refl _ w).alloc (Nat.le_refl _) _).alloc (by simp) _).alloc (by simp; omega) _).alloc (by simp; omega) _).alloc (by simp; omega) _
  have hsz : w'.heap.size = w.heap.size + 5 := by rw [hw']; simp
  have b0 : Blk w' w.heap.size 115 #[.slice none 0 0] := by rw [hw']; exact ((((Blk.new _ _ _).alloc _).alloc _).alloc _).alloc _
  have b1 : Blk w' (w.heap.size + 1) 3 #[.int .i64 0] := by rw [hw']; exact (((blk_new (by simp)).alloc _).alloc _).alloc _
  have b2 : Blk w' (w.heap.size + 2) 28 #[.int .i64 0] := by rw [hw']; exact ((blk_new (by simp)).alloc _).alloc _
  have hc2 : w'.cell? ⟨w.heap.size + 1 + 1 + 1, 0, none⟩ = some (.pointer (some ⟨g, 0, none⟩)) := by rw [hw']; exact (Blk.alloc (t := 50) (cs := #[.pointer (some ⟨g, 0, none⟩)]) (blk_new (by simp)) _).cell 0
  have hc1 : w'.cell? ⟨w.heap.size + 1 + 1 + 1 + 1, 0, none⟩ = some (.slice A n c) := by rw [hw']; exact (Blk.cell (t := 22) (cs := #[.slice A n c]) (blk_new (by simp)) 0)
  have HQ := Lib.hid (frames1_hands 2 (by omega) w' w.heap.size g (w.heap.size + 1 + 1 + 1 + 1) (w.heap.size + 1 + 1 + 1) d _ A n c bs hc1 hc2 (by omega) (by omega) (HT.out.after hB0) hd (HX.out.after hB0) hn (fun k hk => ⟨hk.2, HSS.out k hk.1 hk.2⟩) hgl hB0.size)
  have HI0 : Hid (SI w w' g d n 0 (.slice none 0 0) [] 0 w') := Lib.hid ⟨PO.nil _ _ _ _, b0, b1, b2, only_of_below hB0 _, Nat.le_refl _, d, HT.out.after hB0, by omega, by omega⟩
  clear hw' b0 b1 b2 hc1 hc2 hB0
  obtain ⟨T, hTT⟩ : ∃ T, T = turnsF (bs.length + 1) bs 0 := ⟨_, rfl⟩
  have HTT := Lib.hid hTT
  refine range_turns rfl (by omega) (gf := 133) (lb := #[.pointer (some ⟨w.heap.size + 1 + 1 + 1 + 1, 0, none⟩), .pointer (some ⟨w.heap.size + 1 + 1 + 1, 0, none⟩)]) (w0 := w') ?gval trivial (enters_of Try.func133 (by kernel_rfl) rfl) (N := (turnsF (bs.length + 1) bs 0).length) (bg := g) HQ.out
    (fun h k => ⟨h.1.trans k.1, k.2.1.trans h.2.1, k.2.2.trans h.2.2⟩) ?kput (Below.refl _ _) (by omega) ?psz
    (fun k W => allGood ((turnsF (bs.length + 1) bs 0).take k) ∧ ∃ v qs, qs.map (·.p) = goods ((turnsF (bs.length + 1) bs 0).take k) ∧ SI w w' g d n k v qs 0 W)
    (fun c _ W => c = .ret ∧ ∃ v qs k, qs.map (·.p) = goods (turnsF (bs.length + 1) bs 0) ∧ SI w w' g d n k v qs (faultOf (turnsF (bs.length + 1) bs 0)) W) ?turns ?marks ?turnsx ?marksx ?start
    (ScanIa w w' g d n c A bs) ?iam ?assign ?body ?done ?stop
  case gval => rfl
  case kput =>
    intro W l o o' hl h hc
    have hlt := (Array.getElem?_eq_some_iff.1 h).1
    exact ⟨below_put W l o' (by omega) (by omega), World.putObj_heap_other (by omega), World.putObj_heap_other (by omega)⟩
  case psz =>
    rintro k W0 W x ⟨z, K, nm, A9, n9, c9, m, f, -, rfl, -⟩
    rfl
  case turns =>
    rintro k W W' ⟨h1, v, qs, h2, h3⟩ hG hd'
    exact ⟨h1, v, qs, h2, h3.turn hgl (by omega) hG hd'⟩
  case marks =>
    exact ⟨fun k W l o o' h hl ho hc => by obtain ⟨h1, v, qs, h2, h3⟩ := h; exact ⟨h1, v, qs, h2, h3.mark hgl (by omega) hl ho hc⟩, fun k W _ h => by obtain ⟨h1, v, qs, h2, h3⟩ := h; exact ⟨h1, v, qs, h2, h3.below hgl ((Below.refl _ _).alloc (Nat.le_refl _) _) (by omega)⟩⟩
  case turnsx =>
    rintro c' k W W' ⟨h1, v, qs, k', h2, h3⟩ hG hd'
    exact ⟨h1, v, qs, k', h2, h3.turn hgl (by omega) hG hd'⟩
  case marksx =>
    exact fun c' => ⟨fun k W l o o' h hl ho hc => by obtain ⟨h1, v, qs, k', h2, h3⟩ := h; exact ⟨h1, v, qs, k', h2, h3.mark hgl (by omega) hl ho hc⟩, fun k W _ h => by obtain ⟨h1, v, qs, k', h2, h3⟩ := h; exact ⟨h1, v, qs, k', h2, h3.below hgl ((Below.refl _ _).alloc (Nat.le_refl _) _) (by omega)⟩⟩
  case start => exact ⟨by rw [List.take_zero]; exact allGood.nil, _, [], by rw [List.take_zero]; rfl, HI0.out⟩
  case iam =>
    rintro k x a W l o o' ⟨v, qs, T7, z, K, nm, A9, n9, c9, m, f, h1, h2, h3, h4, h5, h6, h7, h8, h9, h10, h11⟩ hl ho hc hc'
    refine ⟨v, qs, T7, z, K, nm, A9, n9, c9, m, f, h1.mark hgl (by omega) hl ho hc, h2, h3, h4, h5, ?_, h7, h8, h9, ?_, h11⟩
    · refine (World.putObj_heap_other ?_).trans h6
      rintro rfl
      have h6' : W.heap[T7]? = _ := h6
      rw [ho] at h6'
      injection h6' with h6'
      subst h6'
      cases hc
    · cases hR : frT (bs.drop z) with
      | bad F => rw [hR] at h10; exact h10
      | good K' NM b M =>
        rw [hR] at h10
        obtain ⟨q1, q2, q3, q4, q5, q6⟩ := h10
        exact ⟨q1, q2, q3, q4, q5, q6.keepC (fun p u _ hu => cell_put ho hc hu) (fun _ h _ => h)⟩
  case assign =>
    rintro l k x W0 W K ⟨hg0, v, qs, hq, hsi⟩ - hlt ⟨z, K9, nm, A9, n9, c9, m, f, hTk, rfl, hnm, hr, hG, hd'⟩ hK
    have hsi1 := hsi.turn hgl (by omega) hG hd'
    have hvb : ∀ b, v.ownBlock = some b → w'.heap.size ≤ b ∧ b < W0.heap.size := fun b hb => by
      obtain ⟨h1, o, h2, -⟩ := own_block hsi.po.own hb
      exact ⟨h1, (Array.getElem?_eq_some_iff.1 h2).1⟩
    have HK := Lib.hid hK
    have HH := Lib.hid (And.intro hg0 (And.intro hq (And.intro hsi1 (And.intro hvb (And.intro hTk (And.intro hnm (And.intro hr (And.intro hG hsi.sz))))))))
    clear hK hg0 hq hsi1 hvb hTk hr hG hd' hsi
    gi_wp2_with (first | (refine wr_op rfl rfl (wp_store_row 134 (.tmp 7) (.tmp 14) rfl W.heap.size _ rfl rfl 134 _ (blk_new rfl) (by rw [size134, PC.size hnm]) (by rw [PC.size hnm]; rfl) (PC.all rfl) ?_)))
    obtain ⟨hg0, hq, hsi1, hvb, hTk, hnm, hr, hG, hszz⟩ := HH.out
    have hb : ∀ X Y, Below W.heap.size W ((W.alloc X).setRow W.heap.size Y) := fun X Y => below_setRow ((Below.refl _ _).alloc (Nat.le_refl _) _) (Nat.le_refl _) _
    have hGs := hG.size
    refine HK.out _ _ ⟨v, qs, W.heap.size, z, K9, nm, A9, n9, c9, m, f, hsi1.below hgl (hb _ _) (by omega), hg0, hq, (fun e => by have := (hvb _ e).2; omega), by omega, setRow_heap _ _ _ _ 134 (0, 0) (blk_new rfl), hTk, turns_lt hTk, hnm, ?_, rfl⟩ (keeps_below (hb _ _)) ⟨(hb _ _).mono (by omega), (hb _ _).block _ (by omega), (hb _ _).block _ (by omega)⟩
    cases hR : frT (bs.drop z) with
    | bad F => rw [hR] at hr; exact hr.2.2.2.2
    | good K' NM b M =>
      rw [hR] at hr
      obtain ⟨A', c', q1, q2, q3, q4, q5, q6⟩ := hr
      injection q3 with q7 q8 q9
      subst q7 q8 q9
      exact ⟨q1, q2, rfl, q4, q5, (q6.after (hb _ _)).mono (fun j hj => ⟨by omega, fun e => by have := (hvb j e.symm).2; omega⟩)⟩
  case body =>
    rintro l k x a W ⟨v, qs, T7, z, K, nm, A9, n9, c9, m, f, hsi, hag, hq, hvT, hT7, hb7, hTk, hzl, hnm, hR, rfl⟩ hlt
    obtain ⟨Av, cv, rfl, hcv⟩ := hsi.po.shape
    obtain ⟨c0, f0, -⟩ := hsi.b0.one
    obtain ⟨c1, f1, -⟩ := hsi.b1.one
    obtain ⟨c2, f2, -⟩ := hsi.b2.one
    have hsW := hsi.sz
    cases hR' : frT (bs.drop z) with
    | bad F =>
      rw [hR'] at hR
      simp only at hR
      subst hR
      have d1 : (f != 0) = true := by simpa using frT_bad hR'
      have HH := Lib.hid (And.intro hsi (goods_stop hag (by rw [hTk, hR'])))
      clear hsi hag hb7 hTk hR'
      have c2' : W.cell? ⟨w.heap.size + 1 + 1, 0, none⟩ = some (.int .i64 0) := c2
      have f2' : W.frozen? ⟨w.heap.size + 1 + 1, 0, none⟩ = false := f2
      gi_wp2_with fail
      refine wpIn_mono (Q := fun e _ W2 => e = .normal ∧ W2 = (((W.setCell ⟨w.heap.size, 0, none⟩ (.slice Av k cv)).setCell ⟨w.heap.size + 1, 0, none⟩ (.int .i64 ((endOf (goods ((turnsF (bs.length + 1) bs 0).take k)) : Nat) : Int))).setCell ⟨w.heap.size + 1 + 1, 0, none⟩ (.int .i64 f)).drew) ?_ ?_
      · gi_region
        all_goals exact ⟨rfl, rfl⟩
      rintro e a' W2 ⟨rfl, rfl⟩
      gi_wp2_with fail
      refine ⟨keeps3 _ _ _ _ _ _ _, rfl, .slice Av k cv, qs, k, ?_, ?_⟩
      · rw [HH.out.2.1, hq]
      · rw [HH.out.2.2]
        exact HH.out.1.put3 hgl (by omega) (by rw [hq])
    | good K' NM b M =>
      rw [hR'] at hR
      obtain ⟨rfl, rfl, rfl, rfl, rfl, hbx⟩ := hR
      have hzM : z + M ≤ n := by
        have h := (frT_size hR').2
        rw [List.length_drop, HL.out] at h
        rw [HL.out] at hzl
        omega
      have hkn : k ≤ 100000000 := by
        have := turns_len (bs.length + 1) bs 0
        rw [HL.out] at this hlt
        omega
      obtain ⟨ie, zz, hie, hzz, hsz1, hzs, hby, hfill⟩ := fill134 (z : Nat) (M : Nat) (K' : Nat) nm A9 b.length c9 hnm
      have HFI := Lib.hid (And.intro hie (And.intro hzz (And.intro hsz1 (And.intro hzs (And.intro hby hfill)))))
      have hTW := hb7.lt
      have HH := Lib.hid (And.intro hsi (And.intro (goods_step hag (by rw [hTk, hR'])) (And.intro hb7 (And.intro hbx (And.intro hq hvT)))))
      have hne0 : ¬ w.heap.size = T7 := by omega
      have hne1 : ¬ w.heap.size + 1 = T7 := by omega
      clear hsi hag hb7 hTk hR' hbx hie hzz hsz1 hzs hby hfill hq hvT
      gi_wp2_with (first | (refine wr_op rfl rfl (wp_load_row 134 (.tmp 7) rfl T7 rfl 134 _ (0, 0) _ HH.out.2.2.1 Try.underlying134 rfl (by rw [size134, PC.size hnm]) ?_)) | (refine wr_op rfl rfl (wp_buildSlice 115 134 1 _ rfl (PC (z : Nat) (M : Nat) (K' : Nat) nm (.slice A9 b.length c9)) ie zz Try.underlying115 HFI.out.1 HFI.out.2.1 (by rw [HFI.out.2.2.1]; omega) (by rw [HFI.out.2.2.1]; omega) (by simp only [List.map_toArray, List.map_cons, List.map_nil]; exact HFI.out.2.2.2.2.2) ?_)) | (refine wr_op rfl rfl (wp_append_any _ (.tmp 21) (.tmp 23) 115 rfl w'.heap.size 134 ie zz 36 80 Try.underlying115 HFI.out.1 HFI.out.2.1 HFI.out.2.2.1 HFI.out.2.2.2.2.1 HFI.out.2.2.2.1 (by omega) (.slice Av k cv) k (flatP qs) rfl (HH.out.1.below hgl ((Below.refl _ _).alloc (Nat.le_refl _) _) (by omega)).po.own AnyB (some ⟨W.heap.size, 0, none⟩) 1 1 _ rfl (reads_pc W (z : Nat) (M : Nat) (K' : Nat) nm (.slice A9 b.length c9) hnm) (PC.one rfl) (by simp only [maxLen]; omega) (by omega) (by simp; omega) ?_); intro v4 w4 hown4 hg4 hat4; go_must ((obtain ⟨A4, c4, rfl, hc4⟩ := own_shape hown4; obtain ⟨k0, s0, k1, s1, m0, m1⟩ := scan_cells (by omega) HH.out.1 HH.out.2.2.1 HH.out.2.2.2.2.2 hg4; have H4 := Lib.hid (And.intro hown4 (And.intro hg4 hat4)); clear hown4 hg4 hat4))))
      obtain ⟨m1, m2, m3⟩ := HH.out.1.more hgl (by omega) (q := ⟨⟨z, M, K', nm, b⟩, A9, c9⟩) hnm HH.out.2.2.2.1 H4.out.1 H4.out.2.1 H4.out.2.2
      rw [show ((z : Int) + (M : Int)) = ((z + M : Nat) : Int) by omega]
      exact ⟨m2, m3, HH.out.2.1.1, _, _, by rw [List.map_append, HH.out.2.2.2.2.1, HH.out.2.1.2]; rfl, m1⟩
  case done =>
    rintro D W hD ⟨hag, v, qs, hq, hsi⟩ hK
    obtain ⟨Av, cv, rfl, hcv⟩ := hsi.po.shape
    obtain ⟨c0, f0, -⟩ := hsi.b0.one
    obtain ⟨c1, f1, -⟩ := hsi.b1.one
    obtain ⟨c2, f2, -⟩ := hsi.b2.one
    have hsW := hsi.sz
    obtain ⟨gd, hgd⟩ : ∃ gd : Nat, gd = endOf (qs.map (·.p)) := ⟨_, rfl⟩
    rw [← hgd] at c1
    have HH := Lib.hid (And.intro hsi (And.intro (hq.trans (goods_all hag).1.symm) (And.intro (goods_all hag).2 (And.intro hK hgd))))
    clear hsi hag hK hq hgd
    have c2' : W.cell? ⟨w.heap.size + 1 + 1, 0, none⟩ = some (.int .i64 0) := c2
    have f2' : W.frozen? ⟨w.heap.size + 1 + 1, 0, none⟩ = false := f2
    gi_wp2_with fail
    refine wpIn_mono (Q := fun e a' W2 => e = .normal ∧ a' = { tmps := #[.pointer (some ⟨g, 0, none⟩), .slice A n c, undef, undef, .pointer (some ⟨w.heap.size, 0, none⟩), .pointer (some ⟨w.heap.size + 1, 0, none⟩), .pointer (some ⟨w.heap.size + 1 + 1, 0, none⟩), undef, undef, .pointer (some ⟨g, 0, none⟩), .bool false, .pointer (some ⟨g, 0, none⟩), .slice A n c, .func (.func 133) #[] #[.pointer (some ⟨w.heap.size + 1 + 1 + 1 + 1, 0, none⟩), .pointer (some ⟨w.heap.size + 1 + 1 + 1, 0, none⟩)], undef, undef, undef, undef, undef, undef, undef, undef, undef, undef, undef, undef, undef, undef, undef, undef, .slice Av (turnsF (bs.length + 1) bs 0).length cv, .int .i64 (gd : Int)], defers := [{ target := .collected D, args := #[] }] } ∧ W2 = (((W.setCell ⟨w.heap.size, 0, none⟩ (.slice Av (turnsF (bs.length + 1) bs 0).length cv)).setCell ⟨w.heap.size + 1, 0, none⟩ (.int .i64 (gd : Int))).setCell ⟨w.heap.size + 1 + 1, 0, none⟩ (.int .i64 0)).drew) ?_ ?_
    · gi_region
      all_goals exact ⟨rfl, rfl, rfl⟩
    rintro e a' W2 ⟨rfl, rfl, rfl⟩
    gi_wp2_with fail
    have hK2 := (keeps3 (B := 0) W ⟨w.heap.size, 0, none⟩ ⟨w.heap.size + 1, 0, none⟩ ⟨w.heap.size + 1 + 1, 0, none⟩ (.slice Av (turnsF (bs.length + 1) bs 0).length cv) (.int .i64 (gd : Int)) (.int .i64 0)).same D _ (Nat.zero_le _) HH.out.2.2.2.1 rfl
    have si2 := (HH.out.1.put3 (fv' := 0) (gd := (gd : Int)) hgl (by omega) (by rw [HH.out.2.2.2.2])).mark hgl (by omega) (o' := .deferred none) hD hK2 rfl
    refine ⟨by simp, .inl ⟨_, _, rfl, run_takeDeferred hK2, ?_⟩⟩
    exact ⟨_, results_c3 rfl rfl rfl rfl (load_one si2.b0 _ (.inl rfl)) (load_one si2.b1 _ (.inr (.inl rfl))) (load_one si2.b2 _ (.inr (.inr rfl))), scan_end (by omega) si2 HH.out.2.1 HH.out.2.2.1.symm⟩
  case stop =>
    rintro D c' k' W hD - - ⟨rfl, v, qs, k, hq, hsi⟩ hK
    obtain ⟨Av, cv, rfl, hcv⟩ := hsi.po.shape
    have HH := Lib.hid (And.intro hsi (And.intro hq hK))
    clear hsi hq hK
    gi_wp2_with fail
    have si2 := HH.out.1.mark hgl (by omega) (o' := .deferred none) hD HH.out.2.2 rfl
    refine ⟨by simp, .inl ⟨_, _, rfl, run_takeDeferred HH.out.2.2, ?_⟩⟩
    exact ⟨_, results_c3 rfl rfl rfl rfl (load_one si2.b0 _ (.inl rfl)) (load_one si2.b1 _ (.inr (.inl rfl))) (load_one si2.b2 _ (.inr (.inr rfl))), scan_end (by omega) si2 HH.out.2.1 rfl⟩
end Go.Proofs.Ytaebmhbggbpnoaa
