/- Walks of the plain reading of a value (hayloftref01.read): lists, the whole. Conditions: each theorem's premises. -/
import Derived.Test.YtaebmhbggbpnoaaTlv7
namespace Go.Proofs.Ytaebmhbggbpnoaa
open Go.RowKit
theorem splitT_drop {bs inn rest : List UInt8} {t : Nat} (hs : splitT bs = some (t, inn, rest)) : rest = bs.drop (bs.length - rest.length) := by
  have hlen := (splitT_short hs).2
  match bs, hs with
  | t' :: h :: l :: xs, hs =>
    simp only [splitT] at hs
    split at hs
    · rename_i hle
      simp only [Option.some.injEq, Prod.mk.injEq] at hs
      obtain ⟨rfl, rfl, rfl⟩ := hs
      have e : (t' :: h :: l :: xs).length - (xs.drop (h.toNat * 256 + l.toNat)).length = h.toNat * 256 + l.toNat + 1 + 1 + 1 := by simp; omega
      rw [e]
      simp
    · cases hs
theorem readT_drop {d : Nat} {b rest : List UInt8} {v : TV} (h : readT d b = some (v, rest)) : rest = b.drop (b.length - rest.length) := by
  unfold readT at h
  split at h
  · cases h
  · rename_i t inn rest' hs
    have key : rest = rest' := by
      split at h
      · split at h
        · injection h with h; injection h with _ h; exact h.symm
        · cases h
      · split at h
        · injection h with h; injection h with _ h; exact h.symm
        · split at h
          · split at h
            · cases h
            · rw [Option.map_eq_some_iff] at h
              obtain ⟨l, _, h⟩ := h
              injection h with _ h
              exact h.symm
          · cases h
    subst key
    exact splitT_drop hs
def RReadSaid (d : Nat) : Prop := ∀ (w : World) (S : Nat → Prop) (A : Option Addr) (n c : Nat) (bs : List UInt8), Bs w S A n c bs → n ≤ 1000000000 → Calls Try.prog 89 #[.slice A n c, .int .i64 (d : Int)] w (RReadPost w n (readT d bs))
set_option maxRecDepth 10000 in
set_option maxHeartbeats 4000000 in
theorem rread_list (d : Nat) (w : World) (S : Nat → Prop) (A : Option Addr) (n c : Nat) (t h l : UInt8) (xs : List UInt8) (hx : Bs w S A n c (t :: h :: l :: xs)) (hn : n ≤ 1000000000) (hlt : ¬ xs.length < h.toNat * 256 + l.toNat) (hd : d ≤ 1000000) (ih : RReadSaid d) (h1 : t = 3) :
    Calls Try.prog 89 #[.slice A n c, .int .i64 ((d + 1 : Nat) : Int)] w (RReadPost w n ((readAll (readT d) (xs.take (h.toNat * 256 + l.toNat))).map fun y => (.mk 3 0 [] y, xs.drop (h.toNat * 256 + l.toNat)))) := by
  have hl := hx.len
  simp only [List.length_cons] at hl
  have h3 : ¬ n < 3 := by omega
  obtain ⟨ad, b0, rfl, e0, c0⟩ := hx.at0 (by omega)
  obtain ⟨_, b1, he, e1, c1⟩ := hx.atS 0 (by omega)
  cases he
  obtain ⟨_, b2, he, e2, c2⟩ := hx.atS 1 (by omega)
  cases he
  obtain rfl : t = b0 := by simpa using e0.out
  obtain rfl : h = b1 := by simpa using e1.out
  obtain rfl : l = b2 := by simpa using e2.out
  have hadb : ad.block < w.heap.size := by
    obtain ⟨ad', he, h', _⟩ := hx.oldS.rd.2 (by omega)
    cases he
    exact h'.2
  have c0' : (w.alloc (.cells #[.int .i64 0, .int .u64 0, .slice none 0 0, .slice none 0 0] 33)).cell? ad = _ := (World.cell?_alloc_lt _ _ _ hadb).trans c0
  have n1 : ((1:Int) < (n : Int)) := by omega
  have n2 : ((2:Int) < (n : Int)) := by omega
  have n0 : ((0:Int) < (n : Int)) := by omega
  have u1 := u8_lt h
  have u2 := u8_lt l
  have u0 := u8_lt t
  obtain ⟨m, hm0⟩ : ∃ m, m = h.toNat * 256 + l.toNat := ⟨_, rfl⟩
  have hm : (h.toNat : Int) * 256 + (l.toNat : Int) = (m : Int) := by omega
  have hm16 : m ≤ 65535 := by have := h.toNat_lt; have := l.toNat_lt; omega
  rw [← hm0] at hlt
  have Hm0 := Lib.hid hm0
  have d1 : decide ((n : Int) < 3 + (m : Int)) = false := by simp; omega
  have hblk := Blk.new w 33 #[.int .i64 0, .int .u64 0, .slice none 0 0, .slice none 0 0]
  have hb0 : Below w.heap.size w (w.alloc (.cells #[.int .i64 0, .int .u64 0, .slice none 0 0, .slice none 0 0] 33)) := (Below.refl _ _).alloc (Nat.le_refl _) _
  obtain ⟨A1, k1, s1, r1⟩ := hx.oldS.cut 3 (3 + (m : Int)) 3 m rfl rfl (by omega)
  simp only [List.drop_succ_cons, List.drop_zero] at r1
  have ht : (t.toNat : Int) = 3 := by subst h1; rfl
  have Hlen : Hid (3 + m + (xs.drop m).length = n) := Lib.hid (by simp; omega)
  have IH := Lib.hid ih
  clear ih
  rw [← hm0]
  have hil : Hid ((xs.take m).length = m) := Lib.hid r1.len
  generalize xs.take m = inn at r1 hil ⊢
  generalize xs.drop m = rest at Hlen ⊢
  have hd0 : (((d + 1 : Nat) : Int) == 0) = false := by simp; omega
  clear hl hlt e0 e1 e2 hm0
  go_enter Try.func89, Try.ntmps89
  go_wp2_with fail
  go_quiet (fail)
  obtain ⟨W, hW⟩ : ∃ W, W = (w.alloc (.cells #[.int .i64 0, .int .u64 0, .slice none 0 0, .slice none 0 0] 33)).drewN nq := ⟨_, rfl⟩
  have hR : Blk W w.heap.size 33 #[.int .i64 0, .int .u64 0, .slice none 0 0, .slice none 0 0] := by rw [hW]; exact hblk.drewN _
  have hbW : Below w.heap.size w W := by rw [hW]; exact below_drewN hb0 _
  have cW : W.cell? ad = some (.int .u8 (t.toNat : Int)) := (hbW.cell hadb).trans c0
  have rW := r1.under (fun k h => h.2) hbW
  rw [← hW]
  clear hW hblk hb0 c0 c0' c1 c2 r1 hx
  obtain ⟨z0, z1, z2, z3, f0, f1, f2, f3, hz⟩ := hR.four
  rw [ht] at cW
  clear ht u0
  have hB := (Blk.new W 33 #[.int .i64 3, .int .u64 0, .slice none 0 0, .slice none 0 0])
  go_wp2_with fail
  go_loopg [5, 10] m (fun gk v5 v10 wr => ∃ (k : Nat) (acc : List TV) (Al : Option Addr) (cl : Nat), gk + k = m ∧ v5 = .int .i64 0 ∧ v10 = .int .i64 (k : Int) ∧ acc.length ≤ k ∧
    Hid (Blk wr W.heap.size 33 #[.int .i64 3, .int .u64 0, .slice none 0 0, .slice Al acc.length cl]) ∧ Hid (LO wr (fun k => W.heap.size < k) (W.heap.size + 1) 33 (.slice Al acc.length cl) acc.length acc) ∧ Hid (Below W.heap.size W wr) ∧ Hid (readAll (readT d) inn = (readAll (readT d) (inn.drop k)).map (acc ++ ·)))
  case atStart => exact ⟨0, [], none, 0, by omega, rfl, rfl, Nat.le_refl _, Lib.hid hB, Lib.hid (LO.nil _ _ _ _), Lib.hid ((Below.refl _ _).alloc (Nat.le_refl _) _), Lib.hid (by simp)⟩
  case round =>
    clear z0 z1 z2 z3 f0 f1 f2 f3 cW hB
    obtain ⟨k, acc, Al, cl, hgk, rfl, rfl, hac, hB, hLO, hbel, heq⟩ := hrel
    have HG := Lib.hid hgk
    obtain ⟨z0, z1, z2, z3, f0, f1, f2, f3, hz'⟩ := hB.out.four
    by_cases hp : 0 < gk
    · have hkm : (k : Int) < (m : Int) := by omega
      have hkm' : k ≤ m := by omega
      clear hgk
      obtain ⟨A4, c4, s4, r4⟩ := (rW.after hbel.out).from_ (k : Int) k (m - k) rfl (by omega)
      have IC := Lib.hid (IH.out wr _ A4 (m - k) c4 _ r4 (by omega))
      have hcl : Hid ((inn.drop k).length = m - k) := Lib.hid r4.len
      have hne : Hid (inn.drop k ≠ []) := Lib.hid (by have h5 := r4.len; have h6 := HG.out; intro e; rw [e] at h5; simp at h5; omega)
      go_wp2_with fail
      refine (IC.out).mono ?_
      clear IC
      cases hread : readT d (inn.drop k) with
      | none =>
        rintro e w2 ⟨rfl, hb2⟩
        have hnone : Hid (readAll (readT d) inn = none) := Lib.hid (by rw [heq.out, readAll_none hne.out hread]; rfl)
        have hR2 := hR.after (hbel.out.trans (hb2.mono (by omega)))
        have hbb := hbW.trans ((hbel.out.trans (hb2.mono (by omega))).mono (by omega))
        have HH := Lib.hid (And.intro hread hbb)
        clear hread hb2 hbb z0 z1 z2 z3 f0 f1 f2 f3
        obtain ⟨z0, z1, z2, z3, f0, f1, f2, f3, hz2⟩ := hR2.four
        go_wp2_with fail
        refine bodyPost_ret (results_cell2 rfl rfl (load33 ((set4_blk hR2 _ _ _ _).alloc _))) rfl ?_
        rw [hnone.out]
        exact ⟨rfl, (set4_below HH.out.2 _ (Nat.le_refl _) _ _ _ _).alloc (by simp; omega) _⟩
      | some p =>
        obtain ⟨x, rest'⟩ := p
        rintro e w2 ⟨q, kk, rfl, hkl, hk3, hv, hb2⟩
        have hshort := readT_short hread
        have hdrop : rest' = inn.drop (k + kk) := by
          have h1 := readT_drop hread
          have h2 := hcl.out
          rw [h1, List.drop_drop]
          congr 1
          omega
        have hsome : readAll (readT d) inn = (readAll (readT d) (inn.drop (k + kk))).map ((acc ++ [x]) ++ ·) := by
          rw [heq.out, readAll_some hne.out hread (by omega), Option.map_map, ← hdrop]
          congr 1
          funext y
          simp
        obtain ⟨tag, nn, bb, ll, A5, A6, n5, c5, n6, c6, rfl, rfl, -⟩ := hv.opens
        have hw3 : Below wr.heap.size wr (w2.alloc (.cells #[.int .i64 tag, .int .u64 (nn : Int), .slice A5 n5 c5, .slice A6 n6 c6] 33)) := hb2.alloc hb2.size _
        have hv3 : VR (w2.alloc (.cells #[.int .i64 tag, .int .u64 (nn : Int), .slice A5 n5 c5, .slice A6 n6 c6] 33)) (fun k => wr.heap.size ≤ k) ⟨.int .i64 tag, .int .u64 (nn : Int), .slice A5 n5 c5, .slice A6 n6 c6⟩ (.mk tag nn bb ll) := hv.keep (fun p _ hlt => World.cell?_alloc_lt _ _ _ hlt) (fun k hk _ => hk)
        obtain ⟨qs, hq, hown, hch, hvn, hrn⟩ := hLO.out.ready (e' := 33) hw3 hv3 (fun k hk _ => ⟨by omega, fun he => by obtain ⟨_, _, _, _, ho, _⟩ := hLO.out; have := (ho.lt _ he.symm).2; omega⟩)
        simp only [World.size_alloc] at hrn
        obtain ⟨i0, hi0, hj0, hj1, hj2⟩ := info_parts Try.info33
        have hw4 := hw3.alloc hw3.size (.cells #[.int .i64 tag, .int .u64 (nn : Int), .slice A5 n5 c5, .slice A6 n6 c6] 33)
        have hnb : some W.heap.size ≠ (Value.slice Al acc.length cl).ownBlock := fun e => by have := (hown.lt _ e.symm).1; omega
        have hB3 := hB.out.after hw4
        have hBw2 := hB.out.after hb2
        have hk0 : ((kk : Int) == 0) = false := by simp; omega
        have hz2 : W.heap.size < w2.heap.size := hBw2.lt
        have hkk : k + kk ≤ m := by have := hcl.out; omega
        have H : Hid (readT d (inn.drop k) = some (.mk tag nn bb ll, rest') ∧ readAll (readT d) inn = (readAll (readT d) (inn.drop (k + kk))).map ((acc ++ [.mk tag nn bb ll]) ++ ·) ∧ qs.length = acc.length) := Lib.hid ⟨hread, hsome, hq⟩
        have HH := Lib.hid (And.intro hB3 (And.intro hw4 hnb))
        have hac2 : acc.length ≤ 65535 := by omega
        clear hread hsome hq z0 z1 z2 z3 f0 f1 f2 f3 hdrop hkl hshort
        obtain ⟨z0, z1, z2, z3, f0, f1, f2, f3, hz2'⟩ := hBw2.four
        clear hb2 hw3 hw4 hB3 hnb hBw2
        dsimp only [Quad.agg]
        go_wp2_with (at_builtin; go_must ((refine wpList_append_any _ rfl (.tmp 103) (.tmp 105) 31 rfl (W.heap.size + 1) 33 i0 _ 4 64 Try.underlying31 hi0 hj0 hj1 hj2 rfl (by omega) (.slice Al acc.length cl) acc.length (flat qs) rfl hown AnyB _ 1 1 (flat [⟨.int .i64 tag, .int .u64 (nn : Int), .slice A5 n5 c5, .slice A6 n6 c6⟩]) rfl hrn hvn.cells_one' (by simp only [maxLen]; omega) (by omega) (by simp; omega) ?_; intro v4 w4 hown4 hg4 hat4; obtain ⟨A7, c7, rfl, hc7⟩ := own_shape hown4; have hB4 := HH.out.1.grown hg4 HH.out.2.2; obtain ⟨k0, k1, k2, k3, m0, m1, m2, m3, hz4⟩ := hB4.four)))
        go_roundg (gk - kk)
        case measure => omega
        case rel =>
          obtain ⟨hB3, hw4, hnb⟩ := HH.out
          obtain ⟨hread, hsome, hq⟩ := H.out
          have hfew : acc.length + 1 ≤ 1000000000 := by omega
          have hL5 := (LO.snoc hq rfl hfew hown4 hg4 hat4 hch hvn).setCell (p := ⟨W.heap.size, 3, none⟩) (fun e => by have := (hown4.lt _ e).1; dsimp only at this; omega) (fun k hk => by dsimp only; omega) (.slice A7 (acc.length + 1) c7)
          have hB5 := hB4.set_ 3 (.slice A7 (acc.length + 1) c7)
          have hrow : ∀ k, (Value.slice Al acc.length cl).ownBlock = some k → W.heap.size ≤ k := fun k hk => by have := (hown.lt k hk).1; omega
          have hbr : Below W.heap.size wr w4 := (hw4.mono (Nat.le_of_lt hz')).grown hg4 (by have := hw4.size; omega) hrow
          have hlen : (acc ++ [TV.mk tag nn bb ll]).length = acc.length + 1 := by simp
          have hg := HG.out
          refine ⟨k + kk, acc ++ [.mk tag nn bb ll], A7, c7, by omega, rfl, by go_num, by rw [hlen]; omega, ?_, ?_, Lib.hid ((hbel.out.trans hbr).setCell (p := ⟨W.heap.size, 3, none⟩) (Nat.le_refl _) _), Lib.hid hsome⟩
          · rw [hlen]; exact Lib.hid hB5
          · rw [hlen]; exact Lib.hid hL5
    · obtain rfl : k = m := by omega
      clear HG
      have hnil : Hid (readAll (readT d) inn = some acc) := by
        have := heq.out
        rw [List.drop_of_length_le (by have := hil.out; omega), readAll_nil] at this
        exact Lib.hid (by simpa using this)
      have hR2 := hR.after hbel.out
      have hbb := hbW.trans (hbel.out.mono (Nat.le_of_lt hz))
      obtain ⟨y0, y1, y2, y3, g0, g1, g2, g3, hy⟩ := hR2.four
      go_wp2_with fail
      refine bodyPost_ret (results_cell2 rfl rfl (load33 (set4_blk hR2 _ _ _ _))) rfl ?_
      rw [hnil.out]
      have hl := hLO.out.reads.keep (S' := fun k => w.heap.size < k) (fun _ _ _ => rfl) (fun k hk _ => by omega)
      exact rread_end (k := 3 + k) (kk := 3 + (k : Int)) (by omega) hbb (VR.shut (tag := 3) (n := 0) (by simp [u64ok]) (Bs.nil _ _ _) (by omega) hl) Hlen.out (by omega) _ _ _ _
theorem rread_any : ∀ d : Nat, d ≤ 1000000 → RReadSaid d := by
  intro d
  induction d with
  | zero =>
    intro _ w S A n c bs hx hn
    have hl := hx.len
    match bs, hl with
    | [], hl => exact rread_short 0 w A n c (by simp at hl; omega)
    | [_], hl => exact rread_short 0 w A n c (by simp at hl; omega)
    | [_, _], hl => exact rread_short 0 w A n c (by simp at hl; omega)
    | t :: h :: l :: xs, hl =>
      by_cases hlt : xs.length < h.toNat * 256 + l.toNat
      · have e : readT 0 (t :: h :: l :: xs) = none := by
          have : splitT (t :: h :: l :: xs) = none := by simp only [splitT]; rw [if_neg (by omega)]
          unfold readT
          rw [this]
        rw [e]
        exact rread_long 0 w S A n c t h l xs hx hn hlt
      · have hs : splitT (t :: h :: l :: xs) = some (t.toNat, xs.take (h.toNat * 256 + l.toNat), xs.drop (h.toNat * 256 + l.toNat)) := by simp only [splitT]; rw [if_pos (by omega)]
        have hil : (xs.take (h.toNat * 256 + l.toNat)).length = h.toNat * 256 + l.toNat := by rw [List.length_take]; omega
        unfold readT
        rw [hs]
        simp only
        by_cases h1 : t = 1
        · subst h1
          rw [if_pos (by rfl)]
          by_cases h0 : h.toNat * 256 + l.toNat = 0
          · have h2 := rread_num0 0 w S A n c 1 h l xs hx hn hlt rfl h0
            simp only [h0, List.take_zero, List.drop_zero]
            rw [if_pos (by simp)]
            exact h2
          · by_cases h8 : 8 < h.toNat * 256 + l.toNat
            · rw [if_neg (by omega)]
              exact rread_big 0 w S A n c 1 h l xs hx hn hlt rfl h8
            · by_cases hz : xs.head? = some 0
              · rw [if_neg ?_]
                · exact rread_nought 0 w S A n c 1 h l xs hx hn hlt rfl h8 (by omega) hz
                · rintro ⟨_, h2 | h2⟩
                  · rw [h2] at hil; simp at hil; omega
                  · exact h2 (by rw [List.head?_take, if_neg (by omega)]; exact hz)
              · rw [if_pos ⟨by omega, .inr (by rw [List.head?_take, if_neg (by omega)]; exact hz)⟩]
                exact rread_num1 0 w S A n c 1 h l xs hx hn hlt rfl h8 (by omega) hz
        · rw [if_neg (fun e => h1 (UInt8.toNat_inj.1 (by simpa using e)))]
          by_cases h2 : t = 2
          · subst h2
            rw [if_pos (by rfl)]
            exact rread_bytes 0 w S A n c 2 h l xs hx hn hlt rfl
          · rw [if_neg (fun e => h2 (UInt8.toNat_inj.1 (by simpa using e)))]
            by_cases h3 : t = 3
            · subst h3
              rw [if_pos (by rfl)]
              exact rread_deep w S A n c 3 h l xs hx hn hlt rfl
            · rw [if_neg (fun e => h3 (UInt8.toNat_inj.1 (by simpa using e)))]
              exact rread_other 0 w S A n c t h l xs hx hn hlt h1 h2 h3
  | succ d ih =>
    intro hd w S A n c bs hx hn
    have hl := hx.len
    match bs, hl with
    | [], hl => exact rread_short (d + 1) w A n c (by simp at hl; omega)
    | [_], hl => exact rread_short (d + 1) w A n c (by simp at hl; omega)
    | [_, _], hl => exact rread_short (d + 1) w A n c (by simp at hl; omega)
    | t :: h :: l :: xs, hl =>
      by_cases hlt : xs.length < h.toNat * 256 + l.toNat
      · have e : readT (d + 1) (t :: h :: l :: xs) = none := by
          have : splitT (t :: h :: l :: xs) = none := by simp only [splitT]; rw [if_neg (by omega)]
          unfold readT
          rw [this]
        rw [e]
        exact rread_long (d + 1) w S A n c t h l xs hx hn hlt
      · have hs : splitT (t :: h :: l :: xs) = some (t.toNat, xs.take (h.toNat * 256 + l.toNat), xs.drop (h.toNat * 256 + l.toNat)) := by simp only [splitT]; rw [if_pos (by omega)]
        have hil : (xs.take (h.toNat * 256 + l.toNat)).length = h.toNat * 256 + l.toNat := by rw [List.length_take]; omega
        unfold readT
        rw [hs]
        simp only
        by_cases h1 : t = 1
        · subst h1
          rw [if_pos (by rfl)]
          by_cases h0 : h.toNat * 256 + l.toNat = 0
          · have h2 := rread_num0 (d + 1) w S A n c 1 h l xs hx hn hlt rfl h0
            simp only [h0, List.take_zero, List.drop_zero]
            rw [if_pos (by simp)]
            exact h2
          · by_cases h8 : 8 < h.toNat * 256 + l.toNat
            · rw [if_neg (by omega)]
              exact rread_big (d + 1) w S A n c 1 h l xs hx hn hlt rfl h8
            · by_cases hz : xs.head? = some 0
              · rw [if_neg ?_]
                · exact rread_nought (d + 1) w S A n c 1 h l xs hx hn hlt rfl h8 (by omega) hz
                · rintro ⟨_, h2 | h2⟩
                  · rw [h2] at hil; simp at hil; omega
                  · exact h2 (by rw [List.head?_take, if_neg (by omega)]; exact hz)
              · rw [if_pos ⟨by omega, .inr (by rw [List.head?_take, if_neg (by omega)]; exact hz)⟩]
                exact rread_num1 (d + 1) w S A n c 1 h l xs hx hn hlt rfl h8 (by omega) hz
        · rw [if_neg (fun e => h1 (UInt8.toNat_inj.1 (by simpa using e)))]
          by_cases h2 : t = 2
          · subst h2
            rw [if_pos (by rfl)]
            exact rread_bytes (d + 1) w S A n c 2 h l xs hx hn hlt rfl
          · rw [if_neg (fun e => h2 (UInt8.toNat_inj.1 (by simpa using e)))]
            by_cases h3 : t = 3
            · subst h3
              rw [if_pos (by rfl)]
              exact rread_list d w S A n c 3 h l xs hx hn hlt (by omega) (ih (by omega)) rfl
            · rw [if_neg (fun e => h3 (UInt8.toNat_inj.1 (by simpa using e)))]
              exact rread_other (d + 1) w S A n c t h l xs hx hn hlt h1 h2 h3
end Go.Proofs.Ytaebmhbggbpnoaa
