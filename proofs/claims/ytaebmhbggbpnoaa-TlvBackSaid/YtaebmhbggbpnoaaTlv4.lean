/- Walks of package tlv: reading a list, and any value: Take, Get. Conditions: each theorem's premises. -/
import Derived.Test.YtaebmhbggbpnoaaTlv3
namespace Go.Proofs.Ytaebmhbggbpnoaa
open Go.RowKit
theorem readAll_nil (rd : List UInt8 → Option (TV × List UInt8)) : readAll rd [] = some [] := by rw [readAll]
theorem readAll_none {rd : List UInt8 → Option (TV × List UInt8)} {b : List UInt8} (hb : b ≠ []) (h : rd b = none) : readAll rd b = none := by
  cases b with
  | nil => exact absurd rfl hb
  | cons x xs => rw [readAll, h]
theorem readAll_some {rd : List UInt8 → Option (TV × List UInt8)} {b rest : List UInt8} {v : TV} (hb : b ≠ []) (h : rd b = some (v, rest)) (hl : rest.length < b.length) : readAll rd b = (readAll rd rest).map (v :: ·) := by
  cases b with
  | nil => exact absurd rfl hb
  | cons x xs => rw [readAll, h]; simp only; rw [if_pos hl]
theorem VR.cells_one' {w : World} {S : Nat → Prop} {q : Quad} {v : TV} (h : VR w S q v) : ∀ u ∈ flat [q], u.oneCell' = true := fun u hu => h.cells_one u (by simpa [flat] using hu)
theorem readT_short {d : Nat} {b rest : List UInt8} {v : TV} (h : readT d b = some (v, rest)) : rest.length + 3 ≤ b.length := by
  unfold readT at h
  split at h
  · cases h
  · rename_i t inn rest' hs
    have := (splitT_short hs).2
    have key : rest = rest' := by
      split at h
      · split at h
        · injection h with h; injection h with _ h; exact h.symm
        · cases h
      · split at h
        · injection h with h; injection h with _ h; exact h.symm
        · split at h
          · split at h
            · cases h
            · rw [Option.map_eq_some_iff] at h
              obtain ⟨l, _, h⟩ := h
              injection h with _ h
              exact h.symm
          · cases h
    subst key
    omega
set_option maxRecDepth 10000 in
set_option maxHeartbeats 4000000 in
theorem read_list (d : Nat) (ih : ReadSaid d) (w : World) (S : Nat → Prop) (A : Option Addr) (n c : Nat) (bs inn rest : List UInt8) (hx : Bs w S A n c bs) (hn : n ≤ 1000000000) (hd : d ≤ 1000000) (hs : splitT bs = some (3, inn, rest)) :
    Calls Try.prog 87 #[.slice A n c, .int .i64 ((d + 1 : Nat) : Int)] w (ReadPost w S ((readAll (readT d) inn).map fun l => (.mk 3 0 [] l, rest))) := by
  have K := Lib.hid (split_call hs _ _ _ _ _ (hx.oldS.after (w' := w.alloc (.cells #[.int .i64 0, .int .u64 0, .slice none 0 0, .slice none 0 0] 27)) ((Below.refl _ _).alloc (Nat.le_refl _) _)) hn)
  have IH := Lib.hid ih
  clear hs ih
  have hd1 : (0 : Int) < ((d + 1 : Nat) : Int) := by omega
  go_enter Try.func87, Try.ntmps87
  go_wp2_with fail
  refine (K.out).mono ?_
  rintro e w1 ⟨A1, n1, c1, A2, n2, c2, rfl, hi, hr, hn1, hn2, hb⟩
  clear K
  simp only [World.size_alloc] at hb
  have hblk : Blk w1 w.heap.size 27 _ := (Blk.new w 27 _).below hb (by omega)
  obtain ⟨z0, z1, z2, z3, f0, f1, f2, f3, hz⟩ := hblk.four
  have hb1 : Below w.heap.size w w1 := ((Below.refl _ _).alloc (Nat.le_refl _) _).trans (hb.mono (by omega))
  go_wp2_with fail
  go_loopg [5, 6, 8] n1 (fun k v5 _ v8 wr => ∃ A1 c1 cur acc Al cl, v5 = .slice A2 n2 c2 ∧ v8 = .slice A1 k c1 ∧ Hid (Bs wr (fun k => S k ∧ k < w.heap.size) A1 k c1 cur) ∧ acc.length + k ≤ 65535 ∧
    Hid (Blk wr w.heap.size 27 #[.int .i64 3, .int .u64 0, .slice none 0 0, .slice Al acc.length cl]) ∧ Hid (LO wr (fun k => w.heap.size < k) (w.heap.size + 1) 27 (.slice Al acc.length cl) acc.length acc) ∧ Hid (Below w.heap.size w wr) ∧ Hid (Below w.heap.size w1 wr) ∧ Hid (readAll (readT d) inn = (readAll (readT d) cur).map (acc ++ ·)))
  case atStart =>
    have hb2 : Below w.heap.size w1 (w1.setCell ⟨w.heap.size, 0, none⟩ (.int .i64 3)) := (Below.refl _ _).setCell (p := ⟨w.heap.size, 0, none⟩) (Nat.le_refl _) _
    exact ⟨A1, c1, inn, [], none, 0, rfl, rfl, Lib.hid (hi.under (fun k h => h.2) hb2), by simpa using hn1, Lib.hid (hblk.set_ 0 (.int .i64 3)), Lib.hid (LO.nil _ _ _ _), Lib.hid (hb1.trans hb2), Lib.hid hb2, Lib.hid (by simp)⟩
  case round =>
    clear z0 z1 z2 z3 f0 f1 f2 f3 hz hblk hb1 hb hi hn1
    obtain ⟨A1, c1, cur, acc, Al, cl, rfl, rfl, hcur, hac, hB, hLO, hbel, hbw, heq⟩ := hrel
    obtain ⟨z0, z1, z2, z3, f0, f1, f2, f3, hz⟩ := hB.out.four
    by_cases hgk : 0 < gk
    · have hgk' : (0 : Int) < (gk : Int) := by omega
      have hW1 : Below wr.heap.size wr (wr.alloc (.cells #[.int .i64 0, .int .u64 0, .slice none 0 0, .slice none 0 0] 27)) := (Below.refl _ _).alloc (Nat.le_refl _) _
      have IC := Lib.hid (IH.out _ (fun k => S k ∧ k < w.heap.size) A1 gk c1 cur (hcur.out.after hW1) (by omega))
      have hne : Hid (cur ≠ []) := Lib.hid (by have := hcur.out.len; rintro rfl; simp at this; omega)
      go_wp2_with fail
      refine (IC.out).mono ?_
      clear IC
      cases hread : readT d cur with
      | none =>
        rintro e w2 ⟨rfl, hb2⟩
        have hnone : readAll (readT d) inn = none := by rw [heq.out, readAll_none hne.out hread]; rfl
        simp only [World.size_alloc] at hb2
        obtain ⟨y0, y1, y2, y3, g0, g1, g2, g3, hy⟩ := box4 hb2
        have hw2 : Below wr.heap.size wr w2 := hW1.trans (hb2.mono (by omega))
        have hB2 := hB.out.after hw2
        have hdone : Below w.heap.size w w2 := hbel.out.trans (hw2.mono (by omega))
        have Hr := Lib.hid hread
        have Hn := Lib.hid hnone
        have Hb := Lib.hid hdone
        clear hread hnone hdone z0 z1 z2 z3 f0 f1 f2 f3
        obtain ⟨z0, z1, z2, z3, f0, f1, f2, f3, hz2⟩ := hB2.four
        have hne1 : ¬ wr.heap.size = w.heap.size := by omega
        have hne2 : ¬ w.heap.size = wr.heap.size := by omega
        clear hw2 hB2 hb2 hW1
        go_wp2_with fail
        refine bodyPost_ret (v := .tuple #[.agg #[.int .i64 0, .int .u64 0, .slice none 0 0, .slice none 0 0], .slice none 0 0, .bool false]) (by simp [results, Try.results87, go_sem, z0, z1, z2, z3]) rfl ?_
        rw [Hn.out]
        exact ⟨rfl, set4_below (set4_below Hb.out _ (by omega) _ _ _ _) _ (Nat.le_refl _) _ _ _ _⟩
      | some p =>
        obtain ⟨x, rest'⟩ := p
        rintro e w2 ⟨q, A3, n3, c3, rfl, hv, hr3, hn3, hb2⟩
        have hshort := readT_short hread
        have hsome : readAll (readT d) inn = (readAll (readT d) rest').map ((acc ++ [x]) ++ ·) := by
          rw [heq.out, readAll_some hne.out hread (by omega), Option.map_map]
          congr 1
          funext y
          simp
        have hl3 : n3 + 3 ≤ gk := by have := hcur.out.len; have := hr3.len; omega
        simp only [World.size_alloc] at hb2 hv
        obtain ⟨tag, nn, bb, ll, A5, A6, n5, c5, n6, c6, rfl, rfl, -⟩ := hv.opens
        obtain ⟨y0, y1, y2, y3, g0, g1, g2, g3, hy⟩ := box4 hb2
        have hw2 : Below wr.heap.size wr w2 := hW1.trans (hb2.mono (by omega))
        have hw3 : Below wr.heap.size wr ((((w2.setCell ⟨wr.heap.size, 0, none⟩ (.int .i64 tag)).setCell ⟨wr.heap.size, 1, none⟩ (.int .u64 (nn : Int))).setCell ⟨wr.heap.size, 2, none⟩ (.slice A5 n5 c5)).setCell ⟨wr.heap.size, 3, none⟩ (.slice A6 n6 c6)) := set4_below hw2 _ (Nat.le_refl _) _ _ _ _
        have hv3 : VR ((((w2.setCell ⟨wr.heap.size, 0, none⟩ (.int .i64 tag)).setCell ⟨wr.heap.size, 1, none⟩ (.int .u64 (nn : Int))).setCell ⟨wr.heap.size, 2, none⟩ (.slice A5 n5 c5)).setCell ⟨wr.heap.size, 3, none⟩ (.slice A6 n6 c6)) (fun k => wr.heap.size ≤ k) ⟨.int .i64 tag, .int .u64 (nn : Int), .slice A5 n5 c5, .slice A6 n6 c6⟩ (.mk tag nn bb ll) := hv.keep (fun p hp _ => set4_other _ _ _ _ _ _ p (by omega)) (fun k hk _ => by omega)
        obtain ⟨qs, hq, hown, hch, hvn, hrn⟩ := hLO.out.ready (e' := 27) hw3 hv3 (fun k hk _ => ⟨by omega, fun he => by obtain ⟨_, _, _, _, ho, _⟩ := hLO.out; have := (ho.lt _ he.symm).2; omega⟩)
        simp only [World.size_setCell] at hrn
        have hB2 := hB.out.after hw2
        obtain ⟨i0, hi0, hj0, hj1, hj2⟩ := info_parts Try.info27
        have hw4 := hw3.alloc hw3.size (.cells #[.int .i64 tag, .int .u64 (nn : Int), .slice A5 n5 c5, .slice A6 n6 c6] 27)
        have hnb : some w.heap.size ≠ (Value.slice Al acc.length cl).ownBlock := fun e => by have := (hown.lt _ e.symm).1; omega
        have hB3 := hB.out.after hw4
        have hcur3 : Bs w2 (fun k => S k ∧ k < w.heap.size) A3 n3 c3 rest' := hr3
        have H : Hid (readT d cur = some (.mk tag nn bb ll, rest') ∧ readAll (readT d) inn = (readAll (readT d) rest').map ((acc ++ [.mk tag nn bb ll]) ++ ·) ∧ qs.length = acc.length ∧ Blk w2 w.heap.size 27 #[.int .i64 3, .int .u64 0, .slice none 0 0, .slice Al acc.length cl]) := Lib.hid ⟨hread, hsome, hq, hB2⟩
        clear hread hsome hq z0 z1 z2 z3 f0 f1 f2 f3
        obtain ⟨z0, z1, z2, z3, f0, f1, f2, f3, hz2⟩ := hB2.four
        have hne1 : ¬ wr.heap.size = w.heap.size := by omega
        have hne2 : ¬ w.heap.size = wr.heap.size := by omega
        have HH := Lib.hid (And.intro hB3 (And.intro hw4 hnb))
        clear hW1 hB2 hb2 hw3 hw2 hw4 hB3 hnb
        dsimp only [Quad.agg]
        go_wp2_with (at_builtin; go_must (refine wpList_append_any _ rfl (.tmp 86) (.tmp 88) 25 rfl (w.heap.size + 1) 27 i0 _ 4 64 Try.underlying25 hi0 hj0 hj1 hj2 rfl (by omega) (.slice Al acc.length cl) acc.length (flat qs) rfl hown AnyB _ 1 1 (flat [⟨.int .i64 tag, .int .u64 (nn : Int), .slice A5 n5 c5, .slice A6 n6 c6⟩]) rfl hrn hvn.cells_one' (by simp only [maxLen]; omega) (by omega) (by simp; omega) ?_); intro v4 w4 hown4 hg4 hat4; obtain ⟨A7, c7, rfl, hc7⟩ := own_shape hown4; have hB4 := HH.out.1.grown hg4 HH.out.2.2; obtain ⟨k0, k1, k2, k3, m0, m1, m2, m3, hz4⟩ := hB4.four)
        go_roundg n3
        case measure => omega
        case rel =>
          obtain ⟨hB3, hw4, hnb⟩ := HH.out
          obtain ⟨hread, hsome, hq, -⟩ := H.out
          have hfew : acc.length + 1 ≤ 1000000000 := by omega
          have hL5 := (LO.snoc hq rfl hfew hown4 hg4 hat4 hch hvn).setCell (p := ⟨w.heap.size, 3, none⟩) (fun e => by have := (hown4.lt _ e).1; dsimp only at this; omega) (fun k hk => by dsimp only; omega) (.slice A7 (acc.length + 1) c7)
          have hB5 := hB4.set_ 3 (.slice A7 (acc.length + 1) c7)
          have hrow : ∀ k, (Value.slice Al acc.length cl).ownBlock = some k → w.heap.size ≤ k := fun k hk => by have := (hown.lt k hk).1; omega
          have hbr : Below w.heap.size wr w4 := (hw4.mono (Nat.le_of_lt hz)).grown hg4 (by have := hw4.size; omega) hrow
          have hb24 : Below w.heap.size w2 w4 := ((set4_below (Below.refl _ _) wr.heap.size (Nat.le_of_lt hz) _ _ _ _).alloc (by simp; omega) _).grown hg4 (by have := hw4.size; omega) hrow
          have hset : ∀ {a : World}, Below w.heap.size a w4 → Below w.heap.size a (w4.setCell ⟨w.heap.size, 3, none⟩ (.slice A7 (acc.length + 1) c7)) := fun h => h.setCell (p := ⟨w.heap.size, 3, none⟩) (Nat.le_refl _) _
          have hlen : (acc ++ [TV.mk tag nn bb ll]).length = acc.length + 1 := by simp
          refine ⟨A3, c3, rest', acc ++ [.mk tag nn bb ll], A7, c7, rfl, rfl, Lib.hid (hr3.under (fun k h => h.2) (hset hb24)), by rw [hlen]; omega, ?_, ?_, Lib.hid (hset (hbel.out.trans hbr)), Lib.hid (hset (hbw.out.trans hbr)), Lib.hid hsome⟩
          · rw [hlen]; exact Lib.hid hB5
          · rw [hlen]; exact Lib.hid hL5
    · obtain rfl : gk = 0 := by omega
      have hnil : Hid (readAll (readT d) inn = some acc) := by
        have hc : cur = [] := List.eq_nil_of_length_eq_zero hcur.out.len
        have := heq.out
        rw [hc, readAll_nil] at this
        exact Lib.hid (by simpa using this)
      go_wp2_with fail
      refine bodyPost_ret (v := .tuple #[.agg #[.int .i64 3, .int .u64 ((0 : Nat) : Int), .slice none 0 0, .slice Al acc.length cl], .slice A2 n2 c2, .bool true]) (by simp [results, Try.results87, go_sem, z0, z1, z2, z3]) rfl ?_
      rw [hnil.out]
      have hl := hLO.out.reads.keep (S' := fun k => w.heap.size < k) (fun _ _ _ => rfl) (fun k hk _ => by omega)
      exact read_end hbel.out (VR.shut (tag := 3) (n := 0) (by simp [u64ok]) (Bs.nil _ _ _) (by omega) hl) (hr.under (fun k h => h.2) hbw.out) hn2 _ _ _ _
theorem read_any : ∀ d : Nat, d ≤ 1000000 → ReadSaid d := by
  intro d
  induction d with
  | zero =>
    intro _ w S A n c bs hx hn
    unfold readT
    cases hs : splitT bs with
    | none => exact read_none 0 w S A n c bs hx hn hs
    | some p =>
      obtain ⟨t, inn, rest⟩ := p
      simp only
      by_cases h1 : t = 1
      · subst h1
        rw [if_pos rfl]
        by_cases h8 : inn.length ≤ 8 ∧ (inn = [] ∨ inn.head? ≠ some 0)
        · rw [if_pos h8]
          match inn, h8, hs with
          | [], _, hs => exact read_num0 0 w S A n c bs rest hx hn hs
          | b :: xs, h8, hs => exact read_num1 0 w S A n c bs xs rest b hx hn hs h8.1 (by intro e; subst e; rcases h8.2 with h | h <;> simp at h)
        · rw [if_neg h8]
          by_cases h8' : inn.length ≤ 8
          · refine read_nought 0 w S A n c bs inn rest hx hn hs h8' ?_
            rw [not_and] at h8
            have := h8 h8'
            rw [not_or] at this
            simpa using this.2
          · exact read_long 0 w S A n c bs inn rest hx hn hs h8'
      · rw [if_neg h1]
        by_cases h2 : t = 2
        · subst h2
          rw [if_pos rfl]
          exact read_bytes 0 w S A n c bs inn rest hx hn hs
        · rw [if_neg h2]
          by_cases h3 : t = 3
          · subst h3
            rw [if_pos rfl]
            exact read_deep w S A n c bs inn rest hx hn hs
          · rw [if_neg h3]
            exact read_other 0 w S A n c t bs inn rest hx hn hs h1 h2 h3
  | succ d ih =>
    intro hd w S A n c bs hx hn
    unfold readT
    cases hs : splitT bs with
    | none => exact read_none (d + 1) w S A n c bs hx hn hs
    | some p =>
      obtain ⟨t, inn, rest⟩ := p
      simp only
      by_cases h1 : t = 1
      · subst h1
        rw [if_pos rfl]
        by_cases h8 : inn.length ≤ 8 ∧ (inn = [] ∨ inn.head? ≠ some 0)
        · rw [if_pos h8]
          match inn, h8, hs with
          | [], _, hs => exact read_num0 (d + 1) w S A n c bs rest hx hn hs
          | b :: xs, h8, hs => exact read_num1 (d + 1) w S A n c bs xs rest b hx hn hs h8.1 (by intro e; subst e; rcases h8.2 with h | h <;> simp at h)
        · rw [if_neg h8]
          by_cases h8' : inn.length ≤ 8
          · refine read_nought (d + 1) w S A n c bs inn rest hx hn hs h8' ?_
            rw [not_and] at h8
            have := h8 h8'
            rw [not_or] at this
            simpa using this.2
          · exact read_long (d + 1) w S A n c bs inn rest hx hn hs h8'
      · rw [if_neg h1]
        by_cases h2 : t = 2
        · subst h2
          rw [if_pos rfl]
          exact read_bytes (d + 1) w S A n c bs inn rest hx hn hs
        · rw [if_neg h2]
          by_cases h3 : t = 3
          · subst h3
            rw [if_pos rfl]
            exact read_list d (ih (by omega)) w S A n c bs inn rest hx hn (by omega) hs
          · rw [if_neg h3]
            exact read_other (d + 1) w S A n c t bs inn rest hx hn hs h1 h2 h3
end Go.Proofs.Ytaebmhbggbpnoaa
