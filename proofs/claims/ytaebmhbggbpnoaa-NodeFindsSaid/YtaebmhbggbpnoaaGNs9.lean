/- The walk of symMergeCmpFunc (slices), its end. Conditions: each theorem's premises. -/
import Derived.Test.YtaebmhbggbpnoaaGNs8
import Derived.Deep.DeepCutAuto
namespace Go.Proofs.Ytaebmhbggbpnoaa
open Go.RowKit
/-- What the search of a merge has come to. -/
structure MFound (a m b s0 r0 nn s r : Nat) (L : List EV) : Prop where
  lo : s = s0 ∨ ∃ x y, L[nn - s]? = some y ∧ L[s - 1]? = some x ∧ ¬ kl y x
  hi : r = r0 ∨ ∃ x y, L[nn - 1 - r]? = some y ∧ L[r]? = some x ∧ kl y x
/-- Where a search begins and ends. -/
structure MEnds (a m b mid s0 r0 nn : Nat) : Prop where
  hmid : (a + b) / 2 = mid
  hnn : mid + m = nn
  ab : a + 1 < m ∧ m + 1 < b
  c : (mid < m ∧ s0 + b = nn ∧ r0 = mid) ∨ (m ≤ mid ∧ s0 = a ∧ r0 = m)
theorem MEnds.ord {a m b mid s0 r0 nn : Nat} (h : MEnds a m b mid s0 r0 nn) : a ≤ s0 ∧ s0 ≤ r0 ∧ r0 ≤ m ∧ r0 ≤ mid ∧ nn ≤ s0 + b ∧ m + r0 ≤ nn ∧ a < mid ∧ mid < b := by
  have h1 := h.hmid
  have h2 := h.hnn
  have h3 := h.ab
  have h4 := h.c
  omega
theorem MFound.mid {a m b mid s0 r0 nn s e : Nat} {L : List EV} (hf : MFound a m b s0 r0 nn s s L) (he : MEnds a m b mid s0 r0 nn) (h1 : s0 ≤ s) (h2 : s ≤ r0) (hE : nn - s = e) (t1 : Srt a m L) (t2 : Srt m b L) :
    (∀ p q x y, s ≤ p → p < m → m ≤ q → q < e → L[p]? = some x → L[q]? = some y → kl y x) ∧ (∀ p q x y, a ≤ p → p < s → e ≤ q → q < b → L[p]? = some x → L[q]? = some y → ¬ kl y x) := by
  have o := he.ord
  have o1 := he.c
  have o2 := he.hnn
  refine ⟨fun p q x y p1 p2 q1 q2 hx hy => ?_, fun p q x y p1 p2 q1 q2 hx hy => ?_⟩
  · rcases hf.hi with h | ⟨u, v, hv, hu, hk⟩
    · omega
    · have k1 := t1.le (i := s) (j := p) (by omega) p1 p2 hu hx
      have k2 := t2.le (i := q) (j := nn - 1 - s) (by omega) (by omega) (by omega) hy hv
      exact kle_kl k2 (kl_kle hk k1)
  · rcases hf.lo with h | ⟨u, v, hv, hu, hk⟩
    · omega
    · have k1 := t1.le (i := p) (j := s - 1) (by omega) (by omega) (by omega) hx hu
      have k2 := t2.le (i := nn - s) (j := q) (by omega) (by omega) (by omega) hv hy
      exact kle_trans k1 (kle_trans hk k2)
/-- What the turn of a merge's middle comes to. -/
structure MTurned (a s m mid e b : Nat) (L L1 : List EV) : Prop where
  sb : Sb a b L L1
  ord : a ≤ s ∧ s ≤ m ∧ m ≤ e ∧ e ≤ b ∧ s ≤ mid ∧ mid ≤ e
  s1 : Srt a s L1
  s2 : Srt s mid L1
  s3 : Srt mid e L1
  s4 : Srt e b L1
  cross : ∀ p q x y, a ≤ p → p < mid → mid ≤ q → q < b → L1[p]? = some x → L1[q]? = some y → ¬ kl y x
theorem mid_made {a m b mid s0 r0 nn s e : Nat} {L : List EV} (hf : MFound a m b s0 r0 nn s s L) (he : MEnds a m b mid s0 r0 nn) (h1 : s0 ≤ s) (h2 : s ≤ r0) (hE : nn - s = e) (hl : b ≤ L.length) (t1 : Srt a m L) (t2 : Srt m b L) :
    ∃ L1, (decide (s < m ∧ m < e) = true → L1 = rotL L s m e) ∧ (decide (s < m ∧ m < e) = false → L1 = L) ∧ MTurned a s m mid e b L L1 := by
  have o := he.ord
  have o1 := he.c
  have o2 := he.hnn
  obtain ⟨c1, c2⟩ := hf.mid he h1 h2 hE t1 t2
  have key : ∀ L1, Mid a s m mid e b L L1 → Sb a b L L1 → MTurned a s m mid e b L L1 := fun L1 h hs => ⟨hs, h.ord, h.s1 t1, h.s2 t2, h.s3 t1, h.s4 t2, h.cross t1 t2 c1 c2⟩
  by_cases hc : s < m ∧ m < e
  · refine ⟨rotL L s m e, fun _ => rfl, fun h => absurd hc (of_decide_eq_false h), key _ (rotL_mid L (by omega) (by omega) (by omega) (by omega) (by omega) (by omega)) (rotL_sb L (by omega) (by omega) (by omega) (by omega) (by omega) fun p q x y p1 p2 q1 q2 hx hy => fun en => kl_ne (c1 p q x y p1 p2 q1 q2 hx hy) en.symm)⟩
  · refine ⟨L, fun h => absurd (of_decide_eq_true h) hc, fun _ => rfl, key _ ?_ (Sb.refl _ _ _)⟩
    by_cases h4 : s < m
    · exact Mid.refl2 (by omega)
    · exact Mid.refl1 (by omega)
/-- What follows a region. -/
def afterRegion (k : Nat) : Code → Option Code
  | .seq a b => match a with
    | .region j _ _ => if j = k then some b else afterRegion k b
    | a' => match afterRegion k a' with
      | some c => some c
      | none => afterRegion k b
  | .loop c => afterRegion k c
  | .block _ c => afterRegion k c
  | .scope c => afterRegion k c
  | .cond _ a b => match afterRegion k a with
    | some c => some c
    | none => afterRegion k b
  | _ => none
def sndC : Code → Code
  | .seq _ b => b
  | c => c
noncomputable def tail39 : Code := ((Try.f142.body.bind (afterRegion 38)).getD .skip)
noncomputable def tail41 : Code := sndC tail39
noncomputable def tail43 : Code := sndC tail41
set_option maxRecDepth 1000000 in
set_option maxHeartbeats 4000000 in
theorem tail43_any (w wr : World) (g : Nat) (ad : Addr) (n c : Nat) (L L1 : List EV) (a m b mid s e : Nat) (L2 : List EV) (x5 x6 x7 x8 x9 x10 x11 x12 x13 x14 x15 x16 x17 x19 x21 x22 x23 x25 x26 x27 x28 x29 x30 x31 x32 x33 x34 x35 x36 x37 x38 x39 x40 x41 x42 x43 x44 x45 x46 x47 x48 x49 x50 x51 x52 x53 x54 x55 x56 x57 x58 x59 x60 x61 x62 x63 x64 x65 x66 x67 x68 x69 x70 x71 x72 x73 x74 x75 x76 x77 x78 x79 x80 x81 x82 x83 x84 x85 x86 x87 x88 x89 x90 x91 x92 x93 x94 x95 x96 x97 x98 x99 x100 x101 x102 x103 x104 x105 x106 x107 x108 x109 x110 x111 x112 x113 x114 x115 x116 x117 x118 x119 x120 x121 x122 x123 x124 x125 x126 x127 x128 x129 x130 x131 x132 x133 x134 x135 x136 x137 x138 x139 x140 x141 x142 x143 x144 x145 x146 x147 x148 x149 x150 x151 x152 x153 x154 x155 x156 x157 x158 x159 x160 x161 x162 x163 x164 x165 x166 x167 x168 x169 x170 x171 x172 x173 x174 x175 x176 x177 x178 x179 x180 x181 x182 x183 x184 x185 x186 x187 x188 x189 x190 x191 x192 x193 x194 x195 x196 x197 x198 x199 x200 x201 x202 x203 x204 x205 x206 x207 x208 x209 x210 x211 x212 x213 x214 x215 x216 x217 x218 x219 : Value) (HREC : Hid (∀ w L a' m' b', b' - a' < b - a → ML w g (some ad) n c L → a' < m' → m' < b' → b' ≤ n → Srt a' m' L → Srt m' b' L → Calls Try.prog 142 #[.slice (some ad) n c, .int .i64 (a' : Int), .int .i64 (m' : Int), .int .i64 (b' : Int), cmpV] w (MergePost w g (some ad) n c L a' b'))) (HO : Hid (a < mid ∧ mid < b ∧ b ≤ n ∧ n ≤ 1000000)) (HTU : Hid (MTurned a s m mid e b L L1)) (HM3 : Hid (ML wr g (some ad) n c L2)) (HS3 : Hid (Sb a mid L1 L2)) (HT3 : Hid (Srt a mid L2)) (HG3 : Hid (w.grownBy wr (some g))) :
    Code.wp Try.prog tail43 (bodyPost Try.prog Try.f142 (MergePost w g (some ad) n c L a b)) ⟨(.slice (some ad) n c :: .int .i64 (a : Int) :: .int .i64 (m : Int) :: .int .i64 (b : Int) :: cmpV :: x5 :: x6 :: x7 :: x8 :: x9 :: x10 :: x11 :: x12 :: x13 :: x14 :: x15 :: x16 :: x17 :: .int .i64 (mid : Int) :: x19 :: .int .i64 (s : Int) :: x21 :: x22 :: x23 :: .int .i64 (e : Int) :: x25 :: x26 :: x27 :: x28 :: x29 :: x30 :: x31 :: x32 :: x33 :: x34 :: x35 :: x36 :: x37 :: x38 :: x39 :: x40 :: x41 :: x42 :: x43 :: x44 :: x45 :: x46 :: x47 :: x48 :: x49 :: x50 :: x51 :: x52 :: x53 :: x54 :: x55 :: x56 :: x57 :: x58 :: x59 :: x60 :: x61 :: x62 :: x63 :: x64 :: x65 :: x66 :: x67 :: x68 :: x69 :: x70 :: x71 :: x72 :: x73 :: x74 :: x75 :: x76 :: x77 :: x78 :: x79 :: x80 :: x81 :: x82 :: x83 :: x84 :: x85 :: x86 :: x87 :: x88 :: x89 :: x90 :: x91 :: x92 :: x93 :: x94 :: x95 :: x96 :: x97 :: x98 :: x99 :: x100 :: x101 :: x102 :: x103 :: x104 :: x105 :: x106 :: x107 :: x108 :: x109 :: x110 :: x111 :: x112 :: x113 :: x114 :: x115 :: x116 :: x117 :: x118 :: x119 :: x120 :: x121 :: x122 :: x123 :: x124 :: x125 :: x126 :: x127 :: x128 :: x129 :: x130 :: x131 :: x132 :: x133 :: x134 :: x135 :: x136 :: x137 :: x138 :: x139 :: x140 :: x141 :: x142 :: x143 :: x144 :: x145 :: x146 :: x147 :: x148 :: x149 :: x150 :: x151 :: x152 :: x153 :: x154 :: x155 :: x156 :: x157 :: x158 :: x159 :: x160 :: x161 :: x162 :: x163 :: x164 :: x165 :: x166 :: x167 :: x168 :: x169 :: x170 :: x171 :: x172 :: x173 :: x174 :: x175 :: x176 :: x177 :: x178 :: x179 :: x180 :: x181 :: x182 :: x183 :: x184 :: x185 :: x186 :: x187 :: x188 :: x189 :: x190 :: x191 :: x192 :: x193 :: x194 :: x195 :: x196 :: x197 :: x198 :: x199 :: x200 :: x201 :: x202 :: x203 :: x204 :: x205 :: x206 :: x207 :: x208 :: x209 :: x210 :: x211 :: x212 :: x213 :: x214 :: x215 :: x216 :: x217 :: x218 :: x219 :: []).toArray, []⟩ wr := by
  conv => arg 2; whnf
  obtain ⟨B3, hB3⟩ : ∃ B, decide (mid < e ∧ e < b) = B := ⟨_, rfl⟩
  have HB3 := Lib.hid hB3
  clear hB3
  go_upto_region 43 with fail
  go_cut [213] (fun v213 wx => v213 = .bool B3 ∧ wr = wx)
  case first =>
    by_cases c1 : (mid : Int) < (e : Int)
    · by_cases c2 : (e : Int) < (b : Int)
      · go_wp2_with fail
        go_meet
        exact ⟨by rw [← HB3.out]; simp; omega, rfl⟩
      · go_wp2_with fail
        go_meet
        exact ⟨by rw [← HB3.out]; simp; omega, rfl⟩
    · go_wp2_with fail
      go_meet
      exact ⟨by rw [← HB3.out]; simp; omega, rfl⟩
  case rest =>
    obtain ⟨rfl, rfl⟩ := hcut
    cases B3
    · have hd := of_decide_eq_false HB3.out
      have HD := Lib.hid hd
      clear hd
      go_wp2_with fail
      go_end0
      refine ⟨rfl, L2, HM3.out, HTU.out.sb.trans (HS3.out.mono (Nat.le_refl _) (by have := HO.out; omega)), ?_, HG3.out⟩
      refine srt_join HTU.out.cross HS3.out HT3.out (Sb.refl _ _ _) ?_
      refine Srt.same (L := L1) ?_ (fun i i1 i2 => HS3.out.out i (.inr i1))
      have o := HTU.out.ord
      by_cases hq : mid < e
      · have hq2 : e = b := by have := HD.out; omega
        rw [← hq2]
        exact HTU.out.s3
      · have hq2 : e = mid := by omega
        rw [← hq2]
        exact HTU.out.s4
    · have hd := of_decide_eq_true HB3.out
      have HD := Lib.hid hd
      clear hd
      go_wp2_with fail
      refine (HREC.out _ L2 mid e b (by have := HO.out; omega) HM3.out HD.out.1 HD.out.2 HO.out.2.2.1 (HTU.out.s3.same (fun i i1 i2 => HS3.out.out i (.inr i1))) (HTU.out.s4.same (fun i i1 i2 => HS3.out.out i (.inr (by have := HD.out; omega))))).mono ?_
      rintro e5 w5 ⟨rfl, L3, hm5, hsb5, hst5, hg5⟩
      have HM5 := Lib.hid (And.intro hm5 (And.intro hsb5 (And.intro hst5 (gb_trans HG3.out hg5))))
      clear hm5 hg5 hsb5 hst5
      go_wp2_with fail
      go_end0
      exact ⟨rfl, L3, HM5.out.1, (HTU.out.sb.trans (HS3.out.mono (Nat.le_refl _) (by have := HO.out; omega))).trans (HM5.out.2.1.mono (by have := HO.out; omega) (Nat.le_refl _)), srt_join HTU.out.cross HS3.out HT3.out HM5.out.2.1 HM5.out.2.2.1, HM5.out.2.2.2⟩
set_option maxRecDepth 1000000 in
set_option maxHeartbeats 4000000 in
theorem tail41_any (w wr : World) (g : Nat) (ad : Addr) (n c : Nat) (L L1 : List EV) (a m b mid s e : Nat) (x5 x6 x7 x8 x9 x10 x11 x12 x13 x14 x15 x16 x17 x19 x21 x22 x23 x25 x26 x27 x28 x29 x30 x31 x32 x33 x34 x35 x36 x37 x38 x39 x40 x41 x42 x43 x44 x45 x46 x47 x48 x49 x50 x51 x52 x53 x54 x55 x56 x57 x58 x59 x60 x61 x62 x63 x64 x65 x66 x67 x68 x69 x70 x71 x72 x73 x74 x75 x76 x77 x78 x79 x80 x81 x82 x83 x84 x85 x86 x87 x88 x89 x90 x91 x92 x93 x94 x95 x96 x97 x98 x99 x100 x101 x102 x103 x104 x105 x106 x107 x108 x109 x110 x111 x112 x113 x114 x115 x116 x117 x118 x119 x120 x121 x122 x123 x124 x125 x126 x127 x128 x129 x130 x131 x132 x133 x134 x135 x136 x137 x138 x139 x140 x141 x142 x143 x144 x145 x146 x147 x148 x149 x150 x151 x152 x153 x154 x155 x156 x157 x158 x159 x160 x161 x162 x163 x164 x165 x166 x167 x168 x169 x170 x171 x172 x173 x174 x175 x176 x177 x178 x179 x180 x181 x182 x183 x184 x185 x186 x187 x188 x189 x190 x191 x192 x193 x194 x195 x196 x197 x198 x199 x200 x201 x202 x203 x204 x205 x206 x207 x208 x209 x210 x211 x212 x213 x214 x215 x216 x217 x218 x219 : Value) (HREC : Hid (∀ w L a' m' b', b' - a' < b - a → ML w g (some ad) n c L → a' < m' → m' < b' → b' ≤ n → Srt a' m' L → Srt m' b' L → Calls Try.prog 142 #[.slice (some ad) n c, .int .i64 (a' : Int), .int .i64 (m' : Int), .int .i64 (b' : Int), cmpV] w (MergePost w g (some ad) n c L a' b'))) (HO : Hid (a < mid ∧ mid < b ∧ b ≤ n ∧ n ≤ 1000000)) (HTU : Hid (MTurned a s m mid e b L L1)) (HM2 : Hid (ML wr g (some ad) n c L1)) (HG2 : Hid (w.grownBy wr (some g))) :
    Code.wp Try.prog tail41 (bodyPost Try.prog Try.f142 (MergePost w g (some ad) n c L a b)) ⟨(.slice (some ad) n c :: .int .i64 (a : Int) :: .int .i64 (m : Int) :: .int .i64 (b : Int) :: cmpV :: x5 :: x6 :: x7 :: x8 :: x9 :: x10 :: x11 :: x12 :: x13 :: x14 :: x15 :: x16 :: x17 :: .int .i64 (mid : Int) :: x19 :: .int .i64 (s : Int) :: x21 :: x22 :: x23 :: .int .i64 (e : Int) :: x25 :: x26 :: x27 :: x28 :: x29 :: x30 :: x31 :: x32 :: x33 :: x34 :: x35 :: x36 :: x37 :: x38 :: x39 :: x40 :: x41 :: x42 :: x43 :: x44 :: x45 :: x46 :: x47 :: x48 :: x49 :: x50 :: x51 :: x52 :: x53 :: x54 :: x55 :: x56 :: x57 :: x58 :: x59 :: x60 :: x61 :: x62 :: x63 :: x64 :: x65 :: x66 :: x67 :: x68 :: x69 :: x70 :: x71 :: x72 :: x73 :: x74 :: x75 :: x76 :: x77 :: x78 :: x79 :: x80 :: x81 :: x82 :: x83 :: x84 :: x85 :: x86 :: x87 :: x88 :: x89 :: x90 :: x91 :: x92 :: x93 :: x94 :: x95 :: x96 :: x97 :: x98 :: x99 :: x100 :: x101 :: x102 :: x103 :: x104 :: x105 :: x106 :: x107 :: x108 :: x109 :: x110 :: x111 :: x112 :: x113 :: x114 :: x115 :: x116 :: x117 :: x118 :: x119 :: x120 :: x121 :: x122 :: x123 :: x124 :: x125 :: x126 :: x127 :: x128 :: x129 :: x130 :: x131 :: x132 :: x133 :: x134 :: x135 :: x136 :: x137 :: x138 :: x139 :: x140 :: x141 :: x142 :: x143 :: x144 :: x145 :: x146 :: x147 :: x148 :: x149 :: x150 :: x151 :: x152 :: x153 :: x154 :: x155 :: x156 :: x157 :: x158 :: x159 :: x160 :: x161 :: x162 :: x163 :: x164 :: x165 :: x166 :: x167 :: x168 :: x169 :: x170 :: x171 :: x172 :: x173 :: x174 :: x175 :: x176 :: x177 :: x178 :: x179 :: x180 :: x181 :: x182 :: x183 :: x184 :: x185 :: x186 :: x187 :: x188 :: x189 :: x190 :: x191 :: x192 :: x193 :: x194 :: x195 :: x196 :: x197 :: x198 :: x199 :: x200 :: x201 :: x202 :: x203 :: x204 :: x205 :: x206 :: x207 :: x208 :: x209 :: x210 :: x211 :: x212 :: x213 :: x214 :: x215 :: x216 :: x217 :: x218 :: x219 :: []).toArray, []⟩ wr := by
  conv => arg 2; whnf
  obtain ⟨B2, hB2⟩ : ∃ B, decide (a < s ∧ s < mid) = B := ⟨_, rfl⟩
  have HB2 := Lib.hid hB2
  clear hB2
  go_upto_region 41 with fail
  go_cut [199] (fun v199 wx => v199 = .bool B2 ∧ wr = wx)
  case first =>
    by_cases c1 : (a : Int) < (s : Int)
    · by_cases c2 : (s : Int) < (mid : Int)
      · go_wp2_with fail
        go_meet
        exact ⟨by rw [← HB2.out]; simp; omega, rfl⟩
      · go_wp2_with fail
        go_meet
        exact ⟨by rw [← HB2.out]; simp; omega, rfl⟩
    · go_wp2_with fail
      go_meet
      exact ⟨by rw [← HB2.out]; simp; omega, rfl⟩
  case rest =>
    obtain ⟨rfl, rfl⟩ := hcut
    go_upto_if 199 with fail
    go_cut [] (fun wx => Hid (∃ L2, ML wx g (some ad) n c L2 ∧ Sb a mid L1 L2 ∧ Srt a mid L2 ∧ w.grownBy wx (some g)))
    case first =>
      cases B2
      · have hd := of_decide_eq_false HB2.out
        have HD := Lib.hid hd
        clear hd
        go_wp2_with fail
        go_meet
        refine Lib.hid ⟨L1, HM2.out, Sb.refl _ _ _, ?_, HG2.out⟩
        have o := HTU.out.ord
        by_cases hq : a < s
        · have hq2 : s = mid := by have := HD.out; omega
          rw [← hq2]
          exact HTU.out.s1
        · have hq2 : s = a := by omega
          rw [← hq2]
          exact HTU.out.s2
      · have hd := of_decide_eq_true HB2.out
        have HD := Lib.hid hd
        clear hd
        go_wp2_with fail
        refine (HREC.out _ L1 a s mid (by have := HO.out; omega) HM2.out HD.out.1 HD.out.2 (by have := HO.out; omega) HTU.out.s1 HTU.out.s2).mono ?_
        rintro e5 w5 ⟨rfl, L2, hm5, hsb5, hst5, hg5⟩
        have HM5 := Lib.hid (And.intro hm5 (And.intro hsb5 (And.intro hst5 (gb_trans HG2.out hg5))))
        clear hm5 hg5 hsb5 hst5
        go_wp2_with fail
        go_meet
        exact Lib.hid ⟨L2, HM5.out.1, HM5.out.2.1, HM5.out.2.2.1, HM5.out.2.2.2⟩
    case rest =>
      obtain ⟨L2, hm3, hs3, ht3, hg3⟩ := (Hid.out hcut)
      have HM3 := Lib.hid hm3
      have HS3 := Lib.hid hs3
      have HT3 := Lib.hid ht3
      have HG3 := Lib.hid hg3
      clear hm3 hs3 ht3 hg3 hcut
      refine (‹∀ (a_1 : Act) (w_1 : World), Code.wp Try.prog _ (bodyPost Try.prog Try.f142 _) a_1 w_1 → _›) _ _ ?_
      exact tail43_any w wc g ad n c L L1 a m b mid s e L2 _ _ _ _ _ _ _ _ _ _ _ _ _ _ _ _ _ _ _ _ _ _ _ _ _ _ _ _ _ _ _ _ _ _ _ _ _ _ _ _ _ _ _ _ _ _ _ _ _ _ _ _ _ _ _ _ _ _ _ _ _ _ _ _ _ _ _ _ _ _ _ _ _ _ _ _ _ _ _ _ _ _ _ _ _ _ _ _ _ _ _ _ _ _ _ _ _ _ _ _ _ _ _ _ _ _ _ _ _ _ _ _ _ _ _ _ _ _ _ _ _ _ _ _ _ _ _ _ _ _ _ _ _ _ _ _ _ _ _ _ _ _ _ _ _ _ _ _ _ _ _ _ _ _ _ _ _ _ _ _ _ _ _ _ _ _ _ _ _ _ _ _ _ _ _ _ _ _ _ _ _ _ _ _ _ _ _ _ _ _ _ _ _ _ _ _ _ _ _ _ _ _ _ _ _ _ _ _ _ _ _ _ HREC HO HTU HM3 HS3 HT3 HG3
set_option maxRecDepth 1000000 in
set_option maxHeartbeats 4000000 in
theorem tail39_any (w wr : World) (g : Nat) (ad : Addr) (n c : Nat) (L L1 : List EV) (a m b mid s e : Nat) (x5 x6 x7 x8 x9 x10 x11 x12 x13 x14 x15 x16 x17 x19 x21 x22 x23 x25 x26 x27 x28 x29 x30 x31 x32 x33 x34 x35 x36 x37 x38 x39 x40 x41 x42 x43 x44 x45 x46 x47 x48 x49 x50 x51 x52 x53 x54 x55 x56 x57 x58 x59 x60 x61 x62 x63 x64 x65 x66 x67 x68 x69 x70 x71 x72 x73 x74 x75 x76 x77 x78 x79 x80 x81 x82 x83 x84 x85 x86 x87 x88 x89 x90 x91 x92 x93 x94 x95 x96 x97 x98 x99 x100 x101 x102 x103 x104 x105 x106 x107 x108 x109 x110 x111 x112 x113 x114 x115 x116 x117 x118 x119 x120 x121 x122 x123 x124 x125 x126 x127 x128 x129 x130 x131 x132 x133 x134 x135 x136 x137 x138 x139 x140 x141 x142 x143 x144 x145 x146 x147 x148 x149 x150 x151 x152 x153 x154 x155 x156 x157 x158 x159 x160 x161 x162 x163 x164 x165 x166 x167 x168 x169 x170 x171 x172 x173 x174 x175 x176 x177 x178 x179 x180 x181 x182 x183 x184 x185 x186 x187 x188 x189 x190 x191 x192 x193 x194 x195 x196 x197 x198 x199 x200 x201 x202 x203 x204 x205 x206 x207 x208 x209 x210 x211 x212 x213 x214 x215 x216 x217 x218 x219 : Value) (HREC : Hid (∀ w L a' m' b', b' - a' < b - a → ML w g (some ad) n c L → a' < m' → m' < b' → b' ≤ n → Srt a' m' L → Srt m' b' L → Calls Try.prog 142 #[.slice (some ad) n c, .int .i64 (a' : Int), .int .i64 (m' : Int), .int .i64 (b' : Int), cmpV] w (MergePost w g (some ad) n c L a' b'))) (HO : Hid (a < mid ∧ mid < b ∧ b ≤ n ∧ n ≤ 1000000)) (HTU : Hid (MTurned a s m mid e b L L1)) (HM : Hid (ML w g (some ad) n c L)) (HB : Hid (Below w.heap.size w wr)) (HLA : Hid (decide (s < m ∧ m < e) = true → L1 = rotL L s m e)) (HLB : Hid (decide (s < m ∧ m < e) = false → L1 = L)) :
    Code.wp Try.prog tail39 (bodyPost Try.prog Try.f142 (MergePost w g (some ad) n c L a b)) ⟨(.slice (some ad) n c :: .int .i64 (a : Int) :: .int .i64 (m : Int) :: .int .i64 (b : Int) :: cmpV :: x5 :: x6 :: x7 :: x8 :: x9 :: x10 :: x11 :: x12 :: x13 :: x14 :: x15 :: x16 :: x17 :: .int .i64 (mid : Int) :: x19 :: .int .i64 (s : Int) :: x21 :: x22 :: x23 :: .int .i64 (e : Int) :: x25 :: x26 :: x27 :: x28 :: x29 :: x30 :: x31 :: x32 :: x33 :: x34 :: x35 :: x36 :: x37 :: x38 :: x39 :: x40 :: x41 :: x42 :: x43 :: x44 :: x45 :: x46 :: x47 :: x48 :: x49 :: x50 :: x51 :: x52 :: x53 :: x54 :: x55 :: x56 :: x57 :: x58 :: x59 :: x60 :: x61 :: x62 :: x63 :: x64 :: x65 :: x66 :: x67 :: x68 :: x69 :: x70 :: x71 :: x72 :: x73 :: x74 :: x75 :: x76 :: x77 :: x78 :: x79 :: x80 :: x81 :: x82 :: x83 :: x84 :: x85 :: x86 :: x87 :: x88 :: x89 :: x90 :: x91 :: x92 :: x93 :: x94 :: x95 :: x96 :: x97 :: x98 :: x99 :: x100 :: x101 :: x102 :: x103 :: x104 :: x105 :: x106 :: x107 :: x108 :: x109 :: x110 :: x111 :: x112 :: x113 :: x114 :: x115 :: x116 :: x117 :: x118 :: x119 :: x120 :: x121 :: x122 :: x123 :: x124 :: x125 :: x126 :: x127 :: x128 :: x129 :: x130 :: x131 :: x132 :: x133 :: x134 :: x135 :: x136 :: x137 :: x138 :: x139 :: x140 :: x141 :: x142 :: x143 :: x144 :: x145 :: x146 :: x147 :: x148 :: x149 :: x150 :: x151 :: x152 :: x153 :: x154 :: x155 :: x156 :: x157 :: x158 :: x159 :: x160 :: x161 :: x162 :: x163 :: x164 :: x165 :: x166 :: x167 :: x168 :: x169 :: x170 :: x171 :: x172 :: x173 :: x174 :: x175 :: x176 :: x177 :: x178 :: x179 :: x180 :: x181 :: x182 :: x183 :: x184 :: x185 :: x186 :: x187 :: x188 :: x189 :: x190 :: x191 :: x192 :: x193 :: x194 :: x195 :: x196 :: x197 :: x198 :: x199 :: x200 :: x201 :: x202 :: x203 :: x204 :: x205 :: x206 :: x207 :: x208 :: x209 :: x210 :: x211 :: x212 :: x213 :: x214 :: x215 :: x216 :: x217 :: x218 :: x219 :: []).toArray, []⟩ wr := by
  conv => arg 2; whnf
  have hn : n ≤ 1000000 := HO.out.2.2.2
  obtain ⟨B1, hB1⟩ : ∃ B, decide (s < m ∧ m < e) = B := ⟨_, rfl⟩
  rw [hB1] at HLA HLB
  have HB1 := Lib.hid hB1
  clear hB1
  go_upto_region 39 with fail
  go_cut [185] (fun v185 wx => v185 = .bool B1 ∧ Hid (Below w.heap.size w wx))
  case first =>
    by_cases c1 : (s : Int) < (m : Int)
    · by_cases c2 : (m : Int) < (e : Int)
      · go_wp2_with fail
        go_meet
        exact ⟨by rw [← HB1.out]; simp; omega, HB⟩
      · go_wp2_with fail
        go_meet
        exact ⟨by rw [← HB1.out]; simp; omega, HB⟩
    · go_wp2_with fail
      go_meet
      exact ⟨by rw [← HB1.out]; simp; omega, HB⟩
  case rest =>
    obtain ⟨rfl, HB⟩ := hcut
    have HM1 := Lib.hid (HM.out.after HB.out)
    go_upto_if 185 with fail
    go_cut [] (fun wx => Hid (ML wx g (some ad) n c L1) ∧ Hid (w.grownBy wx (some g)))
    case first =>
      cases B1
      · go_wp2_with fail
        go_meet
        rw [HLB.out (by first | trivial | rfl)]
        exact ⟨HM1, Lib.hid (gb_below HB.out)⟩
      · have hd := of_decide_eq_true HB1.out
        have HD := Lib.hid hd
        clear hd
        go_wp2_with fail
        refine (nd_rotate wc g (some ad) n c L s m e HM1.out HD.out.1 HD.out.2 (by have := HTU.out.ord; have := HO.out; omega) hn).mono ?_
        rintro e5 w5 ⟨rfl, hm5, hg5⟩
        have HM5 := Lib.hid hm5
        have HG5 := Lib.hid (gb_trans (gb_below HB.out) hg5)
        clear hm5 hg5
        go_wp2_with fail
        go_meet
        rw [HLA.out (by first | trivial | rfl)]
        exact ⟨HM5, HG5⟩
    case rest =>
      obtain ⟨HM2, HG2⟩ := hcut
      refine (‹∀ (a_1 : Act) (w_1 : World), Code.wp Try.prog _ (bodyPost Try.prog Try.f142 _) a_1 w_1 → _›) _ _ ?_
      exact tail41_any w wc g ad n c L L1 a m b mid s e _ _ _ _ _ _ _ _ _ _ _ _ _ _ _ _ _ _ _ _ _ _ _ _ _ _ _ _ _ _ _ _ _ _ _ _ _ _ _ _ _ _ _ _ _ _ _ _ _ _ _ _ _ _ _ _ _ _ _ _ _ _ _ _ _ _ _ _ _ _ _ _ _ _ _ _ _ _ _ _ _ _ _ _ _ _ _ _ _ _ _ _ _ _ _ _ _ _ _ _ _ _ _ _ _ _ _ _ _ _ _ _ _ _ _ _ _ _ _ _ _ _ _ _ _ _ _ _ _ _ _ _ _ _ _ _ _ _ _ _ _ _ _ _ _ _ _ _ _ _ _ _ _ _ _ _ _ _ _ _ _ _ _ _ _ _ _ _ _ _ _ _ _ _ _ _ _ _ _ _ _ _ _ _ _ _ _ _ _ _ _ _ _ _ _ _ _ _ _ _ _ _ _ _ _ _ _ _ _ _ _ _ HREC HO HTU HM2 HG2
end Go.Proofs.Ytaebmhbggbpnoaa
