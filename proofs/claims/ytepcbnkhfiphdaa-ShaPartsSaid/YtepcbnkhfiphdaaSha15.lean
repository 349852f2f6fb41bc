/- The walks of Text and the reference's Text (sha). Conditions: each theorem's premises. -/
import Derived.Test.YtepcbnkhfiphdaaSha14
import Derived.Test.YtepcbnkhfiphdaaShelf2
namespace Go.Proofs.Ytepcbnkhfiphdaa
open Go.RowKit
/-- A digit's sign. -/
def Sha.dg (k : Nat) : UInt8 := if k < 10 then (48 + k).toUInt8 else (87 + k).toUInt8
/-- A hash as text. -/
def Sha.hex : List UInt8 → List UInt8
  | [] => []
  | b :: l => Sha.dg (b.toNat / 16) :: Sha.dg (b.toNat % 16) :: Sha.hex l
theorem hex_app (a b : List UInt8) : Sha.hex (a ++ b) = Sha.hex a ++ Sha.hex b := by
  induction a with
  | nil => rfl
  | cons x a ih => simp [Sha.hex, ih]
theorem hex_len (a : List UInt8) : (Sha.hex a).length = 2 * a.length := by
  induction a with
  | nil => rfl
  | cons x a ih => simp [Sha.hex, ih]; omega
def digs : ByteArray := ⟨#[48, 49, 50, 51, 52, 53, 54, 55, 56, 57, 97, 98, 99, 100, 101, 102]⟩
theorem digs_all : ∀ k, k < 16 → digs[k]? = some (Sha.dg k) := by decide
theorem run_dig (k : Nat) (h : k < 16) (W : World) : (Instr.index 9 (.string ⟨#[48, 49, 50, 51, 52, 53, 54, 55, 56, 57, 97, 98, 99, 100, 101, 102]⟩) (.int .u8 (k : Int))).run Try.prog W = .ok (.int .u8 ((Sha.dg k).toNat : Int)) W := by
  have h0 : (0 : Int) ≤ (k : Int) := by omega
  have h1 : digs[k]? = some (Sha.dg k) := digs_all k h
  have h2 : (if 0 ≤ (k : Int) then digs[(k : Int).toNat]? else none) = some (Sha.dg k) := by rw [if_pos h0]; exact h1
  show (Instr.index 9 (.string digs) (.int .u8 (k : Int))).run Try.prog W = _
  simp only [Instr.index, asIntOf, Sem.run_bind, Sem.run_pure, Result.andThen_ok, run_underlying Try.underlying9, h2]
theorem run_nm (nm : List UInt8) (hn : nm.length = 32) (k : Nat) (b : UInt8) (hb : nm[k]? = some b) (W : World) : (Instr.index 30 (.agg (NC nm)) (.int .i64 (k : Int))).run Try.prog W = .ok (.int .u8 (b.toNat : Int)) W := by
  have hk : k < 32 := by have := (List.getElem?_eq_some_iff.1 hb).1; omega
  have h0 : (0 : Int) ≤ (k : Int) ∧ (k : Int) < ((32 : Nat) : Int) := by omega
  have hc : (NC nm)[k]? = some (.int .u8 (b.toNat : Int)) := by simp [NC, u8s, u8v, hb]
  simp only [Instr.index, asIntOf, Sem.run_bind, Sem.run_pure, Result.andThen_ok, run_underlying Try.underlying30, if_pos h0, Try.sizeOf5, part, Try.isAgg5]
  rw [show (k : Int).toNat * 1 = k by omega, hc]
  rfl
theorem and15 (b : UInt8) : bits .and .u8 (b.toNat : Int) 15 = ((b.toNat % 16 : Nat) : Int) := by
  have h := u8_and_nat b.toNat 15 b.toNat_lt (by omega)
  have e : b.toNat &&& 15 = b.toNat % 16 := Nat.and_two_pow_sub_one_eq_mod b.toNat 4
  rw [← e]
  exact h
set_option maxRecDepth 100000 in
set_option maxHeartbeats 1000000 in
theorem text_any (w : World) (nm : List UInt8) (hn : nm.length = 32) : Calls Try.prog 20 #[.agg (NC nm)] w fun e w' => e = .returned (.string ⟨(Sha.hex nm).toArray⟩) ∧ Below w.heap.size w w' := by
  have HNM := Lib.hid hn
  clear hn
  go_enter Try.func20, Try.ntmps20
  have HB := Lib.hid (show Blk ((w.alloc (.cells (NC nm) 30)).alloc (.cells #[.pointer none, .slice none 0 0] 84)) w.heap.size 30 (NC nm) from (Blk.new w 30 (NC nm)).alloc _)
  have hB2 : Blk ((w.alloc (.cells (NC nm) 30)).alloc (.cells #[.pointer none, .slice none 0 0] 84)) (w.heap.size + 1) 84 #[.pointer none, .slice none 0 0] := blk_new (by simp)
  have HI := Lib.hid (show Lib.IsBuilder 84 5 (w.heap.size + 1) (w.heap.size + 1) (Lib.byteCells (Sha.hex (nm.take 0))) ((w.alloc (.cells (NC nm) 30)).alloc (.cells #[.pointer none, .slice none 0 0] 84)) from .inl ⟨Nat.le_refl _, .slice none 0 0, hB2, World.ownsRow_nil _ _ _ _, by simp [Value.ownBlock]⟩)
  have HW := Lib.hid (show Below w.heap.size w ((w.alloc (.cells (NC nm) 30)).alloc (.cells #[.pointer none, .slice none 0 0] 84)) from ((Below.refl _ _).alloc (Nat.le_refl _) _).alloc (by simp) _)
  have HZ := Lib.hid (show w.heap.size + 1 ≤ ((w.alloc (.cells (NC nm) 30)).alloc (.cells #[.pointer none, .slice none 0 0] 84)).heap.size by simp)
  clear hB2
  go_wp2_with (refine wl_ldN rfl (.tmp 1) rfl rfl HNM.out HB.out ?_)
  obtain ⟨W0, hW0⟩ : ∃ W0, W0 = (w.alloc (.cells (NC nm) 30)).alloc (.cells #[.pointer none, .slice none 0 0] 84) := ⟨_, rfl⟩
  rw [← hW0] at HI HW HZ
  rw [← hW0]
  clear hW0 HB
  go_loopw [7] (fun v7 wr => ∃ k : Nat, k ≤ 32 ∧ v7 = .int .i64 (k : Int) ∧ Hid (Lib.IsBuilder 84 5 (w.heap.size + 1) (w.heap.size + 1) (Lib.byteCells (Sha.hex (nm.take k))) wr) ∧ Hid (Below w.heap.size w wr) ∧ Hid (w.heap.size + 1 ≤ wr.heap.size)) (fun v7 _ => 32 - (intOf v7).toNat)
  case atStart => exact ⟨0, by omega, rfl, HI, HW, HZ⟩
  case round =>
    clear HI HW HZ
    obtain ⟨k, hk, rfl, HI, HW, HZ⟩ := hrel
    by_cases hlt : k < 32
    · have hlt' : (k : Int) < 32 := by omega
      obtain ⟨b, hb⟩ : ∃ b, nm[k]? = some b := ⟨_, List.getElem?_eq_getElem (by rw [HNM.out]; exact hlt)⟩
      have r0 := run_nm nm HNM.out k b hb
      have HBB := Lib.hid hb
      have hbl := b.toNat_lt
      obtain ⟨d1, h1⟩ : ∃ d, d = b.toNat / 16 := ⟨_, rfl⟩
      obtain ⟨d2, h2⟩ : ∃ d, d = b.toNat % 16 := ⟨_, rfl⟩
      have r1 := run_dig d1 (by omega)
      have r2 := run_dig d2 (by omega)
      have e1 : (b.toNat : Int) / 16 = (d1 : Int) := by omega
      have e2 : bits .and .u8 (b.toNat : Int) 15 = (d2 : Int) := by rw [and15 b, h2]
      have e3 : (b.toNat : Int) % 16 = (d2 : Int) := by omega
      have H12 := Lib.hid (And.intro h1 h2)
      clear hb hbl h1 h2
      have hlen : (Lib.byteCells (Sha.hex (nm.take k))).length ≤ 64 := by rw [Lib.byteCells_length, hex_len, List.length_take]; omega
      have HLN := Lib.hid hlen
      clear hlen
      go_wp2_with fail
      refine (Try.Builder_WriteByte _ _ _ _ wr HI.out (by have := HLN.out; omega) HZ.out).mono ?_
      rintro e w2 ⟨rfl, hb2, hbl2⟩
      have HB2 := Lib.hid (show Lib.IsBuilder 84 5 (w.heap.size + 1) (w.heap.size + 1) (Lib.byteCells (Sha.hex (nm.take k)) ++ [.int .u8 ((Sha.dg d1).toNat : Int)]) w2 from .inr hb2)
      have HBL2 := Lib.hid hbl2
      clear hb2 hbl2
      go_wp2_with fail
      refine (Try.Builder_WriteByte _ _ _ _ w2 HB2.out (by have := HLN.out; rw [List.length_append]; simp; omega) (Nat.le_trans HZ.out HBL2.out.size)).mono ?_
      rintro e w3 ⟨rfl, hb3, hbl3⟩
      have HB3 := Lib.hid (show Lib.IsBuilder 84 5 (w.heap.size + 1) (w.heap.size + 1) (Lib.byteCells (Sha.hex (nm.take (k + 1)))) w3 from .inr (by
        rw [take_snoc HBB.out, hex_app]
        have e : Sha.hex [b] = [Sha.dg d1, Sha.dg d2] := by rw [H12.out.1, H12.out.2]; rfl
        rw [e]
        have e2 : Lib.byteCells (Sha.hex (nm.take k) ++ [Sha.dg d1, Sha.dg d2]) = Lib.byteCells (Sha.hex (nm.take k)) ++ [.int .u8 ((Sha.dg d1).toNat : Int)] ++ [.int .u8 ((Sha.dg d2).toNat : Int)] := by simp [Lib.byteCells]
        rw [e2]
        exact hb3))
      have HBL3 := Lib.hid (HBL2.out.trans hbl3)
      clear hb3 hbl3
      go_wp2_with fail
      go_roundw
      case rel => exact ⟨k + 1, by omega, by go_num, HB3, Lib.hid (HW.out.trans (HBL3.out.mono (by omega))), Lib.hid (Nat.le_trans HZ.out HBL3.out.size)⟩
      case measure => simp [intOf]; omega
    · obtain rfl : k = 32 := by omega
      have HI2 := Lib.hid (show Lib.IsBuilder 84 5 (w.heap.size + 1) (w.heap.size + 1) (Lib.byteCells (Sha.hex nm)) wr by have := HI.out; rwa [List.take_of_length_le (by rw [HNM.out]; omega)] at this)
      go_wp2_with fail
      refine (Try.Builder_String_any _ _ _ wr HI2.out HZ.out).mono ?_
      rintro e w2 ⟨rfl, hb2⟩
      have HBL2 := Lib.hid hb2
      clear hb2
      go_wp2_with fail
      go_ret
      exact ⟨rfl, HW.out.trans (HBL2.out.mono (by omega))⟩
end Go.Proofs.Ytepcbnkhfiphdaa
