/- Plain laws of frames: a right record's frame is taken, and so are frames one behind the other. Plain theorems, no program; conditions: each theorem's premises. -/
import Derived.Test.YtaebmhbggbpnoaaGFrSpec
import Derived.Test.YtaebmhbggbpnoaaGCrc10
namespace Go.Proofs.Ytaebmhbggbpnoaa
theorem le32_len (x : Nat) : (Crc.le32 x).length = 4 := by simp [Crc.le32]
theorem frE_len {k : Nat} {nm bs : List UInt8} : (frE k nm bs).length = (recE k nm bs).length + 4 := seal_len _
theorem rec_of {k : Nat} {nm bs : List UInt8} (hk0 : 0 < k) (hk : k ≤ 9) (hn : nm.length = 32) (hb : bs.length ≤ 5000) : recOf (recT k nm bs) = some (k, nm, bs) := by
  unfold recOf
  rw [if_pos]
  · rfl
  · exact ⟨⟨rfl, rfl⟩, ⟨rfl, hk, rfl, hn, rfl⟩, hk0, hb⟩
/-- What is taken of a frame with something behind it. -/
theorem frT_put {k : Nat} {nm bs rest : List UInt8} (hk0 : 0 < k) (hk : k ≤ 9) (hn : nm.length = 32) (hb : bs.length ≤ 5000) : frT (frE k nm bs ++ rest) = .good k nm bs (frE k nm bs).length := by
  have h1 : frE k nm bs ++ rest = recE k nm bs ++ (Crc.le32 (Crc.sum (recE k nm bs)) ++ rest) := by unfold frE Crc.seal_; rw [List.append_assoc]
  have hr : readT 8 (frE k nm bs ++ rest) = some (recT k nm bs, Crc.le32 (Crc.sum (recE k nm bs)) ++ rest) := by rw [h1]; exact rec_read hk hn (by omega) _
  have hl : (frE k nm bs ++ rest).length - (Crc.le32 (Crc.sum (recE k nm bs)) ++ rest).length + 4 = (frE k nm bs).length := by
    simp only [List.length_append, le32_len, frE_len]; omega
  unfold frT
  rw [hr]
  simp only
  rw [if_neg (by simp only [List.length_append, le32_len]; omega), hl, List.take_left, if_neg (by rw [frE, (openF_seal _).1]; simp), rec_of hk0 hk hn hb]
/-- What stands where a frame is cut off. -/
theorem readT_nil : readT 8 [] = none := by
  cases h : readT 8 [] with
  | none => rfl
  | some p =>
    obtain ⟨v, rest⟩ := p
    obtain ⟨-, x, -, e⟩ := put_read 8 [] rest v h
    have := congrArg List.length e
    simp [headT] at this
theorem frT_nil : frT [] = .bad 16 := by unfold frT; rw [readT_nil]
end Go.Proofs.Ytaebmhbggbpnoaa
