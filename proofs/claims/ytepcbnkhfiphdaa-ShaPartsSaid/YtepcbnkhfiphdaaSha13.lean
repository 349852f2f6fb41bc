/- The walks of the engine's Sum and Many (sha). Conditions: each theorem's premises. -/
import Derived.Test.YtepcbnkhfiphdaaSha12
namespace Go.Proofs.Ytepcbnkhfiphdaa
open Go.RowKit
theorem NC_size {nm : List UInt8} (h : nm.length = 32) : (NC nm).size = 32 := by simp [NC, u8s, h]
theorem NC_one (nm : List UInt8) : (NC nm).all (·.oneCell') = true := by
  rw [Array.all_eq_true_iff_forall_mem]
  intro v hv
  exact u8s_one v (by simpa [NC] using hv)
section
variable {ops : Array Oper} {rest : List Oper} {o : Oper} {a : Act} {Q : Exit → Act → World → Prop} {w : World}
theorem wl_ldN (hw : Region.wanted o (yielded ops a.tmps) = true) (x : Operand) (ho : o.op = .load 30 x) {g t : Nat} (hx : a.eval x = .pointer (some ⟨g, 0, none⟩)) {nm : List UInt8} (hn : nm.length = 32) (h : Blk w g t (NC nm))
    (hk : wpList Try.prog ops Q rest (a.put o.dst (.agg (NC nm))) w) : wpList Try.prog ops Q (o :: rest) a w :=
  BigFrame.wpList_want hw fun _ hK => wp_load_row 30 x ho g hx t _ (0, 0) _ h Try.underlying30 rfl (by rw [size30, NC_size hn]) (hK _ _ hk)
theorem wl_stN (hw : Region.wanted o (yielded ops a.tmps) = true) (x y : Operand) (ho : o.op = .store 30 x y) {g t : Nat} (hx : a.eval x = .pointer (some ⟨g, 0, none⟩)) {nm : List UInt8} (hn : nm.length = 32) (hy : a.eval y = .agg (NC nm)) {old : Array Value} (h : Blk w g t old) (hold : old.size = 32)
    (hk : ∀ w', Blk w' g t (NC nm) → w.grownBy w' (some g) → wpList Try.prog ops Q rest (a.put o.dst undef) w') : wpList Try.prog ops Q (o :: rest) a w := by
  have hi : (Try.prog.info? 30).map (·.size) = some (NC nm).size := by rw [size30, NC_size hn]
  exact BigFrame.wpList_want hw fun _ hK => wp_store_row 30 x y ho g _ hx hy t old h hi (by rw [hold, NC_size hn]) (NC_one nm) (hK _ _ (hk _ (setRow_heap w g old _ t (0, 0) h) ⟨rfl, rfl, rfl, by simp, fun i _ hne => setRow_other w g i _ (fun e => hne (by rw [e]))⟩))
end
theorem results30 {fn : Func} {p : Tmp} (h : fn.results = #[.cell p 30]) (tmps : Array Value) (w : World) (g t : Nat) (nm : List UInt8) (hn : nm.length = 32) (hp : tmps.getD p undef = .pointer (some ⟨g, 0, none⟩)) (hg : Blk w g t (NC nm)) : (results fn tmps).run Try.prog w = .ok (.agg (NC nm)) w :=
  results_cell_row h tmps w g t (NC nm) (0, 0) _ hp hg Try.underlying30 rfl (by rw [size30, NC_size hn])
set_option maxRecDepth 100000 in
theorem esum_nil (w : World) (A : Option Addr) (n c : Nat) : Calls Try.prog 11 #[.pointer none, .slice A n c] w fun e w' => e = .returned (.agg (NC (List.replicate 32 0))) ∧ Below w.heap.size w w' := by
  have hl : (List.replicate 32 (0 : UInt8)).length = 32 := List.length_replicate
  have HL := Lib.hid hl
  clear hl
  obtain ⟨Z, hZ⟩ : ∃ Z, Z = List.replicate 32 (0 : UInt8) := ⟨_, rfl⟩
  have HC := Lib.hid (fun w => ssum_nil w)
  rw [← hZ] at HL HC ⊢
  clear hZ
  have HBX := Lib.hid (box30 w)
  go_enter Try.func11, Try.ntmps11
  go_wp2_with fail
  obtain ⟨W0, hW0⟩ : ∃ W0, W0 = w.alloc (.cells #[.int .u8 0, .int .u8 0, .int .u8 0, .int .u8 0, .int .u8 0, .int .u8 0, .int .u8 0, .int .u8 0, .int .u8 0, .int .u8 0, .int .u8 0, .int .u8 0, .int .u8 0, .int .u8 0, .int .u8 0, .int .u8 0, .int .u8 0, .int .u8 0, .int .u8 0, .int .u8 0, .int .u8 0, .int .u8 0, .int .u8 0, .int .u8 0, .int .u8 0, .int .u8 0, .int .u8 0, .int .u8 0, .int .u8 0, .int .u8 0, .int .u8 0, .int .u8 0] 30) := ⟨_, rfl⟩
  rw [← hW0] at HBX
  rw [← hW0]
  have HB0 := Lib.hid (show Below w.heap.size w W0 by rw [hW0]; exact (Below.refl _ _).alloc (Nat.le_refl _) _)
  clear hW0
  refine (stream_nil W0).mono ?_
  rintro e w' ⟨rfl, rfl⟩
  go_wp2_with fail
  refine (write_nil W0 _).mono ?_
  rintro e w' ⟨rfl, rfl⟩
  go_wp2_with fail
  refine (HC.out W0).mono ?_
  rintro e w1 ⟨rfl, hb1⟩
  have HB1 := Lib.hid hb1
  have HBX1 := Lib.hid (HBX.out.after hb1)
  clear hb1
  go_wp2_with (refine wl_stN rfl (.tmp 4) (.tmp 12) rfl rfl HL.out rfl HBX1.out (UB.size _) ?_; intro w5 hb5 hg5)
  refine bodyPost_ret (results30 rfl _ _ w.heap.size 30 _ HL.out rfl hb5) rfl ⟨rfl, ?_⟩
  exact (HB0.out.trans (HB1.out.mono HB0.out.size)).trans (only_below hg5 (Nat.le_refl _) (Nat.le_trans HB0.out.size HB1.out.size))
set_option maxRecDepth 100000 in
theorem esum_any (w : World) (g : Nat) (nb : Int) (h : Eng w g nb) (hnb : 0 ≤ nb ∧ nb ≤ 5000000000000000) (S : Nat → Prop) (A : Option Addr) (c : Nat) (bs : List UInt8) (hx : Bs w S A bs.length c bs) (hS : ∀ k, S k → k < w.heap.size → k ≠ g) (hn : bs.length ≤ 140737488351232) :
    Calls Try.prog 11 #[.pointer (some ⟨g, 0, none⟩), .slice A bs.length c] w fun e w' => e = .returned (.agg (NC (Sha.sum bs))) ∧ En w' g 1 0 fillF (nb + (((bs.length + 72) / 64 : Nat) : Int)) ∧ w.grownBy w' (some g) := by
  obtain ⟨hn1, hn2⟩ := hnb
  have HX := Lib.hid hx
  have HE := Lib.hid h
  have HS := Lib.hid hS
  have hgl := h.lt
  have HL := Lib.hid (Sha.sum_len bs)
  have HBX := Lib.hid (box30 w)
  clear hx h hS
  obtain ⟨n, hnn⟩ : ∃ n, n = bs.length := ⟨_, rfl⟩
  rw [← hnn] at HX hn
  rw [← hnn]
  have HN := Lib.hid hnn
  clear hnn
  obtain ⟨Z, hZ⟩ : ∃ Z, Z = Sha.sum bs := ⟨_, rfl⟩
  rw [← hZ] at HL
  rw [← hZ]
  have HZ := Lib.hid hZ
  clear hZ
  go_enter Try.func11, Try.ntmps11
  go_wp2_with fail
  obtain ⟨W0, hW0⟩ : ∃ W0, W0 = w.alloc (.cells #[.int .u8 0, .int .u8 0, .int .u8 0, .int .u8 0, .int .u8 0, .int .u8 0, .int .u8 0, .int .u8 0, .int .u8 0, .int .u8 0, .int .u8 0, .int .u8 0, .int .u8 0, .int .u8 0, .int .u8 0, .int .u8 0, .int .u8 0, .int .u8 0, .int .u8 0, .int .u8 0, .int .u8 0, .int .u8 0, .int .u8 0, .int .u8 0, .int .u8 0, .int .u8 0, .int .u8 0, .int .u8 0, .int .u8 0, .int .u8 0, .int .u8 0, .int .u8 0] 30) := ⟨_, rfl⟩
  rw [← hW0] at HBX
  rw [← hW0]
  have HB0 := Lib.hid (show Below w.heap.size w W0 by rw [hW0]; exact (Below.refl _ _).alloc (Nat.le_refl _) _)
  clear hW0
  refine (stream_any W0 g nb (HE.out.after HB0.out)).mono ?_
  rintro e w1 ⟨s, rfl, hs, hsm, hen, hg1⟩
  have o1 : Only (fun j => j = g) W0 w1 := Only.of_grown hg1 (fun j e => by injection e with e; exact e.symm)
  have HX1 := Lib.hid ((HX.out.after HB0.out).oldS.but o1 (fun j hj hlt e => by
    rcases Nat.lt_or_ge j w.heap.size with h | h
    · exact HS.out j hj.1 h e
    · omega))
  have HSM := Lib.hid hsm
  have HEN := Lib.hid hen
  have HO1 := Lib.hid o1
  have hz0 := HB0.out.size
  have hlW0 := HBX.out.lt
  have HBX1 := Lib.hid (HBX.out.but o1 (by omega))
  clear hsm hen hg1 o1
  go_wp2_with fail
  have HW := Lib.hid (write_any w1 s g nb (.slice none 0 0) [] HSM.out HEN.out (by omega) _ A c bs (by rw [← HN.out]; exact HX1.out) (by rw [← HN.out]; exact hn) (by simp))
  rw [← HN.out] at HW
  refine HW.out.mono ?_
  rintro e w2 ⟨rfl, lv2, hsm2, hen2, ho2, hf2⟩
  have HSM2 := Lib.hid hsm2
  have hen2' : En w2 g 1 0 fillF (nb + ((n / 64 : Nat) : Int)) := by rw [← HN.out] at hen2; simpa using hen2
  have HEN2 := Lib.hid hen2'
  have HO2 := Lib.hid ho2
  have HBX2 := Lib.hid (HBX1.out.but ho2 (by intro e; rcases e with e | e | e <;> first | omega | (cases e)))
  clear hsm2 hen2 hen2' ho2 hf2 HW
  go_wp2_with fail
  refine (ssum_any w2 s g (nb + ((n / 64 : Nat) : Int)) lv2 ([] ++ bs) HSM2.out HEN2.out (by omega) (by rw [List.nil_append, ← HN.out]; omega)).mono ?_
  rintro e w3 ⟨rfl, hen3, hg3⟩
  rw [List.nil_append, ← HN.out] at hen3
  rw [List.nil_append, ← HZ.out]
  have HEN3 := Lib.hid (show En w3 g 1 0 fillF (nb + (((n + 72) / 64 : Nat) : Int)) by rw [show nb + (((n + 72) / 64 : Nat) : Int) = nb + ((n / 64 : Nat) : Int) + (((n + 72) / 64 - n / 64 : Nat) : Int) by omega]; exact hen3)
  have HG3 := Lib.hid hg3
  have HBX3 := Lib.hid (HBX2.out.grown hg3 (fun e => by injection e with e; omega))
  clear hen3 hg3
  go_wp2_with (refine wl_stN rfl (.tmp 4) (.tmp 12) rfl rfl HL.out rfl HBX3.out (UB.size _) ?_; intro w5 hb5 hg5)
  refine bodyPost_ret (results30 rfl _ _ w.heap.size 30 _ HL.out rfl hb5) rfl ⟨rfl, HEN3.out.grown hg5 (fun e => by injection e with e; omega), ?_⟩
  have f1 : Only (fun j => j = g) w W0 := .of_below HB0.out (fun k hk _ => hk)
  have f2 := f1.then HO1.out (fun i _ e => e)
  have f3 := f2.then HO2.out (fun i hi e => by rcases e with e | e | e <;> first | omega | (cases e))
  have f4 := f3.then (Only.of_grown (X := fun j => j = g) HG3.out (fun j e => by injection e with e; exact e.symm)) (fun i _ e => e)
  have f5 := f4.then (Only.of_grown (X := fun j => j = w.heap.size) hg5 (fun j e => by injection e with e; exact e.symm)) (fun i hi e => by omega)
  exact ⟨f5.os, f5.tape, f5.output, f5.size, fun i hi hne => f5.block i hi (fun e => hne (by rw [e]))⟩
end Go.Proofs.Ytepcbnkhfiphdaa
