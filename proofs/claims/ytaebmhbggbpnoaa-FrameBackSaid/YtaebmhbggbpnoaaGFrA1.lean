/- The walk of alive (hayloftlaw07). Conditions: each theorem's premises. -/
import Derived.Test.YtaebmhbggbpnoaaGFrS1
import Derived.Test.YtaebmhbggbpnoaaGFrLaw
import Derived.Lib.SlBytesConst
import Derived.Laws.IdiomStrings
namespace Go.Proofs.Ytaebmhbggbpnoaa
open Go.RowKit
theorem numE1 : numE 1 = [1] := by
  rw [numE_pos (by decide), show 1 / 256 = 0 from rfl, numE_zero]
  rfl
theorem alive_len : (frE 1 noName [120]).length = 50 := by rw [frE_len, recE_len noName_len, numE1]; rfl
set_option maxRecDepth 100000 in
set_option maxHeartbeats 2000000 in
theorem falive_any (w : World) : Calls Try.prog 65 #[] w fun e w' => e = .returned (.bool true) ∧ Below w.heap.size w w' := by
  have kc := fun (w : World) (C : Array Value) (n c : Nat) => Lib.run_convert_bytes_const (P := Try.prog) w 22 5 C n c Try.underlying22 Try.underlying5
  obtain ⟨g, hg⟩ : ∃ g, g = w.heap.size := ⟨_, rfl⟩
  have HN := new_any w
  rw [← hg] at HN
  have HNH := Lib.hid HN
  have HG := Lib.hid (Nat.le_of_eq hg.symm)
  clear HN hg
  go_enter Try.func65, Try.ntmps65
  go_wp2_with fail
  refine (HNH.out).mono ?_
  rintro e w1 ⟨rfl, htb, hb1⟩
  have O1 := Lib.hid (On.mk (d := 0) (hb1.mono HG.out) (.inr ⟨_, htb⟩) HG.out)
  clear htb hb1
  go_wp2_with fail
  refine (ftake_any w1 g 0 (fun _ => False) none 0 0 [] O1.out.tab (by omega) (Bs.nil _ _ _) (fun _ h => h.elim) (by omega)).mono ?_
  intro e w2 he
  obtain ⟨k9, nm9, b9, m9, f9, rfl, hn9, ho9, hres, d2, ht2, hd2, hd2', hG2⟩ := he.one
  rw [frT_nil] at hres hd2'
  obtain ⟨rfl, rfl, rfl, rfl, rfl⟩ := hres
  simp only [frN] at hd2'
  have O2 := Lib.hid (O1.out.step ht2 hG2)
  clear ht2 hG2 he ho9 hn9
  go_wp2_with (first | (refine wl_storeK rfl (.tmp 2) (.tmp 17) 109 rfl (.inl rfl) rfl rfl (Blk.new _ _ _) rfl noName_len rfl ?_; intro w3 hb3 hf3 hk3))
  have O3 := Lib.hid (O2.out.below (((Below.refl _ w2).alloc (Nat.le_refl _) _).trans (hf3 _ (Nat.le_refl _))))
  clear hb3 hf3 hk3
  refine (fscan_any w3 g d2 (fun _ => False) none 0 0 [] O3.out.tab (by omega) (Bs.nil _ _ _) (fun _ h => h.elim) (by omega)).mono ?_
  rintro e w4 ⟨A4, c4, rfl, -, hG4, d4, ht4, hd4, hd4'⟩
  have O4 := Lib.hid (O3.out.step ht4 hG4)
  have eT : turnsF (([] : List UInt8).length + 1) [] 0 = [] := rfl
  have e1 : ((endOf (goods []) : Nat) : Int) = 0 := rfl
  have e2 : (goods []).length = 0 := rfl
  have e3 : faultOf [] = 0 := rfl
  rw [eT, e1, e2, e3]
  clear ht4 hG4 eT e1 e2 e3
  have hbx := Lib.hid (bs_lit w4 #[.int .u8 120] 5 (1, 2) 1 [120] rfl rfl)
  have O5 : Hid (∀ o, On w (w4.alloc o) g d4) := Lib.hid fun o => O4.out.below ((Below.refl _ _).alloc (Nat.le_refl _) _)
  go_wp2_with (first | (refine wl_build rfl 109 _ rfl (cs := RC 1 noName (.slice (some ⟨w4.heap.size, 0, none⟩) 1 1)) (by simp only [List.map_toArray, List.map_cons, List.map_nil]; exact built109s 1 _ 1 1) ?_))
  refine (fput_yes _ g d4 AnyB 1 noName (some ⟨w4.heap.size, 0, none⟩) 1 1 [120] (O5.out _).tab (by omega) noName_len (by omega) (by omega) hbx.out (by omega)).mono ?_
  rintro e w6 ⟨A6, c6, d6, rfl, hown6, ht6, hd6, hd6', hG6⟩
  have O6 := Lib.hid ((O5.out _).step ht6 hG6)
  have hcap : (frE 1 noName [120]).length ≤ c6 := by
    obtain ⟨_, _, he, hc⟩ := own_shape hown6
    cases he
    exact hc
  have HX6 := Lib.hid (Bs.mk (S := fun j => (w4.alloc (.cells #[.int .u8 120] 5 (1, 2))).heap.size ≤ j) rfl hcap (Reads.of_own hown6))
  have HFT : Hid (frT (frE 1 noName [120]) = .good 1 noName [120] 50) := Lib.hid (by
    have h := frT_put (k := 1) (nm := noName) (bs := [120]) (rest := []) (by omega) (by omega) noName_len (by simp)
    rw [List.append_nil, alive_len] at h
    exact h)
  have hg4 : g < (w4.alloc (.cells #[.int .u8 120] 5 (1, 2))).heap.size := tbl_lt (O5.out _).tab
  rw [alive_len] at HX6 hcap ⊢
  clear ht6 hG6 hown6
  go_wp2_with fail
  refine (ftake_any w6 g d6 _ A6 50 c6 _ O6.out.tab (by omega) HX6.out (fun k hk _ => by omega) (by omega)).mono ?_
  intro e w7 he
  obtain ⟨⟨d7, ht7, hd7, hd7', hG7⟩, he2⟩ := he
  rw [HFT.out] at he2
  obtain ⟨A7, c7, rfl, hx7⟩ := he2
  have O7 := Lib.hid (O6.out.step ht7 hG7)
  obtain ⟨ad, b0, rfl, hb0, hcl⟩ := hx7.at_ (k := 0) (by simp)
  have hb0' : b0 = 120 := by
    have h := hb0.out
    simp at h
    exact h.symm
  subst hb0'
  have HCL := Lib.hid hcl
  clear ht7 hG7 hx7 hb0 hcl
  go_wp2_with (first | (refine wl_storeK rfl (.tmp 10) (.tmp 38) 109 rfl (.inl rfl) rfl rfl (Blk.new _ _ _) rfl noName_len rfl ?_; intro w8 hb8 hf8 hk8; go_must ((obtain ⟨hcell8, hcv⟩ : w8.cell? ⟨w7.heap.size, 33, none⟩ = some (.slice (some ad) 1 c7) ∧ (convert 22 9 (.slice (some ad) 1 c7)).run Try.prog w8 = .ok (.string ⟨#[120]⟩) w8 := (by
    refine ⟨(hb8.cell 33).trans (RC.at33 noName_len), ?_⟩
    have h78 : Below w7.heap.size w7 w8 := ((Below.refl _ w7).alloc (Nat.le_refl _) _).trans (hf8 _ (Nat.le_refl _))
    refine run_convert_bytes_back w8 22 9 5 ad c7 [120] Try.underlying22 Try.underlying5 Try.underlying9 (fun j hj => ?_)
    obtain rfl : j = 0 := by simp at hj; exact hj
    exact (h78.cell (World.block_lt_of_cell? _ _ HCL.out)).trans HCL.out)))))
  have O8 := O7.out.below (((Below.refl _ w7).alloc (Nat.le_refl _) _).trans (hf8 _ (Nat.le_refl _)))
  go_ret
  exact ⟨rfl, O8.bel⟩
end Go.Proofs.Ytaebmhbggbpnoaa
