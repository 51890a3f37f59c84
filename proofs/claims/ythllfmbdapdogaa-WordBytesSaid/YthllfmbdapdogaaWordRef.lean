/- Plain laws: the reference's Apply by the same formula; the program is awake. -/
import Derived.Test.YthllfmbdapdogaaWordVals
import Derived.Test.YthllfmbdapdogaaPWordx8
namespace Go.Proofs.Ythllfmbdapdogaa.PWord
open Go.RowKit Go.Proofs.YthllfmbdapdogaaW.PrintWords Go.Proofs.YthllfmbdapdogaaW.PrintLast Go.Proofs.YthllfmbdapdogaaW.PrintMore
set_option linter.unusedVariables false
set_option linter.unusedSimpArgs false

theorem awake_60 : bluebelllaw01_awake.f 60 = some true := by decide +kernel
theorem awake_ge {k : Nat} (hk : 60 ≤ k) : bluebelllaw01_awake.f k = some true := at_rounds (fun k => bluebelllaw01_awake.mono k) hk awake_60
theorem bit0 : Bit 0 := .inl rfl
theorem bit1 : Bit 1 := .inr rfl
theorem ref_val {b p : Int} (h : Sz b p) (op a c : Int) {k : Nat} (hk : 110 ≤ k) : bluebellref01_Apply.f k op a c b = if op < 1 then some (0, 1) else if 19 < op then some (0, 1) else ap p b op (nm p a) (nm p c) := by
  obtain ⟨k, rfl⟩ : ∃ m, k = m + 2 := ⟨k - 2, by omega⟩
  unfold bluebellref01_Apply.f
  rw [bits_sz h]
  simp only [Option.bind_some, if_true]
  by_cases o1 : op < 1
  · rw [if_pos o1, if_pos o1]; simp [bluebellref01_Apply.j0]
  rw [if_neg o1, if_neg o1]
  by_cases o2 : 19 < op
  · rw [if_pos o2, show decide (op > 19) = true from decide_eq_true o2]; simp [bluebellref01_Apply.j0]
  rw [if_neg o2, show decide (op > 19) = false from decide_eq_false o2]
  simp only [bluebellref01_Apply.j0]
  rw [if_neg (by decide), norm_ge h (by omega), norm_ge h (by omega)]
  simp only [Option.bind_some]
  have ra := nm_small h a
  have hops : op = 1 ∨ op = 2 ∨ op = 3 ∨ op = 4 ∨ op = 5 ∨ op = 6 ∨ op = 7 ∨ op = 8 ∨ op = 9 ∨ op = 10 ∨ op = 11 ∨ op = 12 ∨ op = 13 ∨ op = 14 ∨ op = 15 ∨ op = 16 ∨ op = 17 ∨ op = 18 ∨ op = 19 := by omega
  rcases hops with rfl | rfl | rfl | rfl | rfl | rfl | rfl | rfl | rfl | rfl | rfl | rfl | rfl | rfl | rfl | rfl | rfl | rfl | rfl
  · simp [bluebellref01_Apply.j1, bluebellref01_whole.f, ap, norm_ge h (show 40 ≤ k by omega), nm_wrap h]
  · by_cases y0 : nm p c = 0
    · simp [bluebellref01_Apply.j1, ap, y0]
    · simp [bluebellref01_Apply.j1, bluebellref01_whole.f, ap, norm_ge h (show 40 ≤ k by omega), nm_wrap h, y0]
  · by_cases y0 : nm p c = 0
    · simp [bluebellref01_Apply.j1, ap, y0]
    · simp [bluebellref01_Apply.j1, bluebellref01_whole.f, ap, norm_ge h (show 40 ≤ k by omega), nm_wrap h, y0]
  · simp [bluebellref01_Apply.j1, bluebellref01_whole.f, ap, norm_ge h (show 40 ≤ k by omega), nm_wrap h]
  · simp [bluebellref01_Apply.j1, bluebellref01_whole.f, ap, norm_ge h (show 40 ≤ k by omega), nm_wrap h]
  · simp only [bluebellref01_Apply.j1, bluebellref01_whole.f, ap, shifted_ref h _ _ true (show 100 ≤ k by omega)]
    by_cases y0 : nm p c < 0
    · simp [y0]
    · by_cases y1 : b ≤ nm p c
      · simp [y0, y1]
      · simp [y0, y1]
  · simp only [bluebellref01_Apply.j1, bluebellref01_whole.f, ap, shifted_ref h _ _ false (show 100 ≤ k by omega)]
    by_cases y0 : nm p c < 0
    · simp [y0]
    · by_cases y1 : b ≤ nm p c
      · simp [y0, y1]
      · simp [y0, y1]
  · simp [bluebellref01_Apply.j1, bluebellref01_whole.f, ap, bitwise_ref h _ _ ⟨bit0, bit0, bit0, bit1⟩]
  · simp [bluebellref01_Apply.j1, bluebellref01_whole.f, ap, bitwise_ref h _ _ ⟨bit0, bit1, bit1, bit1⟩]
  · simp [bluebellref01_Apply.j1, bluebellref01_whole.f, ap, bitwise_ref h _ _ ⟨bit0, bit1, bit1, bit0⟩]
  · simp [bluebellref01_Apply.j1, bluebellref01_whole.f, ap, bitwise_ref h _ _ ⟨bit1, bit0, bit0, bit1⟩]
  · by_cases e : nm p a = nm p c <;> simp [bluebellref01_Apply.j1, bluebellref01_whole.f, ap, truth_ref, norm_ge h (show 40 ≤ k by omega), nm_zero h, nm_neg1 h, e]
  · by_cases e : nm p a = nm p c <;> simp [bluebellref01_Apply.j1, bluebellref01_whole.f, ap, truth_ref, norm_ge h (show 40 ≤ k by omega), nm_zero h, nm_neg1 h, e]
  · by_cases e : nm p a < nm p c <;> simp [bluebellref01_Apply.j1, bluebellref01_whole.f, ap, truth_ref, norm_ge h (show 40 ≤ k by omega), nm_zero h, nm_neg1 h, e]
  · by_cases e : nm p a ≤ nm p c <;> simp [bluebellref01_Apply.j1, bluebellref01_whole.f, ap, truth_ref, norm_ge h (show 40 ≤ k by omega), nm_zero h, nm_neg1 h, e]
  · by_cases e : nm p c < nm p a <;> simp [bluebellref01_Apply.j1, bluebellref01_whole.f, ap, truth_ref, norm_ge h (show 40 ≤ k by omega), nm_zero h, nm_neg1 h, e]
  · by_cases e : nm p c ≤ nm p a <;> simp [bluebellref01_Apply.j1, bluebellref01_whole.f, ap, truth_ref, norm_ge h (show 40 ≤ k by omega), nm_zero h, nm_neg1 h, e]
  · simp [bluebellref01_Apply.j1, bluebellref01_whole.f, ap, norm_ge h (show 40 ≤ k by omega), nm_wrap h]
  · have e : wrap64 (wrap64 (-nm p a) - 1) = -nm p a - 1 := by unfold wrap64; omega
    simp [bluebellref01_Apply.j1, bluebellref01_whole.f, ap, norm_ge h (show 40 ≤ k by omega), e]
theorem apply_val {b p : Int} (h : Sz b p) (op a c : Int) : word_Apply.f op a c b = if op < 1 then some (0, 1) else if 19 < op then some (0, 1) else ap p b op (nm p a) (nm p c) := by
  unfold word_Apply.f
  rw [sized_sz h]
  simp only [Option.bind_some, if_true, do_val h]
  by_cases o1 : op < 1
  · rw [if_pos o1, if_pos o1]
  rw [if_neg o1, if_neg o1]
  by_cases o2 : 19 < op
  · rw [if_pos o2, if_pos o2]
  rw [if_neg o2, if_neg o2]
  cases ap p b op (nm p a) (nm p c) <;> rfl
theorem ap_some (p b op x y : Int) (h1 : 1 ≤ op) (h2 : op ≤ 19) : ∃ r, ap p b op x y = some r := by
  have hops : op = 1 ∨ op = 2 ∨ op = 3 ∨ op = 4 ∨ op = 5 ∨ op = 6 ∨ op = 7 ∨ op = 8 ∨ op = 9 ∨ op = 10 ∨ op = 11 ∨ op = 12 ∨ op = 13 ∨ op = 14 ∨ op = 15 ∨ op = 16 ∨ op = 17 ∨ op = 18 ∨ op = 19 := by omega
  rcases hops with rfl | rfl | rfl | rfl | rfl | rfl | rfl | rfl | rfl | rfl | rfl | rfl | rfl | rfl | rfl | rfl | rfl | rfl | rfl
  all_goals (simp only [ap, Int.reduceEq, if_false, if_true, reduceIte]; repeat' split)
  all_goals exact ⟨_, rfl⟩
theorem apply_bad {b : Int} (h : word_sized.f b = some false) (op a c : Int) : word_Apply.f op a c b = some (0, 3) := by
  unfold word_Apply.f; rw [h]; rfl
theorem ref_bad {b : Int} (h : bluebellref01_Bits.f b = some false) (op a c : Int) (k : Nat) : bluebellref01_Apply.f k op a c b = some (0, 3) := by
  unfold bluebellref01_Apply.f; rw [h]; rfl
theorem apply_same (op a c b : Int) {k : Nat} (hk : 110 ≤ k) : ∃ r, word_Apply.f op a c b = some r ∧ bluebellref01_Apply.f k op a c b = some r := by
  rcases sz_or b with ⟨p, h⟩ | ⟨h1, h2⟩
  · rw [apply_val h, ref_val h op a c hk]
    by_cases o1 : op < 1
    · rw [if_pos o1]; exact ⟨_, rfl, rfl⟩
    rw [if_neg o1]
    by_cases o2 : 19 < op
    · rw [if_pos o2]; exact ⟨_, rfl, rfl⟩
    rw [if_neg o2]
    obtain ⟨r, hr⟩ := ap_some p b op (nm p a) (nm p c) (by omega) (by omega)
    exact ⟨r, hr, hr⟩
  · exact ⟨_, apply_bad h1 op a c, ref_bad h2 op a c k⟩
end Go.Proofs.Ythllfmbdapdogaa.PWord
