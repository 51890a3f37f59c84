/- Where an operator is exact by words of 16 bits, it is so by longer ones, and the word is the same. No condition on the input. -/
import Derived.Test.YthllfmbdapdogaaWordEx
import Derived.Test.YthllfmbdapdogaaPWordx14
namespace Go.Proofs.Ythllfmbdapdogaa.Pure
open Go.RowKit Go.Proofs.Ythllfmbdapdogaa.PWord Go.Proofs.YthllfmbdapdogaaW.PrintWords Go.Proofs.YthllfmbdapdogaaW.PrintLast
set_option linter.unusedVariables false
set_option linter.unusedSimpArgs false

theorem s24 : Sz 24 16777216 := .inr (.inl ⟨rfl, rfl⟩)
theorem s32 : Sz 32 4294967296 := .inr (.inr ⟨rfl, rfl⟩)
theorem s16 : Sz 16 65536 := .inl ⟨rfl, rfl⟩
theorem wider {b p : Int} (h : Sz b p) {op a c v : Int} (h1 : 1 ≤ op) (h2 : op ≤ 19) (ha : S a) (hc : S c) (hap : ap 65536 16 op a c = some (v, 0)) (he : Ex op a c v) :
    word_Exact.f op a c b = some (true, 0) ∧ word_Apply.f op a c b = some (v, 0) := by
  have hn := ap_exact s16 h h1 h2 ha hc hap he
  have hn2 : ap p b op (nm p a) (nm p c) = some (v, 0) := by rw [nm_S h ha, nm_S h hc, hn]
  refine ⟨?_, ?_⟩
  · rw [word_ex h op a c v h1 h2 hn2, nm_S h ha, nm_S h hc, decide_eq_true he]
  · rw [apply_val h, if_neg (by omega), if_neg (by omega), hn2]
set_option maxRecDepth 20000 in
theorem WordNarrow : bluebelllaw01_WordNarrow.Pure := by
  intro op a c _ _ _
  refine ⟨130, ?_⟩
  unfold bluebelllaw01_WordNarrow.f
  have aw : ∀ v, bluebelllaw01_WordNarrow.j0 130 op a c v true = some true := fun v => by
    simp [bluebelllaw01_WordNarrow.j0, awake_ge (show 60 ≤ 129 by omega)]
  rw [apply_val s16]
  by_cases o1 : op < 1
  · have : word_Apply.f op a c 16 = some (0, 1) := by rw [apply_val s16, if_pos o1]
    rw [if_pos o1, word_ex_err this (by omega)]
    simp [aw]
  rw [if_neg o1]
  by_cases o2 : 19 < op
  · have : word_Apply.f op a c 16 = some (0, 1) := by rw [apply_val s16, if_neg o1, if_pos o2]
    rw [if_pos o2, word_ex_err this (by omega)]
    simp [aw]
  rw [if_neg o2]
  obtain ⟨⟨v, e⟩, hr⟩ := ap_some 65536 16 op (nm 65536 a) (nm 65536 c) (by omega) (by omega)
  have hA : word_Apply.f op a c 16 = some (v, e) := by rw [apply_val s16, if_neg o1, if_neg o2, hr]
  rw [hr]
  by_cases he : e = 0
  rotate_left
  · rw [word_ex_err hA he]
    simp [he, aw]
  subst he
  rw [word_ex s16 op a c v (by omega) (by omega) hr]
  by_cases hE : Ex op (nm 65536 a) (nm 65536 c) v
  rotate_left
  · simp [hE, aw]
  by_cases a1 : a < -32768
  · simp [hE, a1, aw]
  by_cases a2 : a > 32767
  · simp [hE, a1, a2, aw]
  by_cases c1 : c < -32768
  · simp [hE, a1, a2, c1, aw]
  by_cases c2 : c > 32767
  · simp [hE, a1, a2, c1, c2, aw]
  have ha : S a := by unfold S; omega
  have hc : S c := by unfold S; omega
  rw [decide_eq_true hE]
  rw [nm_S s16 ha, nm_S s16 hc] at hE hr
  obtain ⟨w1, w2⟩ := wider s24 (by omega) (by omega) ha hc hr hE
  obtain ⟨w3, w4⟩ := wider s32 (by omega) (by omega) ha hc hr hE
  simp only [Option.bind_some, if_true, if_neg a1, if_neg a2, if_neg c1, show decide (c > 32767) = false from decide_eq_false c2]
  simp only [bluebelllaw01_WordNarrow.j0, Bool.false_eq_true, if_false]
  simp only [bluebelllaw01_WordNarrow.l0]
  rw [if_pos (by omega), w1, w2]
  simp only [Option.bind_some, if_true]
  rw [show wrap64 (24 + 8) = 32 from by decide +kernel, if_pos (by omega), w3, w4]
  simp only [Option.bind_some, if_true]
  rw [show wrap64 (32 + 8) = 40 from by decide +kernel, if_neg (by omega), awake_ge (by omega)]
  rfl

end Go.Proofs.Ythllfmbdapdogaa.Pure
