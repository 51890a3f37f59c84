/- Any byte of words, and the words with it changed, or the error, are what the reference gives (at most 300 words). No condition on the input. -/
import Derived.Test.YthllfmbdapdogaaWordPut
import Derived.OpenShut
namespace Go.Proofs.Ythllfmbdapdogaa.Pure
open Go.RowKit Go.Proofs.Ythllfmbdapdogaa.PWord Go.Proofs.YthllfmbdapdogaaW.PrintWords Go.Proofs.YthllfmbdapdogaaW.PrintLast
set_option linter.unusedVariables false
set_option linter.unusedSimpArgs false

theorem i64_lt {i : Int} (h : (Lit.int .i64 i).wf = true) : i < 9223372036854775808 := by
  have := Go.bounds_i64 h
  omega
theorem WordBytes : bluebelllaw01_WordBytes.Pure := by
  intro L i v b big _ _ _ hi _ _
  have hi2 := i64_lt hi
  refine ⟨500, ?_⟩
  unfold bluebelllaw01_WordBytes.f
  by_cases hL : (L.length : Int) > 300
  · rw [if_pos hL]
  rw [if_neg hL]
  have ha := awake_ge (show 60 ≤ 500 by omega)
  rcases sz_or b with ⟨p, h⟩ | hbad
  · obtain ⟨n, hn⟩ := h.sn
    rw [get_word hn big L i hi2, get_ref hn big L i hi2 (by omega), put_word hn big L i v hi2 (by omega) (by omega), put_ref hn big L i v hi2 (by omega) (by omega)]
    simp only [Option.bind_some, if_true]
    have e : ∀ l : List Int, l.length ≤ 300 → bluebellref00_EqInts.f 500 l l = some true := fun l hl => eq_self l (by omega) (by omega)
    rw [e]
    · simp [ha]
    · split
      · simp
      · split
        · simp
        · rw [putL_length]; omega
  · obtain ⟨v1, v2⟩ := valid_bad hbad big
    have e : bluebellref00_EqInts.f 500 [] [] = some true := eq_self [] (by simp) (by simp)
    unfold word_GetByte.f bluebellref01_GetByte.f word_PutByte.f bluebellref01_PutByte.f
    rw [v1, v2]
    simp [e, ha]

end Go.Proofs.Ythllfmbdapdogaa.Pure
