/- A text packed, words unpacked, words as bytes and bytes as words are what the reference gives. No condition on the input. -/
import Derived.Test.YthllfmbdapdogaaZPWordPackLaws
import Derived.Test.YthllfmbdapdogaaZPWordRef
import Derived.Test.YthllfmbdapdogaaZPPWordx23
import Derived.OpenShut
namespace Go.Proofs.Ythllfmbdapdogaa.Pure
open Go.RowKit Go.Proofs.Ythllfmbdapdogaa.PWord Go.Proofs.YthllfmbdapdogaaW.PrintWords Go.Proofs.YthllfmbdapdogaaW.PrintLast
set_option linter.unusedVariables false
set_option linter.unusedSimpArgs false

theorem pack_same (s : ByteArray) (b : Int) (big : Bool) {k : Nat} (hk : 1000 ≤ k) : ∃ r : List Int × Int, word_Pack.f k s b big = some r ∧ bluebellref01_Pack.f k s b big = some r ∧ r.1.length ≤ 3000 := by
  rcases sz_or b with ⟨p, h⟩ | hbad
  · obtain ⟨n, hn⟩ := h.sn
    obtain ⟨h1, h2, -, -⟩ := hn.n
    by_cases hs : s.size ≤ 255
    · refine ⟨_, pack_word hn big hs (by omega), pack_ref hn big hs hk, ?_⟩
      have hm := nw_mul s h1
      have hnw : nw s n ≤ nw s n * n := Nat.le_mul_of_pos_right _ (by omega)
      simp [wordsL]
      omega
    · refine ⟨([], 2), ?_, ?_, by simp⟩
      · unfold word_Pack.f
        rw [(valid_sz h big).1, Option.bind_some, if_pos rfl, if_neg hs]
      · unfold bluebellref01_Pack.f
        rw [(valid_sz h big).2, Option.bind_some, if_pos rfl, if_pos (by omega)]
  · obtain ⟨v1, v2⟩ := valid_bad hbad big
    refine ⟨([], 3), ?_, ?_, by simp⟩
    · unfold word_Pack.f
      rw [v1, Option.bind_some, if_neg (by decide)]
    · unfold bluebellref01_Pack.f
      rw [v2, Option.bind_some, if_neg (by decide)]
theorem unpack_same (L : List Int) (hL : L.length ≤ 300) (b : Int) (big : Bool) {k : Nat} (hk : 1000 ≤ k) : ∃ r : ByteArray × Int, word_Unpack.f k L b big = some r ∧ bluebellref01_Unpack.f k L b big = some r := by
  rcases sz_or b with ⟨p, h⟩ | hbad
  · obtain ⟨n, hn⟩ := h.sn
    exact ⟨_, unpack_word hn big L (by omega) (by omega), ref_unpack hn big L (by omega) (by omega)⟩
  · obtain ⟨v1, v2⟩ := valid_bad hbad big
    refine ⟨(⟨#[]⟩, 3), ?_, ?_⟩
    · unfold word_Unpack.f
      rw [v1, Option.bind_some, if_neg (by decide)]
    · unfold bluebellref01_Unpack.f
      rw [v2, Option.bind_some, if_neg (by decide)]
theorem bytes_same (L : List Int) (hL : L.length ≤ 300) (b : Int) (big : Bool) {k : Nat} (hk : 3000 ≤ k) : ∃ r : List Int × Int, word_Bytes.f k L b big = some r ∧ bluebellref01_Bytes.f k L b big = some r ∧ r.1.length ≤ 1200 := by
  rcases sz_or b with ⟨p, h⟩ | hbad
  · obtain ⟨n, hn⟩ := h.sn
    obtain ⟨h1, h2, -, -⟩ := hn.n
    refine ⟨_, bytes_word hn big L (by omega) (by omega), ref_bytes hn big L (by omega) (by omega), ?_⟩
    have : L.length * n ≤ 300 * 4 := Nat.mul_le_mul hL h2
    show (bytesL n big L).length ≤ 1200
    rw [bytesL_length]
    exact this
  · obtain ⟨v1, v2⟩ := valid_bad hbad big
    refine ⟨([], 3), ?_, ?_, by simp⟩
    · unfold word_Bytes.f
      rw [v1, Option.bind_some, if_neg (by decide)]
    · unfold bluebellref01_Bytes.f
      rw [v2, Option.bind_some, if_neg (by decide)]
theorem words_same (B : List Int) (hB : ∀ x ∈ B, 0 ≤ x ∧ x ≤ 255) (hL : B.length ≤ 600) (b : Int) (big : Bool) {k : Nat} (hk : 4000 ≤ k) : ∃ r : List Int × Int, word_Words.f k B b big = some r ∧ bluebellref01_Words.f k B b big = some r ∧ r.1.length ≤ 600 := by
  rcases sz_or b with ⟨p, h⟩ | hbad
  · obtain ⟨n, hn⟩ := h.sn
    refine ⟨_, words_word hn big B hB (by omega) (by omega), ref_words hn big B hB (by omega) (by omega), ?_⟩
    split
    · have := Nat.div_le_self B.length n
      simp [wordsL]
      omega
    · simp
  · obtain ⟨v1, v2⟩ := valid_bad hbad big
    refine ⟨([], 3), ?_, ?_, by simp⟩
    · obtain ⟨k, rfl⟩ : ∃ m, k = m + 1 := ⟨k - 1, by omega⟩
      unfold word_Words.f
      rw [v1, Option.bind_some, if_neg (by decide)]
      simp [word_Words.j0]
    · obtain ⟨k, rfl⟩ : ∃ m, k = m + 1 := ⟨k - 1, by omega⟩
      unfold bluebellref01_Words.f
      rw [v2, Option.bind_some, if_neg (by decide)]
      simp [bluebellref01_Words.j0]
theorem WordPacks : bluebelllaw01_WordPacks.Pure := by
  intro s L b big _ _ _ _ _
  refine ⟨5000, ?_⟩
  unfold bluebelllaw01_WordPacks.f
  by_cases hs : (s.size : Int) > 600
  · rw [if_pos hs]; rfl
  rw [if_neg hs]
  by_cases hL : (L.length : Int) > 300
  · rw [decide_eq_true hL]; rfl
  rw [decide_eq_false hL]
  have hbl := bytesOf_length s
  obtain ⟨r1, a1, a2, a3⟩ := pack_same s b big (k := 4999) (by omega)
  obtain ⟨r2, b1, b2⟩ := unpack_same L (by omega) b big (k := 4998) (by omega)
  obtain ⟨r3, c1, c2, c3⟩ := bytes_same L (by omega) b big (k := 4998) (by omega)
  obtain ⟨r4, d1, d2, d3⟩ := words_same (bytesOf s) (bytesOf_byte s) (by omega) b big (k := 4997) (by omega)
  have e1 : bluebellref00_EqInts.f 4999 r1.1 r1.1 = some true := eq_self _ (by omega) (by omega)
  have e3 : bluebellref00_EqBytes.f 4998 r3.1 r3.1 = some true := eqb_self _ (by omega) (by omega)
  have e4 : bluebellref00_EqInts.f 4997 r4.1 r4.1 = some true := eq_self _ (by omega) (by omega)
  have hw : bluebelllaw01_awake.f 4997 = some true := awake_ge (by omega)
  have hc : conv_bytes.f s = some (bytesOf s) := by
    unfold conv_bytes.f
    rw [if_pos (by omega)]
  simp only [show (5000 : Nat) = 4999 + 1 from rfl, bluebelllaw01_WordPacks.j0]
  rw [if_neg (by decide), a1, Option.bind_some, a2, Option.bind_some, if_pos rfl, e1, Option.bind_some]
  simp only [show (4999 : Nat) = 4998 + 1 from rfl, bluebelllaw01_WordPacks.j1]
  rw [if_neg (by decide), b1, Option.bind_some, b2, Option.bind_some, c1, Option.bind_some, c2, Option.bind_some, if_pos rfl, if_pos rfl, if_pos rfl, e3, Option.bind_some]
  simp only [show (4998 : Nat) = 4997 + 1 from rfl, bluebelllaw01_WordPacks.j2]
  rw [if_neg (by decide), hc, Option.bind_some, d1, Option.bind_some, Option.bind_some, d2, Option.bind_some, if_pos rfl, e4, Option.bind_some, if_pos rfl, hw, Option.bind_some]

end Go.Proofs.Ythllfmbdapdogaa.Pure
