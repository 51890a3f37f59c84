/- A text packed into words comes back from them, whatever words follow; words through bytes come back as their values; a byte put is the byte got. No condition on the input. -/
import Derived.Test.YthllfmbdapdogaaZKWordBackLaws
import Derived.Test.YthllfmbdapdogaaZKWordRef
import Derived.Test.YthllfmbdapdogaaZKPWordx22
import Derived.OpenShut
namespace Go.Proofs.Ythllfmbdapdogaa.Pure
open Go.RowKit Go.Proofs.Ythllfmbdapdogaa.PWord Go.Proofs.YthllfmbdapdogaaW.PrintWords Go.Proofs.YthllfmbdapdogaaW.PrintLast
set_option linter.unusedVariables false
set_option linter.unusedSimpArgs false

theorem i64_lt {i : Int} (h : (Lit.int .i64 i).wf = true) : i < 9223372036854775808 := by
  have := Go.bounds_i64 h
  omega
theorem l1_same {b p : Int} {n : Nat} (h : Sn b p n) (big : Bool) (L : List Int) (hL : L.length ≤ 100) (I : Nat) (v : Int) : ∀ (d k j : Nat), j + d = L.length * n → d + 60 < k →
    bluebelllaw01_WordBack.l1 k (I : Int) v (bytesL n big L) (putL p n big L I v) (j : Int) b big = some true := by
  obtain ⟨h1, h2, h3, h4⟩ := h.n
  have hlen := bytesL_length n big L
  have hmax : L.length * n ≤ 100 * 4 := Nat.mul_le_mul hL h2
  intro d
  induction d with
  | zero =>
    intro k j hj hk
    obtain ⟨k, rfl⟩ : ∃ q, k = q + 1 := ⟨k - 1, by omega⟩
    simp only [bluebelllaw01_WordBack.l1]
    rw [if_neg (by omega), awake_ge (by omega)]
    rfl
  | succ d ih =>
    intro k j hj hk
    obtain ⟨k, rfl⟩ : ∃ q, k = q + 1 := ⟨k - 1, by omega⟩
    have hjl : j < L.length * n := by omega
    have hq : ¬ L.length ≤ j / n := by
      have : j / n < L.length := Nat.div_lt_of_lt_mul (by rw [Nat.mul_comm]; exact hjl)
      omega
    simp only [bluebelllaw01_WordBack.l1]
    rw [if_pos (by omega), get_word h big _ _ (by omega), if_neg (by omega), Int.toNat_natCast, putL_length, if_neg hq, getv_putL h big L I v j hjl]
    simp only [Option.bind_some]
    rw [rd_bytesL (by omega) big L j hjl, and_255, w_next (by omega)]
    have hg := get_range n big L j
    have := ih k (j + 1) (by omega) (by omega)
    rw [if_pos (Int.natCast_nonneg _), this]
    clear h4 this
    rw [w_id hg.1 (by omega)]
    by_cases c : j = I
    · subst c
      simp
    · rw [if_neg (show ¬ ((j : Int) = (I : Int)) by omega), if_neg c]
      simp
theorem l0_same {b p : Int} {n : Nat} (h : Sn b p n) (big : Bool) (L : List Int) (hL : L.length ≤ 100) (i v : Int) (hi : i < 9223372036854775808) : ∀ (d k j : Nat), j + d = L.length → d + 1000 < k →
    bluebelllaw01_WordBack.l0 k L i v (bytesL n big L) (L.map (nm p)) (j : Int) b big = some true := by
  obtain ⟨h1, h2, h3, h4⟩ := h.n
  have hmax : L.length * n ≤ 100 * 4 := Nat.mul_le_mul hL h2
  intro d
  induction d with
  | zero =>
    intro k j hj hk
    obtain ⟨k, rfl⟩ : ∃ q, k = q + 1 := ⟨k - 1, by omega⟩
    simp only [bluebelllaw01_WordBack.l0]
    rw [if_neg (by rw [List.length_map]; omega), put_word h big L i v hi (by omega) (by omega)]
    by_cases c : i < 0
    · rw [if_pos c]
      simp [awake_ge (show 60 ≤ k by omega)]
    rw [if_neg c]
    by_cases c2 : L.length ≤ i.toNat / n
    · rw [if_pos c2]
      simp [awake_ge (show 60 ≤ k by omega)]
    rw [if_neg c2]
    simp only [Option.bind_some, if_true]
    have e : i = (i.toNat : Int) := by omega
    have := l1_same h big L hL i.toNat v (L.length * n) k 0 (by omega) (by omega)
    rw [← e] at this
    exact this
  | succ d ih =>
    intro k j hj hk
    obtain ⟨k, rfl⟩ : ∃ q, k = q + 1 := ⟨k - 1, by omega⟩
    have hlt : j < L.length := by omega
    simp only [bluebelllaw01_WordBack.l0, bluebellref01_Word.f]
    rw [if_pos (by rw [List.length_map]; omega), if_pos (by omega), if_pos (by omega), norm_ge h.sz (by omega), w_next (by omega)]
    simp only [Option.bind_some]
    rw [rd_getElem (L := L.map (nm p)) (by rw [List.length_map]; exact hlt), rd_getElem hlt, List.getElem_map, if_pos rfl]
    exact ih k (j + 1) (by omega) (by omega)
theorem WordBack : bluebelllaw01_WordBack.Pure := by
  intro s L i v b big _ _ _ _ hi _ _
  have hi2 := i64_lt hi
  refine ⟨3000, ?_⟩
  unfold bluebelllaw01_WordBack.f
  rcases sz_or b with ⟨p, h⟩ | hbad
  · obtain ⟨n, hn⟩ := h.sn
    rw [(valid_sz h big).2]
    simp only [Option.bind_some, if_true]
    by_cases hs : (s.size : Int) > 255
    · rw [if_pos hs]; rfl
    rw [if_neg hs]
    by_cases hL : (L.length : Int) > 100
    · rw [decide_eq_true hL]; rfl
    rw [decide_eq_false hL]
    obtain ⟨h1, h2, -, -⟩ := hn.n
    have hm := nw_mul s h1
    have hle := nw_le s h1
    have hmax : L.length * n ≤ 100 * 4 := Nat.mul_le_mul (by omega) h2
    have hnw : nw s n ≤ nw s n * n := Nat.le_mul_of_pos_right _ (by omega)
    have hwl : (wordsL p n big (word_Pack.row s n) (nw s n)).length = nw s n := by simp [wordsL]
    have hbl := bytesL_length n big L
    have hlt : (wordsL p n big (word_Pack.row s n) (nw s n)).length + L.length < 17592186044416 := by rw [hwl]; omega
    have hz0 : 0 + (wordsL p n big (word_Pack.row s n) (nw s n)).length < 17592186044416 := by rw [hwl]; omega
    have hcnt2 : decide ((nw s n : Int) > ((s.size / 2 + 1 : Nat) : Int)) = false := decide_eq_false (by omega)
    have hun : (wordsL p n big (word_Pack.row s n) (nw s n) ++ L).length ≤ 1000000 := by rw [List.length_append, hwl]; omega
    have hcnt : wrap64 (wrap64 ((s.size : Int) / 2) + 1) = ((s.size / 2 + 1 : Nat) : Int) := by
      rw [w_id (x := (s.size : Int) / 2) (by omega) (by omega), w_id (by omega) (by omega)]
      omega
    simp only [show (3000 : Nat) = 2999 + 1 from rfl, bluebelllaw01_WordBack.j0]
    rw [if_neg (by decide), pack_word hn big (by omega) (by omega)]
    simp only [Option.bind_some, bluebellref00_CopyInts.f, List.nil_append, List.length_nil, if_true]
    rw [if_pos hz0]
    simp only [Option.bind_some]
    rw [if_pos hlt, unpack_word hn big _ hun (by decide), pack_back hn big (by omega)]
    simp only [Option.bind_some, if_true]
    rw [hwl, hcnt, hcnt2]
    simp only [show (2999 : Nat) = 2998 + 1 from rfl, bluebelllaw01_WordBack.j1]
    rw [if_neg (by decide), bytes_word hn big L (by omega) (by omega)]
    simp only [Option.bind_some]
    rw [words_word hn big _ (bytesL_byte n big L) (by omega) (by omega), hbl, Nat.mul_mod_left, if_pos rfl, Nat.mul_div_cancel _ (by omega), words_back hn big L]
    simp only [Option.bind_some, if_true, List.length_map, bne_self_eq_false, show (2998 : Nat) = 2997 + 1 from rfl, bluebelllaw01_WordBack.j2, Bool.false_eq_true, if_false]
    exact l0_same hn big L (by omega) i v hi2 L.length 2997 0 (by omega) (by omega)
  · rw [(valid_bad hbad big).2]
    rfl

end Go.Proofs.Ythllfmbdapdogaa.Pure
