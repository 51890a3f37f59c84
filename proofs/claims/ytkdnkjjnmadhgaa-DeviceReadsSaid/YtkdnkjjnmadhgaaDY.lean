import Derived.Test.YtkdnkjjnmadhgaaDK
/-! Rows of replies that are sorted, as lists. -/
namespace Go.Proofs.Ytkdnkjjnmadhgaa.Dev
open Go.RowKit Go.Maps Go.Lib Go.Shelf Go.Sort

theorem mg_list {rs : List Rp} {dk : Array Rp} (h : Mg (ltOf cmpR) 0 dk.size rs.toArray dk) : dk.toList.Perm rs ∧ dk.toList.Pairwise (fun x y => ¬ RLt y x) := by
  obtain ⟨hp, hs⟩ := h
  have hsz : dk.size = rs.length := by have := hp.1; simpa using this
  constructor
  · have h1 := hp.2.2
    have h2 : (dk.toList.take rs.length).Perm rs := by simpa [hsz] using h1
    rwa [List.take_of_length_le (by simp [hsz])] at h2
  · rw [List.pairwise_iff_getElem]
    intro i j hi hj hij
    have h1 := hs i j (Nat.zero_le _) hij (by simpa using hj)
    rw [nltR] at h1
    have e : ∀ k (hk : k < dk.toList.length), dk[k]! = dk.toList[k] := fun k hk => by
      have : k < dk.size := by simpa using hk
      simp [this]
    rw [e i hi, e j hj] at h1
    exact h1
/-- The one list that is sorted. -/
theorem sorted_one : ∀ {l m : List Rp}, l.Perm m → l.Pairwise (fun x y => ¬ RLt y x) → m.Pairwise (fun x y => ¬ RLt y x) → (∀ x ∈ l, ∀ y ∈ l, ¬ RLt x y → ¬ RLt y x → x = y) → l = m
  | [], m, hp, _, _, _ => (List.Perm.nil_eq hp)
  | x :: l, [], hp, _, _, _ => by simp at hp
  | x :: l, y :: m, hp, hl, hm, hu => by
    have hxy : x = y := by
      by_cases e : x = y
      · exact e
      have hy : y ∈ l := by
        have : y ∈ x :: l := hp.mem_iff.2 (by simp)
        rcases List.mem_cons.1 this with h | h
        · exact absurd h.symm e
        · exact h
      have hx : x ∈ m := by
        have : x ∈ y :: m := hp.mem_iff.1 (by simp)
        rcases List.mem_cons.1 this with h | h
        · exact absurd h e
        · exact h
      have h1 := (List.pairwise_cons.1 hl).1 y hy
      have h2 := (List.pairwise_cons.1 hm).1 x hx
      exact hu x (by simp) y (by simp [hy]) h2 h1
    subst hxy
    rw [sorted_one ((List.perm_cons x).1 hp) (List.pairwise_cons.1 hl).2 (List.pairwise_cons.1 hm).2 fun a ha b hb => hu a (by simp [ha]) b (by simp [hb])]
end Go.Proofs.Ytkdnkjjnmadhgaa.Dev
