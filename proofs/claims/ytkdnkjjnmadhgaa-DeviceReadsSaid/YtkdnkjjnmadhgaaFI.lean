import Derived.Test.YtkdnkjjnmadhgaaFH
/-! Replies in their order, in plain lists. -/
namespace Go.Proofs.Ytkdnkjjnmadhgaa.Dev
open Go.RowKit Go.Maps Go.Lib

section
variable {α β : Type} {R : α → β → Prop}
theorem All2.cons {x : α} {y : β} {l : List α} {m : List β} (hxy : R x y) (h : All2 R l m) : All2 R (x :: l) (y :: m) := by
  refine ⟨by simp [h.1], fun i a b ha hb => ?_⟩
  cases i with
  | zero => simp at ha hb; subst ha hb; exact hxy
  | succ i => exact h.2 i a b (by simpa using ha) (by simpa using hb)
theorem All2.uncons {x : α} {l : List α} {m : List β} (h : All2 R (x :: l) m) : ∃ y m', m = y :: m' ∧ R x y ∧ All2 R l m' := by
  cases m with
  | nil => have := h.1; simp at this
  | cons y m => exact ⟨y, m, rfl, h.2 0 x y rfl rfl, by have := h.1; simpa using this, fun i a b ha hb => h.2 (i + 1) a b (by simpa using ha) (by simpa using hb)⟩
theorem All2.append {l l' : List α} {m m' : List β} (h : All2 R l m) (h' : All2 R l' m') : All2 R (l ++ l') (m ++ m') := by
  refine ⟨by simp [h.1, h'.1], fun i a b ha hb => ?_⟩
  by_cases hi : i < l.length
  · rw [List.getElem?_append_left hi] at ha
    rw [List.getElem?_append_left (by rw [← h.1]; exact hi)] at hb
    exact h.2 i a b ha hb
  · rw [List.getElem?_append_right (by omega)] at ha
    rw [List.getElem?_append_right (by rw [← h.1]; omega), ← h.1] at hb
    exact h'.2 _ a b ha hb
theorem All2.perm {l l' : List α} (hp : l.Perm l') : ∀ {m : List β}, All2 R l m → ∃ m', All2 R l' m' ∧ m.Perm m' := by
  induction hp with
  | nil => intro m h; exact ⟨m, h, List.Perm.refl _⟩
  | cons x _ ih =>
    intro m h
    obtain ⟨y, m1, rfl, hxy, h1⟩ := h.uncons
    obtain ⟨m2, h2, hp2⟩ := ih h1
    exact ⟨y :: m2, h2.cons hxy, hp2.cons y⟩
  | swap x y l =>
    intro m h
    obtain ⟨a, m1, rfl, ha, h1⟩ := h.uncons
    obtain ⟨b, m2, rfl, hb, h2⟩ := h1.uncons
    exact ⟨b :: a :: m2, (h2.cons ha).cons hb, List.Perm.swap _ _ _⟩
  | trans _ _ ih1 ih2 =>
    intro m h
    obtain ⟨m1, h1, p1⟩ := ih1 h
    obtain ⟨m2, h2, p2⟩ := ih2 h1
    exact ⟨m2, h2, p1.trans p2⟩
end
/-- One reply comes ahead of another, or is it. -/
def ansLe (a b : Ans) : Bool := decide (a.2.1 < b.2.1 ∨ (a.2.1 = b.2.1 ∧ a.1.ord ≤ b.1.ord))
def sortA (l : List Ans) : List Ans := l.mergeSort ansLe
theorem sortA_perm (l : List Ans) : (sortA l).Perm l := List.mergeSort_perm l ansLe
theorem sortA_sorted (l : List Ans) : (sortA l).Pairwise (fun a b => ansLe a b = true) :=
  List.pairwise_mergeSort (fun a b c h1 h2 => by unfold ansLe at *; rw [decide_eq_true_iff] at *; omega) (fun a b => by unfold ansLe; by_cases h : a.2.1 < b.2.1 ∨ (a.2.1 = b.2.1 ∧ a.1.ord ≤ b.1.ord) <;> simp [h]; omega) l
/-- The one list that is sorted. -/
theorem ans_one : ∀ {l m : List Ans}, l.Perm m → l.Pairwise (fun a b => ansLe a b = true) → m.Pairwise (fun a b => ansLe a b = true) → (∀ a ∈ l, ∀ b ∈ l, a.1.ord = b.1.ord → a = b) → l = m
  | [], m, hp, _, _, _ => List.Perm.nil_eq hp
  | x :: l, [], hp, _, _, _ => by simp at hp
  | x :: l, y :: m, hp, hl, hm, hu => by
    have hxy : x = y := by
      by_cases e : x = y
      · exact e
      have hy : y ∈ l := by
        have : y ∈ x :: l := hp.mem_iff.2 (by simp)
        rcases List.mem_cons.1 this with h | h
        · exact absurd h.symm e
        · exact h
      have hx : x ∈ m := by
        have : x ∈ y :: m := hp.mem_iff.1 (by simp)
        rcases List.mem_cons.1 this with h | h
        · exact absurd h e
        · exact h
      have h1 := (List.pairwise_cons.1 hl).1 y hy
      have h2 := (List.pairwise_cons.1 hm).1 x hx
      unfold ansLe at h1 h2
      rw [decide_eq_true_iff] at h1 h2
      exact hu x (by simp) y (by simp [hy]) (by omega)
    subst hxy
    rw [ans_one ((List.perm_cons x).1 hp) (List.pairwise_cons.1 hl).2 (List.pairwise_cons.1 hm).2 fun a ha b hb => hu a (by simp [ha]) b (by simp [hb])]
/-- A sorted row of the bus stands for the sorted plain list. -/
theorem rep_sorted {B : Nat} {w : World} {rs rs0 : List Rp} {l : List Ans} (hp : rs.Perm rs0) (hs : rs.Pairwise (fun x y => ¬ RLt y x)) (ha : All2 (RepOf B w) rs0 l) (hu : ∀ a ∈ l, ∀ b ∈ l, a.1.ord = b.1.ord → a = b) : All2 (RepOf B w) rs (sortA l) := by
  obtain ⟨m, hm, pm⟩ := All2.perm hp.symm ha
  have hms : m.Pairwise (fun a b => ansLe a b = true) := by
    rw [List.pairwise_iff_getElem] at hs ⊢
    intro i j hi hj hij
    have hlen := hm.1
    have h1 := hs i j (by omega) (by omega) hij
    have hx := hm.2 i _ _ (List.getElem?_eq_getElem (by omega)) (List.getElem?_eq_getElem hi)
    have hy := hm.2 j _ _ (List.getElem?_eq_getElem (by omega)) (List.getElem?_eq_getElem hj)
    unfold ansLe
    rw [decide_eq_true_iff]
    unfold RLt at h1
    rw [hx.2.1, hy.2.1, hx.2.2.2.1, hy.2.2.2.1, hx.2.2.2.2.1, hy.2.2.2.2.1] at h1
    omega
  have e : m = sortA l := ans_one (pm.symm.trans (sortA_perm l).symm) hms (sortA_sorted l) fun a h1 b h2 => hu a (pm.mem_iff.2 h1) b (pm.mem_iff.2 h2)
  rw [← e]
  exact hm
end Go.Proofs.Ytkdnkjjnmadhgaa.Dev
