import Derived.Test.YtkmgbnklfnjfjaaLB
/-! KernelPlaces: the plain law; rows side by side. -/
namespace Go.Proofs.Ytkmgbnklfnjfjaa.Ker
open Go.RowKit Go.Maps

instance (a : A) (i : Int) : Decidable (a.owner i) := inferInstanceAs (Decidable (_ ∨ _))
/-- What is in the queues of the first k numbers from -5 on, with its place. -/
def seenF (a : A) : Nat → List (Int × Int)
  | 0 => []
  | k + 1 => seenF a k ++ (if a.owner ((k : Int) - 5) then (a.q ((k : Int) - 5)).map (fun p => (p, (k : Int) - 5)) else [])
theorem seen_mem (a : A) : ∀ (k : Nat) (p i : Int), (p, i) ∈ seenF a k ↔ a.owner i ∧ p ∈ a.q i ∧ -5 ≤ i ∧ i < (k : Int) - 5
  | 0, p, i => by simp only [seenF, List.not_mem_nil, false_iff]; omega
  | k + 1, p, i => by
    rw [seenF, List.mem_append, seen_mem a k p i]
    constructor
    · rintro (h | h)
      · exact ⟨h.1, h.2.1, h.2.2.1, by omega⟩
      · split at h
        · rename_i ho
          obtain ⟨y, hy, he⟩ := List.mem_map.1 h
          simp only [Prod.mk.injEq] at he
          obtain ⟨rfl, rfl⟩ := he
          exact ⟨ho, hy, by omega, by omega⟩
        · simp at h
    · rintro ⟨h1, h2, h3, h4⟩
      by_cases hk : i < (k : Int) - 5
      · exact .inl ⟨h1, h2, h3, hk⟩
      · obtain rfl : i = (k : Int) - 5 := by omega
        right
        rw [if_pos h1]
        exact List.mem_map.2 ⟨p, h2, rfl⟩
theorem owner_rng {a : A} (gd : Good a) {i : Int} (h : a.owner i) : -5 ≤ i ∧ i ≤ 20 := by
  rcases h with h | h
  · have := gd.trng i h; omega
  · simp [devs] at h; omega
theorem seen_at {a : A} (gd : Good a) {k : Nat} {p i : Int} (h : (p, i) ∈ seenF a k) : p ∈ a.pids ∧ (a.pk p).at_ = i :=
  gd.qin i ((seen_mem a k p i).1 h).1 p ((seen_mem a k p i).1 h).2.1
theorem seen_len {a : A} (gd : Good a) : ∀ k, (seenF a k).length ≤ k * 200
  | 0 => by simp [seenF]
  | k + 1 => by
    have := seen_len gd k
    rw [seenF, List.length_append]
    split
    · rename_i ho
      have := gd.qlen ho
      rw [List.length_map]
      omega
    · simp; omega
/-- A packet of the queue that is looked through was not seen before. -/
theorem seen_fresh {a : A} (gd : Good a) (k n : Nat) (i x : Int) (hi : i = (k : Int) - 5) (ho : a.owner i) (hx : (a.q i)[n]? = some x) : x ∉ (seenF a k ++ ((a.q i).take n).map fun p => (p, i)).map fun p => p.1 := by
  intro h
  rw [List.map_append, List.mem_append] at h
  have hxq : x ∈ a.q i := List.mem_of_getElem? hx
  have hxat := (gd.qin i ho x hxq).2
  rcases h with h | h
  · obtain ⟨⟨p, j⟩, hp, rfl⟩ := List.mem_map.1 h
    have h1 := (seen_at gd hp).2
    have h2 := (seen_mem a k p j).1 hp
    simp only at hxat
    omega
  · rw [List.map_map] at h
    obtain ⟨y, hy, hyx⟩ := List.mem_map.1 h
    simp only [Function.comp] at hyx
    subst hyx
    obtain ⟨m, hm, hmx⟩ := List.getElem_of_mem hy
    rw [List.getElem_take] at hmx
    simp only [List.length_take] at hm
    have hn := gd.qnd i ho
    have hnl : n < (a.q i).length := by
      rw [List.getElem?_eq_some_iff] at hx
      exact hx.1
    have hml : m < (a.q i).length := by omega
    have he : (a.q i)[m]? = (a.q i)[n]? := by rw [hx, List.getElem?_eq_getElem hml, hmx]
    have := (List.getElem?_inj hml hn).1 he
    omega
/-- What is found of a packet in the end. -/
theorem seen_end {a : A} (gd : Good a) (x r : Int) (h : IsAt ((seenF a 26).map fun p => p.1) x r) :
    (x ∉ a.pids ∧ r = -1) ∨ (x ∈ a.pids ∧ (a.pk x).at_ = 0 ∧ r = -1) ∨
    (x ∈ a.pids ∧ (a.pk x).at_ ≠ 0 ∧ (a.pk x).wth = 0 ∧ ∃ n : Nat, r = n ∧ n < (seenF a 26).length ∧ ((seenF a 26).map fun p => p.2)[n]? = some (a.pk x).at_) := by
  rcases h with ⟨rfl, h⟩ | ⟨k, rfl, h⟩
  · by_cases hx : x ∈ a.pids
    · by_cases ha : (a.pk x).at_ = 0
      · exact .inr (.inl ⟨hx, ha, rfl⟩)
      · obtain ⟨ho, hq⟩ := gd.inq x hx ha
        have hr := owner_rng gd ho
        exact absurd (List.mem_map.2 ⟨(x, (a.pk x).at_), (seen_mem a 26 _ _).2 ⟨ho, hq, hr.1, by omega⟩, rfl⟩) h
    · exact .inl ⟨hx, rfl⟩
  · rw [List.getElem?_map] at h
    obtain ⟨⟨p, i⟩, hp, hpx⟩ := Option.map_eq_some_iff.1 h
    simp only at hpx
    subst hpx
    have hm := List.mem_of_getElem? hp
    obtain ⟨h1, h2⟩ := seen_at gd hm
    have h3 := (seen_mem a 26 _ _).1 hm
    have hne : (a.pk p).at_ ≠ 0 := by rw [h2]; exact gd.own_ne h3.1
    refine .inr (.inr ⟨h1, hne, gd.wth0 p h1 hne, k, rfl, ?_, ?_⟩)
    · exact (List.getElem?_eq_some_iff.1 hp).1
    · rw [List.getElem?_map, hp, h2]; rfl

/-- Two rows lie in different blocks. -/
def sepB (u v : Value) : Prop := ∀ b, u.ownBlock = some b → v.ownBlock ≠ some b
theorem sepB.symm {u v : Value} (h : sepB u v) : sepB v u := fun b hb hu => h b hu hb
theorem sepB.grow {w : World} {B e sz m : Nat} {u1 u2 v1 : Value} {ys : List Value} (hs : sepB u1 u2) (h2 : w.ownsRow B e sz u2 m ys) (hl : v1.ownBlock = u1.ownBlock ∨ v1.ownBlock = some (w.heap.size + 1)) : sepB v1 u2 := by
  intro b hb hb2
  rcases hl with hl | hl
  · rw [hl] at hb
    exact hs b hb hb2
  · have := own_lt h2 hb2
    rw [hl] at hb
    have : w.heap.size + 1 = b := by simpa using hb
    omega
theorem grown_row {w w' : World} {B m : Nat} {u1 u2 : Value} {xs : List Value} (h : w.ownsRow B 3 1 u2 m xs) (hg : w.grownBy w' u1.ownBlock) (hs : sepB u1 u2) : w'.ownsRow B 3 1 u2 m xs := grown_other h hg hs
/-- A new row lies apart from an elder one. -/
theorem sepB.new {w w' : World} {B B' e sz e' sz' n m : Nat} {u v : Value} {xs ys : List Value} (hu : w.ownsRow B e sz u n xs) (hv : w'.ownsRow B' e' sz' v m ys) (hB : w.heap.size ≤ B') : sepB u v := by
  intro b hb hb2
  have h1 := own_lt hu hb
  have h2 := (own_block hv hb2).1
  omega
/-- The two rows of pairs. -/
structure Two (B : Nat) (w : World) (u1 u2 : Value) (ps : List (Int × Int)) : Prop where
  fst : w.ownsRow B 3 1 u1 ps.length (ps.map fun p => .int .i64 p.1)
  snd : w.ownsRow B 3 1 u2 ps.length (ps.map fun p => .int .i64 p.2)
  sep : sepB u1 u2
theorem Two.below {B : Nat} {w w' : World} {u1 u2 : Value} {ps : List (Int × Int)} (h : Two B w u1 u2 ps) (hb : Below w.heap.size w w') : Two B w' u1 u2 ps := ⟨below_own h.fst hb, below_own h.snd hb, h.sep⟩
theorem Two.drewN {B : Nat} {w : World} {u1 u2 : Value} {ps : List (Int × Int)} (h : Two B w u1 u2 ps) (n : Nat) : Two B (w.drewN n) u1 u2 ps := ⟨own_keep h.fst (fun _ _ _ => rfl), own_keep h.snd (fun _ _ _ => rfl), h.sep⟩
theorem Two.none (B : Nat) (w : World) : Two B w (.slice none 0 0) (.slice none 0 0) [] := ⟨owns_none, owns_none, fun b hb => by cases hb⟩
theorem Two.ints {B : Nat} {w : World} {u1 u2 : Value} {ps : List (Int × Int)} (h : Two B w u1 u2 ps) : intsAt w u1 (ps.map fun p => p.1) := ⟨B, by rw [List.length_map, List.map_map]; exact h.fst⟩
theorem Two.at_ {B : Nat} {w : World} {u1 u2 : Value} {ps : List (Int × Int)} (h : Two B w u1 u2 ps) : intsAt w u2 (ps.map fun p => p.2) := ⟨B, by rw [List.length_map, List.map_map]; exact h.snd⟩
end Go.Proofs.Ytkmgbnklfnjfjaa.Ker
