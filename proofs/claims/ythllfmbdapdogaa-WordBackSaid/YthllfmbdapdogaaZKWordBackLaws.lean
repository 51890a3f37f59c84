/- Plain laws: a text packed into words comes back; words through bytes come back. -/
import Derived.Test.YthllfmbdapdogaaZKWordText
import Derived.Test.YthllfmbdapdogaaZKPWordx7
namespace Go.Proofs.Ythllfmbdapdogaa.PWord
open Go.RowKit Go.Proofs.YthllfmbdapdogaaW.PrintWords Go.Proofs.YthllfmbdapdogaaW.PrintLast Go.Proofs.YthllfmbdapdogaaW.PrintMore
set_option linter.unusedVariables false
set_option linter.unusedSimpArgs false

theorem nm_byte {b p : Int} {n : Nat} (h : Sn b p n) {q : Nat} (hq : q < n) (w : Int) : nm p w / 2 ^ (8 * q) % 256 = w / 2 ^ (8 * q) % 256 := by
  have e := nm_emod h.sz w
  generalize nm p w = x at *
  rcases h with ⟨_, rfl, rfl⟩ | ⟨_, rfl, rfl⟩ | ⟨_, rfl, rfl⟩
  · have : q = 0 ∨ q = 1 := by omega
    rcases this with rfl | rfl <;> simp <;> omega
  · have : q = 0 ∨ q = 1 ∨ q = 2 := by omega
    rcases this with rfl | rfl | rfl <;> simp <;> omega
  · have : q = 0 ∨ q = 1 ∨ q = 2 ∨ q = 3 := by omega
    rcases this with rfl | rfl | rfl | rfl <;> simp <;> omega
theorem jn_byte {b p : Int} {n : Nat} (h : Sn b p n) (big : Bool) (c : Nat → Int) (hc : ∀ i, 0 ≤ c i ∧ c i ≤ 255) {j : Nat} (hj : j < n) : nm p (jn n big ((List.range n).map c) n 0 0) / 2 ^ (8 * pos n big j) % 256 = c j := by
  rw [nm_byte h (pos_lt big hj)]
  have a0 := hc 0
  have a1 := hc 1
  have a2 := hc 2
  have a3 := hc 3
  rcases h with ⟨_, rfl, rfl⟩ | ⟨_, rfl, rfl⟩ | ⟨_, rfl, rfl⟩
  · have : j = 0 ∨ j = 1 := by omega
    rcases this with rfl | rfl <;> cases big <;> simp [jn, pos, List.range_succ] <;> generalize c 0 = x at * <;> generalize c 1 = y at * <;> omega
  · have : j = 0 ∨ j = 1 ∨ j = 2 := by omega
    rcases this with rfl | rfl | rfl <;> cases big <;> simp [jn, pos, List.range_succ] <;> generalize c 0 = x at * <;> generalize c 1 = y at * <;> generalize c 2 = z at * <;> omega
  · have : j = 0 ∨ j = 1 ∨ j = 2 ∨ j = 3 := by omega
    rcases this with rfl | rfl | rfl | rfl <;> cases big <;> simp [jn, pos, List.range_succ] <;> generalize c 0 = x at * <;> generalize c 1 = y at * <;> generalize c 2 = z at * <;> generalize c 3 = u at * <;> omega
theorem put_byte {b p : Int} {n : Nat} (h : Sn b p n) (v w : Int) {q r : Nat} (hq : q < n) (hr : r < n) : put p q v w / 2 ^ (8 * r) % 256 = if r = q then v % 256 else w / 2 ^ (8 * r) % 256 := by
  unfold put
  rw [nm_byte h hr]
  rcases h with ⟨_, rfl, rfl⟩ | ⟨_, rfl, rfl⟩ | ⟨_, rfl, rfl⟩
  · have h1 : q = 0 ∨ q = 1 := by omega
    have h2 : r = 0 ∨ r = 1 := by omega
    rcases h1 with rfl | rfl <;> rcases h2 with rfl | rfl <;> simp <;> omega
  · have h1 : q = 0 ∨ q = 1 ∨ q = 2 := by omega
    have h2 : r = 0 ∨ r = 1 ∨ r = 2 := by omega
    rcases h1 with rfl | rfl | rfl <;> rcases h2 with rfl | rfl | rfl <;> simp <;> omega
  · have h1 : q = 0 ∨ q = 1 ∨ q = 2 ∨ q = 3 := by omega
    have h2 : r = 0 ∨ r = 1 ∨ r = 2 ∨ r = 3 := by omega
    rcases h1 with rfl | rfl | rfl | rfl <;> rcases h2 with rfl | rfl | rfl | rfl <;> simp <;> omega
theorem pos_inj {n i j : Nat} (big : Bool) (hi : i < n) (hj : j < n) : (pos n big i = pos n big j) ↔ (i = j) := by
  unfold pos; split <;> omega
theorem wordsL_get {p : Int} {n : Nat} {big : Bool} {B : List Int} {m r : Nat} (E : List Int) (hr : r < m) : rd (wordsL p n big B m ++ E) (r : Int) = nm p (jn n big ((List.range n).map fun i => rd B ((r * n + i : Nat) : Int)) n 0 0) := by
  have hl : (wordsL p n big B m).length = m := by simp [wordsL]
  rw [rd_getElem (by rw [List.length_append, hl]; omega), List.getElem_append_left (by rw [hl]; exact hr)]
  simp [wordsL]
theorem getv_words {b p : Int} {n : Nat} (h : Sn b p n) (big : Bool) {B : List Int} (hB : ∀ x ∈ B, 0 ≤ x ∧ x ≤ 255) {m I : Nat} (E : List Int) (hI : I < m * n) : getv n big (wordsL p n big B m ++ E) I = rd B (I : Int) := by
  obtain ⟨h1, h2, h3, h4⟩ := h.n
  unfold getv
  rw [wordsL_get E (Nat.div_lt_of_lt_mul (by rw [Nat.mul_comm]; exact hI)), jn_byte h big _ (fun i => rd_byte hB _) (Nat.mod_lt I (by omega))]
  have := Nat.div_add_mod I n
  rw [Nat.mul_comm] at this
  rw [this]
theorem bytesOf_byte (s : ByteArray) : ∀ x ∈ bytesOf s, 0 ≤ x ∧ x ≤ 255 := by
  intro x hx
  obtain ⟨c, _, rfl⟩ := List.mem_map.1 hx
  have := c.toNat_lt
  omega
theorem row_byte {s : ByteArray} (hs : s.size ≤ 255) (n : Nat) : ∀ x ∈ word_Pack.row s n, 0 ≤ x ∧ x ≤ 255 := by
  intro x hx
  unfold word_Pack.row at hx
  rcases List.mem_cons.1 hx with rfl | hx
  · omega
  rcases List.mem_append.1 hx with hx | hx
  · exact bytesOf_byte s x hx
  · have := (List.mem_replicate.1 hx).2
    omega
theorem strOfNums_bytesOf (s : ByteArray) : strOfNums (bytesOf s) = s := by
  unfold strOfNums bytesOf
  rw [List.map_map]
  have : (List.map ((fun n : Int => UInt8.ofNat n.toNat) ∘ fun b : UInt8 => (b.toNat : Int)) s.data.toList) = s.data.toList := by
    conv => rhs; rw [← List.map_id s.data.toList]
    refine List.map_congr_left fun b _ => ?_
    simp
  rw [this]
def nw (s : ByteArray) (n : Nat) : Nat := (s.size + n) / n
theorem nw_mul (s : ByteArray) {n : Nat} (hn : 2 ≤ n) : s.size + 1 ≤ nw s n * n ∧ nw s n * n ≤ s.size + n := by
  unfold nw
  have h1 := Nat.div_add_mod (s.size + n) n
  have h2 := Nat.mod_lt (s.size + n) (show 0 < n by omega)
  rw [Nat.mul_comm] at h1
  omega
theorem nw_le (s : ByteArray) {n : Nat} (hn : 2 ≤ n) : nw s n ≤ s.size / 2 + 1 := by
  unfold nw
  have h1 := Nat.div_add_mod (s.size + n) n
  rw [Nat.add_div_right _ (by omega)]
  have : s.size / n ≤ s.size / 2 := Nat.div_le_div_left hn (by omega)
  omega
theorem pack_word {b p : Int} {n : Nat} (h : Sn b p n) (big : Bool) {s : ByteArray} (hs : s.size ≤ 255) {k : Nat} (hk : 300 ≤ k) : word_Pack.f k s b big = some (wordsL p n big (word_Pack.row s n) (nw s n), 0) := by
  obtain ⟨h1, h2, h3, h4⟩ := h.n
  have hm := nw_mul s h1
  have hlen : (word_Pack.row s n).length = nw s n * n := word_Pack.row_length s n h1
  have hw := words_word h big (word_Pack.row s n) (row_byte hs n) (by omega) (k := k) (by omega)
  rw [hlen, Nat.mul_mod_left, if_pos rfl, Nat.mul_div_cancel _ (by omega)] at hw
  unfold word_Pack.f
  rw [(valid_sz h.sz big).1]
  simp only [Option.bind_some, if_true]
  rw [if_pos hs]
  clear hlen hm h4 h1 h2 h3
  rcases h with ⟨rfl, rfl, rfl⟩ | ⟨rfl, rfl, rfl⟩ | ⟨rfl, rfl, rfl⟩
  · rw [if_pos (by decide)]; exact hw
  · rw [if_neg (by decide), if_pos (by decide)]; exact hw
  · rw [if_neg (by decide), if_neg (by decide), if_pos (by decide)]; exact hw
theorem pack_back {b p : Int} {n : Nat} (h : Sn b p n) (big : Bool) {s : ByteArray} (hs : s.size ≤ 255) (E : List Int) : unp n big (wordsL p n big (word_Pack.row s n) (nw s n) ++ E) = (s, 0) := by
  obtain ⟨h1, h2, h3, h4⟩ := h.n
  have hm := nw_mul s h1
  have hB := row_byte hs n
  have hl : (wordsL p n big (word_Pack.row s n) (nw s n)).length = nw s n := by simp [wordsL]
  have hg : ∀ j, j ≤ s.size → getv n big (wordsL p n big (word_Pack.row s n) (nw s n) ++ E) j = rd (word_Pack.row s n) (j : Int) := fun j hj => getv_words h big hB E (by omega)
  have hg0 : getv n big (wordsL p n big (word_Pack.row s n) (nw s n) ++ E) 0 = (s.size : Int) := by
    rw [hg 0 (by omega)]; rfl
  have hpos : nw s n ≠ 0 := by intro e; rw [e] at hm; omega
  unfold unp
  rw [hg0, Int.toNat_natCast, List.length_append, hl, if_neg (by omega), if_neg]
  · congr 1
    rw [← strOfNums_bytesOf s]
    congr 1
    have hsz : (strOfNums (bytesOf s)).size = s.size := by rw [strOfNums_bytesOf]
    rw [strOfNums_bytesOf]
    apply List.ext_getElem
    · simp [bytesOf_length]
    · intro i h5 h6
      rw [bytesOf_length] at h6
      rw [List.getElem_map, List.getElem_range, hg (i + 1) (by omega), rd_nat]
      unfold word_Pack.row
      rw [List.getD_cons_succ, List.getD_eq_getElem?_getD, List.getElem?_append_left (by rw [bytesOf_length]; exact h6), List.getElem?_eq_getElem (by rw [bytesOf_length]; exact h6)]
      rfl
  · have : nw s n * n ≤ n * (nw s n + E.length) := by rw [Nat.mul_comm]; exact Nat.mul_le_mul_left n (by omega)
    omega
theorem rd_bytesL {n : Nat} (hn : 0 < n) (big : Bool) : ∀ (L : List Int) (j : Nat), j < L.length * n → rd (bytesL n big L) (j : Int) = getv n big L j := by
  intro L
  induction L with
  | nil => intro j h; simp at h
  | cons a t ih =>
    intro j hj
    have e : bytesL n big (a :: t) = spl n big a ++ bytesL n big t := rfl
    rw [rd_nat, e, List.getD_eq_getElem?_getD]
    by_cases c : j < n
    · rw [List.getElem?_append_left (by rw [spl_length]; exact c), ← List.getD_eq_getElem?_getD, ← rd_nat, spl_get big a c]
      unfold getv
      rw [Nat.div_eq_of_lt c, Nat.mod_eq_of_lt c]
      rfl
    · rw [List.getElem?_append_right (by rw [spl_length]; omega), spl_length, ← List.getD_eq_getElem?_getD, ← rd_nat]
      rw [List.length_cons, Nat.add_mul] at hj
      rw [ih (j - n) (by omega)]
      unfold getv
      have hd : j / n = (j - n) / n + 1 := by
        conv => lhs; rw [show j = (j - n) + n from by omega]
        exact Nat.add_div_right _ hn
      have hmod : j % n = (j - n) % n := by
        conv => lhs; rw [show j = (j - n) + n from by omega]
        exact Nat.add_mod_right _ _
      rw [hd, hmod, rd_nat, rd_nat, List.getD_cons_succ]
theorem bytesL_byte (n : Nat) (big : Bool) (L : List Int) : ∀ x ∈ bytesL n big L, 0 ≤ x ∧ x ≤ 255 := by
  intro x hx
  obtain ⟨w, _, hx⟩ := List.mem_flatMap.1 hx
  exact spl_byte n big w x hx
theorem words_back {b p : Int} {n : Nat} (h : Sn b p n) (big : Bool) (L : List Int) : wordsL p n big (bytesL n big L) L.length = L.map (nm p) := by
  obtain ⟨h1, h2, h3, h4⟩ := h.n
  apply List.ext_getElem
  · simp [wordsL]
  · intro r h5 h6
    have hr : r < L.length := by simpa using h6
    have hle : (r + 1) * n ≤ L.length * n := Nat.mul_le_mul_right n hr
    rw [Nat.add_mul, Nat.one_mul] at hle
    rw [List.getElem_map, ← jn_spl h big]
    simp only [wordsL, List.getElem_map, List.getElem_range]
    congr 2
    unfold spl
    refine List.map_congr_left fun i hi => ?_
    have hi' : i < n := List.mem_range.1 hi
    rw [rd_bytesL (by omega) big L _ (by omega)]
    unfold getv
    rw [Nat.mul_comm r n, Nat.mul_add_div (by omega), Nat.div_eq_of_lt hi', Nat.add_zero, Nat.mul_add_mod, Nat.mod_eq_of_lt hi', rd_getElem hr]
theorem getv_putL {b p : Int} {n : Nat} (h : Sn b p n) (big : Bool) (L : List Int) (I : Nat) (v : Int) (j : Nat) (hj : j < L.length * n) : getv n big (putL p n big L I v) j = if j = I then v % 256 else getv n big L j := by
  obtain ⟨h1, h2, h3, h4⟩ := h.n
  have hjm := Nat.mod_lt j (show 0 < n by omega)
  have hIm := Nat.mod_lt I (show 0 < n by omega)
  have hjd := Nat.div_add_mod j n
  have hId := Nat.div_add_mod I n
  have hq : j / n < L.length := Nat.div_lt_of_lt_mul (by rw [Nat.mul_comm]; exact hj)
  unfold getv
  rw [rd_getElem (L := putL p n big L I v) (by rw [putL_length]; exact hq), rd_getElem hq]
  unfold putL
  rw [List.getElem_set, List.getElem_map]
  by_cases c : I / n = j / n
  · rw [if_pos c, put_byte h _ _ (pos_lt big hIm) (pos_lt big hjm), c, rd_getElem hq]
    by_cases d : j % n = I % n
    · rw [if_pos (by rw [d]), if_pos (by rw [← hjd, ← hId, c, d])]
    · rw [if_neg (fun e => d ((pos_inj big hjm hIm).1 e)), if_neg (fun e => d (by rw [e]))]
  · rw [if_neg c, nm_byte h (pos_lt big hjm), if_neg (fun e => c (by rw [e]))]
end Go.Proofs.Ythllfmbdapdogaa.PWord
