import Derived.Test.YtkdnkjjnmadhgaaDF
import Derived.Deep.AppendSrc
import Derived.ArgAppend
set_option linter.unusedVariables false
set_option linter.unusedSimpArgs false
/-! Rows of one's own that are cut at their front; slices that are never written. -/
namespace Go.Proofs.Ytkdnkjjnmadhgaa.Dev
open Go.RowKit Go.Maps

/-- The block that an append may write. -/
def oblock : Value → Option Nat
  | .slice (some a) _ (_ + 1) => some a.block
  | _ => none
/-- A row of one's own from some place of its block on. -/
def RowO (w : World) (B : Nat) (e : TypeId) (sz : Nat) (v : Value) (n : Nat) (xs : List Value) : Prop :=
  xs.length = n * sz ∧ ((∃ A, v = .slice A 0 0 ∧ n = 0) ∨ ∃ g off cap cur, v = .slice (some ⟨g, off, none⟩) n cap ∧ B ≤ g ∧ w.heap[g]? = some (.cells cur e (0, 0)) ∧ n ≤ cap ∧ cap ≤ maxLen ∧ 0 < cap ∧ off + cap * sz ≤ cur.size ∧ ∀ j, j < n * sz → cur[off + j]? = xs[j]?)
section
variable {w w' : World} {B e sz n : Nat} {v : Value} {xs : List Value}
theorem RowO.none_ (A : Option Addr) : RowO w B e sz (.slice A 0 0) 0 [] := ⟨by simp, .inl ⟨A, rfl, rfl⟩⟩
theorem RowO.of_own (h : w.ownsRow B e sz v n xs) : RowO w B e sz v n xs := by
  refine ⟨h.1, ?_⟩
  rcases h.2 with ⟨rfl, rfl⟩ | ⟨g, cap, cur, rfl, hb, hg, h1, h2, h3, h4⟩
  · exact .inl ⟨none, rfl, rfl⟩
  · by_cases hc : cap = 0
    · subst hc
      have hn : n = 0 := by omega
      subst hn
      exact .inl ⟨_, rfl, rfl⟩
    · refine .inr ⟨g, 0, cap, cur, rfl, hb, hg, h1, h2, by omega, by omega, fun j hj => ?_⟩
      rw [← h4, Nat.zero_add]
      simp [hj]
theorem RowO.block (h : RowO w B e sz v n xs) {g : Nat} (hg : oblock v = some g) : B ≤ g ∧ ∃ cur, w.heap[g]? = some (.cells cur e (0, 0)) := by
  rcases h.2 with ⟨A, rfl, _⟩ | ⟨g', off, cap, cur, rfl, hb, hh, h1, h2, h3, _⟩
  · cases A <;> simp [oblock] at hg
  · obtain ⟨c, rfl⟩ : ∃ c, cap = c + 1 := ⟨cap - 1, by omega⟩
    simp [oblock] at hg
    subst hg
    exact ⟨hb, cur, hh⟩
theorem RowO.keep (h : RowO w B e sz v n xs) (hk : ∀ g, oblock v = some g → g < w.heap.size → w'.heap[g]? = w.heap[g]?) : RowO w' B e sz v n xs := by
  refine ⟨h.1, ?_⟩
  rcases h.2 with h2 | ⟨g, off, cap, cur, rfl, hb, hh, h1, h2, h3, h4⟩
  · exact .inl h2
  · refine .inr ⟨g, off, cap, cur, rfl, hb, (hk g ?_ (blt hh)).trans hh, h1, h2, h3, h4⟩
    obtain ⟨c, rfl⟩ : ∃ c, cap = c + 1 := ⟨cap - 1, by omega⟩
    rfl
theorem RowO.touch {S : Nat → Prop} (h : RowO w B e sz v n xs) (ht : Touch w w' S) (hs : ∀ g, oblock v = some g → ¬ S g) : RowO w' B e sz v n xs :=
  h.keep fun g hg hl => ht.block g hl (hs g hg)
theorem RowO.form (h : RowO w B e sz v n xs) : ∃ A c, v = .slice A n c := by
  rcases h.2 with ⟨A, rfl, rfl⟩ | ⟨g, off, cap, cur, rfl, _⟩
  · exact ⟨_, _, rfl⟩
  · exact ⟨_, _, rfl⟩
theorem RowO.cell {A : Option Addr} {c : Nat} (h : RowO w B e sz (.slice A n c) n xs) (hn : 0 < n) : ∃ g off, A = some ⟨g, off, none⟩ ∧ g < w.heap.size ∧ (∃ cur, w.heap[g]? = some (.cells cur e (0, 0))) ∧ ∀ j, j < n * sz → w.cell? ⟨g, off + j, none⟩ = xs[j]? := by
  rcases h.2 with ⟨_, _, h0⟩ | ⟨g, off, cap, cur, hv, hb, hh, h1, h2, h3, _, h4⟩
  · omega
  · injection hv with e1 e2 e3
    exact ⟨g, off, e1, blt hh, ⟨cur, hh⟩, fun j hj => (cell_of hh _).trans (h4 j hj)⟩
theorem RowO.reads {A : Option Addr} {c : Nat} (h : RowO w B e sz (.slice A n c) n xs) : Reads w w.heap.size sz A n xs := by
  refine ⟨h.1, fun hn => ?_⟩
  obtain ⟨g, off, rfl, hl, _, hc⟩ := h.cell hn
  refine ⟨_, rfl, hl, fun j u hu => ?_⟩
  have hj : j < n * sz := by rw [← h.1]; exact (List.getElem?_eq_some_iff.1 hu).1
  rw [Addr.add_lit, hc j hj, hu]
/-- Cut at its front. -/
theorem RowO.cut {A : Option Addr} {c k : Nat} (h : RowO w B e sz (.slice A n c) n xs) (hk : k ≤ n) (hsz : 0 < sz) : RowO w B e sz (.slice (if c = k then A else A.map (·.add (k * sz))) (n - k) (c - k)) (n - k) (xs.drop (k * sz)) := by
  refine ⟨by rw [List.length_drop, h.1, Nat.sub_mul], ?_⟩
  rcases h.2 with ⟨A', hv, rfl⟩ | ⟨g, off, cap, cur, hv, hb, hh, h1, h2, h3, h5, h4⟩
  · injection hv with e1 e2 e3
    subst e3
    have : k = 0 := by omega
    subst this
    exact .inl ⟨_, rfl, rfl⟩
  · injection hv with e1 e2 e3
    subst e1 e3
    by_cases hck : c = k
    · subst hck
      have : n = c := by omega
      subst this
      exact .inl ⟨some ⟨g, off, none⟩, by rw [if_pos rfl, Nat.sub_self], by omega⟩
    · rw [if_neg hck]
      refine .inr ⟨g, off + k * sz, c - k, cur, ?_, hb, hh, by omega, by omega, by omega, ?_, fun j hj => ?_⟩
      · simp only [Option.map_some, Addr.add_lit]
      · have : k * sz + (c - k) * sz = c * sz := by rw [← Nat.add_mul]; congr 1; omega
        omega
      · rw [List.getElem?_drop, ← h4 (k * sz + j) ?_, Nat.add_assoc]
        have : k * sz + (n - k) * sz = n * sz := by rw [← Nat.add_mul]; congr 1; omega
        omega
end

theorem setCells_block (g : Nat) (e : TypeId) : ∀ (vs : List Value) (o : Nat) (w : World) (cur : Array Value), w.heap[g]? = some (.cells cur e (0, 0)) → o + vs.length ≤ cur.size →
    ∃ cur' : Array Value, (w.setCells g o vs).heap[g]? = some (.cells cur' e (0, 0)) ∧ cur'.size = cur.size ∧ ∀ k, cur'[k]? = if o ≤ k ∧ k < o + vs.length then vs[k - o]? else cur[k]?
  | [], o, w, cur, h, _ => ⟨cur, h, rfl, fun k => by rw [if_neg (by simp)]⟩
  | v :: vs, o, w, cur, h, hl => by
    obtain ⟨c', h1, h2, h3⟩ := setCells_block g e vs (o + 1) (w.setCell ⟨g, o, none⟩ v) (cur.setIfInBounds o v) (set_same h o v) (by simp at hl ⊢; omega)
    refine ⟨c', h1, by rw [h2]; simp, fun k => ?_⟩
    rw [h3]
    simp only [List.length_cons] at hl ⊢
    by_cases h4 : k = o
    · subst h4
      rw [if_neg (by omega), if_pos (by omega), Nat.sub_self, Array.getElem?_setIfInBounds_self_of_lt (by omega)]
      rfl
    · by_cases h5 : o + 1 ≤ k ∧ k < o + 1 + vs.length
      · rw [if_pos h5, if_pos (by omega)]
        obtain ⟨j, rfl⟩ : ∃ j, k = o + 1 + j := ⟨k - (o + 1), by omega⟩
        rw [show o + 1 + j - o = j + 1 by omega, show o + 1 + j - (o + 1) = j by omega]
        rfl
      · rw [if_neg h5, if_neg (by omega), Array.getElem?_setIfInBounds_ne (by omega)]
theorem Touch.setCells (g : Nat) : ∀ (vs : List Value) (o : Nat) (w : World), Touch w (w.setCells g o vs) (· = g)
  | [], o, w => Touch.refl _ _
  | v :: vs, o, w => (Touch.setCell w ⟨g, o, none⟩ v (S := (· = g)) rfl).trans (Touch.setCells g vs (o + 1) _)

section
variable {P : Program} (w : World)
theorem run_append_off (base : Nat) (t ty e : TypeId) (i : TypeInfo) (z : Value) (size bytes : Nat) (ht : P.underlying t = some (.slice e)) (hi : P.info? e = some i) (hz : i.zero = some z)
    (hsize : i.size = size) (hby : i.bytes = bytes) (hzs : z.cells.size = size) (hsz : 0 < size)
    (v : Value) (n : Nat) (xs : List Value) (hown : RowO w base e size v n xs)
    (B : Nat) (A : Option Addr) (m c : Nat) (news : List Value) (hr : Reads w B size A m news) (h1 : ∀ u ∈ news, u.oneCell' = true)
    (h63 : n + m ≤ maxLen) (hbytes : (n + m) * bytes ≤ 140737488355328) (hbase : base ≤ w.heap.size) :
    ∃ v' w', (Builtin.append_ #[t, t] ty #[v, .slice A m c]).run P w = .ok v' w' ∧ RowO w' base e size v' (n + m) (xs ++ news) ∧ w.grownBy w' (oblock v) ∧
      (oblock v' = oblock v ∨ oblock v' = some w.heap.size) := by
  subst hsize
  subst hby
  obtain ⟨hl, hcell⟩ := hr
  have hsrc : Src P i.size t (.slice A m c) m news w := by
    rcases A with _ | ad
    · have hm : m = 0 := by
        rcases Nat.eq_zero_or_pos m with h0 | h0
        · exact h0
        · obtain ⟨_, h, _⟩ := hcell h0; cases h
      subst hm
      have hn : news = [] := List.eq_nil_of_length_eq_zero (by simpa using hl)
      subst hn
      exact ⟨.inl ⟨_, ht⟩, fun _ => rfl, run_firstCells_none _ _ _ _ _, run_firstCells_none _ _ _ _ _, by simp, by simp⟩
    · refine Src.ofSlice w ht ad m c news hl (fun j u hu => ?_) h1
      rcases Nat.eq_zero_or_pos m with h0 | h0
      · subst h0
        have hn : news = [] := List.eq_nil_of_length_eq_zero (by simpa using hl)
        subst hn
        simp at hu
      · obtain ⟨_, h, _, hc⟩ := hcell h0
        injection h with h
        subst h
        exact hc j u hu
  have hlen : (xs ++ news).length = (n + m) * i.size := by rw [List.length_append, hown.1, hl, Nat.add_mul]
  have hsmall : n + m ≤ 9223372036854775807 := by simp only [maxLen] at h63; omega
  have grow : ∀ (A' : Option Addr) (cap : Nat), v = .slice A' n cap → cap < n + m → (Builtin.firstCells i.size n (.slice A' n cap)).run P w.drew = .ok xs.toArray w.drew →
      ∃ v' w', (Builtin.append_ #[t, t] ty #[v, .slice A m c]).run P w = .ok v' w' ∧ RowO w' base e i.size v' (n + m) (xs ++ news) ∧ w.grownBy w' (oblock v) ∧
      (oblock v' = oblock v ∨ oblock v' = some w.heap.size) := by
    intro A' cap hv hg hold
    subst hv
    have hr := run_append_grow_src (P := P) w t t ty e i z ht hi hz A' n cap xs hold (.slice A m c) m news hsrc hg (by omega) (growslice_fits hg hbytes)
    have hge := grownCap_ge w (n + m) cap e
    have hcm : grownCap w (n + m) cap e ≤ maxLen := grownCap_le_maxLen w (n + m) cap e h63
    refine ⟨_, _, hr, ⟨hlen, .inr ⟨w.heap.size, 0, _, _, rfl, hbase, heap_alloc_new w.drew _, hge, hcm, by omega, ?_, fun j hj => ?_⟩⟩, ⟨rfl, rfl, rfl, by simp, fun k hk _ => Below.heap_alloc w.drew _ k hk⟩, .inr ?_⟩
    · simp only [Array.size_append, List.size_toArray, size_zeroCells, hzs, hlen, ← Nat.add_mul]
      rw [Nat.zero_add]
      exact Nat.mul_le_mul_right _ (by omega)
    · rw [Nat.zero_add, Array.getElem?_append_left (by rw [List.size_toArray, hlen]; exact hj)]
      simp
    · obtain ⟨c', hc'⟩ : ∃ c', grownCap w (n + m) cap e = c' + 1 := ⟨grownCap w (n + m) cap e - 1, by omega⟩
      rw [hc']
      rfl
  rcases hown.2 with ⟨A', rfl, rfl⟩ | ⟨g, off, cap, cur, rfl, hbg, hg, hnc, hcm, hc0, hcs, htake⟩
  · have hx : xs = [] := List.eq_nil_of_length_eq_zero (by simpa using hown.1)
    subst hx
    by_cases hm : m = 0
    · subst hm
      have hn : news = [] := List.eq_nil_of_length_eq_zero (by simpa using hl)
      subst hn
      refine ⟨.slice A' 0 0, w, ?_, RowO.none_ A', ⟨rfl, rfl, rfl, Nat.le_refl _, fun _ _ _ => rfl⟩, .inl rfl⟩
      have hs := hsrc.cells
      cases A' with
      | none => simp [Builtin.append_, run_underlying ht, sizeOf, typeInfo, hi, Builtin.lenOf, hs]
      | some a => simp [Builtin.append_, run_underlying ht, sizeOf, typeInfo, hi, Builtin.lenOf, hs, storeCells]
    · refine grow A' 0 rfl (by omega) ?_
      cases A' with
      | none => exact run_firstCells_none _ _ _ _ _
      | some a => exact run_firstCells_some w.drew i.size 0 a 0 0 [] (by simp) (by simp)
  · by_cases hroom : n + m ≤ cap
    · have hin : ∀ j, j < news.length → off + n * i.size + j < cur.size := by
        intro j hj
        have : n * i.size + m * i.size ≤ cap * i.size := by rw [← Nat.add_mul]; exact Nat.mul_le_mul_right _ hroom
        omega
      have hr := run_append_room_src (P := P) w t t ty e i ht hi g off n cap (.slice A m c) m news hsrc hroom (fun j hj => by rw [cell_of hg, Array.getElem?_eq_getElem (hin j hj)]; rfl) (fun j hj => free_of hg _)
      have hfit : off + n * i.size + news.length ≤ cur.size := by
        have : n * i.size + m * i.size ≤ cap * i.size := by rw [← Nat.add_mul]; exact Nat.mul_le_mul_right _ hroom
        omega
      refine ⟨_, _, hr, ⟨hlen, ?_⟩, ?_, ?_⟩
      · obtain ⟨cur', h1', h2', h3'⟩ : ∃ cur' : Array Value, (w.setCells g (off + n * i.size) news).heap[g]? = some (.cells cur' e (0, 0)) ∧ cur'.size = cur.size ∧ ∀ k, cur'[k]? = if off + n * i.size ≤ k ∧ k < off + n * i.size + news.length then news[k - (off + n * i.size)]? else cur[k]? := by
          exact setCells_block g e news _ w cur hg hfit
        refine .inr ⟨g, off, cap, cur', rfl, hbg, h1', hroom, hcm, hc0, by omega, fun j hj => ?_⟩
        rw [h3']
        have h5 := hown.1
        have h6 := Nat.add_mul n m i.size
        by_cases hj2 : j < n * i.size
        · rw [if_neg (by omega), List.getElem?_append_left (by omega), htake j hj2]
        · rw [if_pos (by omega), List.getElem?_append_right (by omega)]
          congr 1
          omega
      · obtain ⟨c', rfl⟩ : ∃ c', cap = c' + 1 := ⟨cap - 1, by omega⟩
        have ht := Touch.setCells g news (off + n * i.size) w
        exact ⟨ht.os, ht.tape, ht.output, ht.size, fun k hk hn => ht.block k hk (fun e => hn (by rw [e]; rfl))⟩
      · obtain ⟨c', rfl⟩ : ∃ c', cap = c' + 1 := ⟨cap - 1, by omega⟩
        exact .inl rfl
    · refine grow _ cap rfl (by omega) ?_
      refine run_firstCells_some w.drew i.size n ⟨g, off, none⟩ n cap xs hown.1 (fun j u hu => ?_)
      have hj : j < n * i.size := by rw [← hown.1]; exact (List.getElem?_eq_some_iff.1 hu).1
      rw [Addr.add_lit]
      show w.cell? ⟨g, off + j, none⟩ = some u
      rw [cell_of hg, htake j hj, hu]

theorem wpList_append_off {ops : Array Oper} {rest : List Oper} {o : Oper} {a : Act} {Q : Exit → Act → World → Prop} (hgd : o.guard = none) (s x : Operand) (t : TypeId)
    (ho : o.op = .call { callee := .builtin .append, args := #[s, x], argTypes := #[t, t] })
    (base : Nat) (e : TypeId) (i : TypeInfo) (z : Value) (size bytes : Nat) (ht : P.underlying t = some (.slice e)) (hi : P.info? e = some i) (hz : i.zero = some z)
    (hsize : i.size = size) (hby : i.bytes = bytes) (hzs : z.cells.size = size) (hsz : 0 < size)
    (v : Value) (n : Nat) (xs : List Value) (hs : a.eval s = v) (hown : RowO w base e size v n xs)
    (B : Nat) (A : Option Addr) (m c : Nat) (news : List Value) (hx : a.eval x = .slice A m c) (hr : Reads w B size A m news) (h1 : ∀ u ∈ news, u.oneCell' = true)
    (h63 : n + m ≤ maxLen) (hbytes : (n + m) * bytes ≤ 140737488355328) (hbase : base ≤ w.heap.size)
    (h : ∀ v' w', RowO w' base e size v' (n + m) (xs ++ news) → w.grownBy w' (oblock v) → (oblock v' = oblock v ∨ oblock v' = some w.heap.size) → wpList P ops Q rest (a.put o.dst v') w') : wpList P ops Q (o :: rest) a w := by
  refine wpList_plain hgd fun K hK => ?_
  obtain ⟨v', w', hrun, h2, h3, h4⟩ := run_append_off (P := P) w base t o.type e i z size bytes ht hi hz hsize hby hzs hsz v n xs hown B A m c news hr h1 h63 hbytes hbase
  unfold Oper.wp execOp
  simp only [ho, resolve, invoke, builtin, Sem.run_bind, Sem.run_pure, Result.andThen_ok, List.map_toArray, List.map_cons, List.map_nil, hs, hx, hrun]
  exact hK _ _ (h v' w' h2 h3 h4)
end

/-- A slice of values of one cell that are never written: it lies below the calls' own memory, or in a row of its own type. -/
def Held (B : Nat) (ty : TypeId) (w : World) (v : Sl) (xs : List Value) : Prop :=
  xs.length = v.2.1 ∧ (∀ u ∈ xs, u.oneCell' = true) ∧ (0 < v.2.1 → ∃ g off, v.1 = some ⟨g, off, none⟩ ∧ (g < B ∨ ∃ cur, w.heap[g]? = some (.cells cur ty (0, 0))) ∧ ∀ (j : Nat) u, xs[j]? = some u → w.cell? ⟨g, off + j, none⟩ = some u)
theorem lt_of_cell {w : World} {ad : Addr} {u : Value} (h : w.cell? ad = some u) : ad.block < w.heap.size := by
  by_cases hb : ad.block < w.heap.size
  · exact hb
  · unfold World.cell? at h
    simp [Array.getElem?_eq_none (Nat.le_of_not_lt hb)] at h
section
variable {B : Nat} {ty : TypeId} {w w' : World} {v : Sl} {xs : List Value}
theorem Held.reads (h : Held B ty w v xs) : Reads w w.heap.size 1 v.1 v.2.1 xs := by
  refine ⟨by rw [h.1, Nat.mul_one], fun hn => ?_⟩
  obtain ⟨g, off, e, _, hc⟩ := h.2.2 hn
  have hl : 0 < xs.length := by rw [h.1]; exact hn
  refine ⟨_, e, lt_of_cell (hc 0 _ (List.getElem?_eq_getElem hl)), fun j u hu => ?_⟩
  rw [Addr.add_lit]
  exact hc j u hu
theorem Held.keep (h : Held B ty w v xs) (hk : ∀ k, k < w.heap.size → (k < B ∨ ∃ cur, w.heap[k]? = some (.cells cur ty (0, 0))) → w'.heap[k]? = w.heap[k]?) : Held B ty w' v xs := by
  refine ⟨h.1, h.2.1, fun hn => ?_⟩
  obtain ⟨g, off, e, ho, hc⟩ := h.2.2 hn
  have hl : 0 < xs.length := by rw [h.1]; exact hn
  have hlt : g < w.heap.size := lt_of_cell (hc 0 _ (List.getElem?_eq_getElem hl))
  have hb := hk _ hlt ho
  exact ⟨g, off, e, ho.imp id (fun ⟨cur, hh⟩ => ⟨cur, hb.trans hh⟩), fun j u hu => (World.cell?_of_block (a := ⟨g, off + j, none⟩) hb).trans (hc j u hu)⟩
theorem Held.touch {S : Nat → Prop} (h : Held B ty w v xs) (ht : Touch w w' S) (hs : ∀ k, k < w.heap.size → S k → B ≤ k ∧ ∀ cur, w.heap[k]? ≠ some (.cells cur ty (0, 0))) : Held B ty w' v xs :=
  h.keep fun k hk ho => ht.block k hk fun h1 => by
    obtain ⟨h2, h3⟩ := hs k hk h1
    rcases ho with ho | ⟨cur, ho⟩
    · omega
    · exact h3 cur ho
theorem Held.below (h : Held B ty w v xs) (hb : Below w.heap.size w w') : Held B ty w' v xs := h.keep fun k hk _ => hb.block k hk
theorem Held.of_own {B' : Nat} {val : Value} {n : Nat} (h : w.ownsRow B' ty 1 val n xs) (h1 : ∀ u ∈ xs, u.oneCell' = true) : ∃ v : Sl, val = slv v ∧ v.2.1 = n ∧ Held B ty w v xs := by
  obtain ⟨A, c, rfl⟩ := own_form h
  refine ⟨(A, n, c), rfl, rfl, by rw [h.1, Nat.mul_one], h1, fun hn => ?_⟩
  obtain ⟨g, cap, hv, _, hlt⟩ := h.form hn
  have hA : A = some ⟨g, 0, none⟩ := by injection hv
  subst hA
  obtain ⟨_, cur, hh⟩ := own_block h (g := g) rfl
  refine ⟨g, 0, rfl, .inr ⟨cur, hh⟩, fun j u hu => ?_⟩
  rw [← Addr.add_lit]
  exact h.cells (g := g) rfl j u hu
theorem Held.nil_ : Held B ty w (none, 0, 0) [] := ⟨rfl, by simp, fun h => absurd h (by simp)⟩
theorem Held.more {B' : Nat} (h : Held B ty w v xs) (hB : B ≤ B') : Held B' ty w v xs := ⟨h.1, h.2.1, fun hn => by
  obtain ⟨g, off, e, ho, hc⟩ := h.2.2 hn
  exact ⟨g, off, e, ho.imp (fun h => by omega) id, hc⟩⟩
end
end Go.Proofs.Ytkdnkjjnmadhgaa.Dev
