import Derived.Test.YtkdnkjjnmadhgaaGK
import Derived.Laws.IdiomCopy
import Derived.Laws.MakeOwn
import Derived.Test.YtkdnkjjnmadhgaaGL
import Derived.Test.YtkdnkjjnmadhgaaGI
import Derived.Test.YtkdnkjjnmadhgaaFP
/-! DeviceReads: the bytes of the disk that the law keeps. -/
namespace Go.Proofs.Ytkdnkjjnmadhgaa.Dev
open Go.RowKit Go.Maps Go.Lib

theorem flat_len : ∀ {bl : List (List Int)}, (∀ x ∈ bl, x.length = 64) → bl.flatten.length = 64 * bl.length
  | [], _ => rfl
  | x :: l, h => by
    have h1 := flat_len (bl := l) fun y hy => h y (by simp [hy])
    have h2 := h x (by simp)
    rw [List.flatten_cons, List.length_append, h1, h2, List.length_cons]
    omega
theorem flat_at : ∀ {bl : List (List Int)}, (∀ x ∈ bl, x.length = 64) → ∀ (a : Nat) (x : List Int), bl[a]? = some x → ∀ k, k < 64 → bl.flatten[64 * a + k]? = x[k]?
  | [], _, a, x, hx, _, _ => by simp at hx
  | y :: l, h, 0, x, hx, k, hk => by
    simp at hx
    subst hx
    have h2 := h y (by simp)
    rw [List.flatten_cons, Nat.mul_zero, Nat.zero_add, List.getElem?_append_left (by omega)]
  | y :: l, h, a + 1, x, hx, k, hk => by
    have h2 := h y (by simp)
    have h1 := flat_at (bl := l) (fun z hz => h z (by simp [hz])) a x (by simpa using hx) k hk
    rw [List.flatten_cons, List.getElem?_append_right (by omega), h2, ← h1]
    congr 1
    omega
theorem flat_set64 {bl : List (List Int)} (h : ∀ x ∈ bl, x.length = 64) {a : Nat} (ha : a < bl.length) {data : List Int} (hd : data.length = 64) (k : Nat) : (bl.set a data).flatten[k]? = if 64 * a ≤ k ∧ k < 64 * a + 64 then data[k - 64 * a]? else bl.flatten[k]? := by
  have h' : ∀ x ∈ bl.set a data, x.length = 64 := fun x hx => by
    rcases List.mem_or_eq_of_mem_set hx with hx | rfl
    · exact h x hx
    · exact hd
  by_cases hk : k < 64 * bl.length
  · obtain ⟨i, j, hj, rfl⟩ : ∃ i j, j < 64 ∧ k = 64 * i + j := ⟨k / 64, k % 64, Nat.mod_lt _ (by decide), by omega⟩
    have hi : i < bl.length := by omega
    by_cases e : i = a
    · subst e
      rw [if_pos (by omega), flat_at h' i data (by simp [hi]) j hj, show 64 * i + j - 64 * i = j by omega]
    · rw [if_neg (by omega), flat_at h' i bl[i] (by rw [List.getElem?_set_ne (Ne.symm e), List.getElem?_eq_getElem hi]) j hj, flat_at h i bl[i] (List.getElem?_eq_getElem hi) j hj]
  · have e1 := flat_len h
    have e2 := flat_len h'
    rw [List.length_set] at e2
    rw [if_neg (by omega), List.getElem?_eq_none (by omega), List.getElem?_eq_none (by omega)]
theorem flat_zero : ∀ n : Nat, (List.replicate n (List.replicate 64 (0 : Int))).flatten = List.replicate (64 * n) 0
  | 0 => rfl
  | n + 1 => by
    rw [List.replicate_succ, List.flatten_cons, flat_zero n, List.replicate_append_replicate]
    congr 1
    omega
/-- The bytes of the disk, in a row. -/
def DiskRow (w : World) (g : Nat) (L : List Int) : Prop := w.heap[g]? = some (.cells (bytes L).toArray 5 (0, 0))
theorem madeCells_u8 (m : Nat) : madeCells (Value.int .u8 0).cells (m * 1) = (bytes (List.replicate m 0)).toArray := by
  rw [Nat.mul_one]
  unfold madeCells bytes
  apply Array.ext'
  simp only [Value.cells, List.map_replicate]
  simp only [Array.toList_map, Array.toList_range]
  rw [show (fun i => (#[Value.int .u8 0])[i % (#[Value.int .u8 0]).size]!) = fun _ => Value.int .u8 0 from funext fun x => by simp [Nat.mod_one]]
  rw [List.map_const', List.length_range]
theorem make_bytes (m : Nat) (hm : m ≤ 1000000) (w : World) : (Instr.makeSlice 39 (.int .i64 (m : Int)) (.int .i64 (m : Int))).run Try.prog w = .ok (.slice (some ⟨w.heap.size, 0, none⟩) m m) (w.alloc (.cells (bytes (List.replicate m 0)).toArray 5)) := by
  obtain ⟨i0, hi, hz0, hz1, hz2⟩ := info_parts infoB5
  have h := run_make (P := Try.prog) w 39 5 i0 (.int .u8 0) Try.underlying39 hi hz0 .i64 .i64 (m : Int) (m : Int) (by omega) (by omega) (by rw [hz2]; omega) (by omega)
  rw [hz1, Int.toNat_natCast, madeCells_u8] at h
  exact h
theorem DiskRow.sub {w : World} {g a c : Nat} {bl : List (List Int)} (h : DiskRow w g bl.flatten) (h64 : ∀ x ∈ bl, x.length = 64) {x : List Int} (hx : bl[a]? = some x) (B : Nat) : Held B 5 w (some ⟨g, 64 * a, none⟩, 64, c) (bytes x) := by
  have hxl := h64 x (List.mem_of_getElem? hx)
  refine ⟨by simp [bytes, hxl], fun u hu => ?_, fun _ => ⟨g, 64 * a, rfl, .inr ⟨_, h⟩, fun j u hu => ?_⟩⟩
  · simp only [bytes, List.mem_map] at hu
    obtain ⟨b, _, rfl⟩ := hu
    rfl
  · have hj : j < 64 := by
      have := (List.getElem?_eq_some_iff.1 hu).1
      simpa [bytes, hxl] using this
    rw [cell_of h, List.getElem?_toArray]
    unfold bytes at hu ⊢
    rw [List.getElem?_map] at hu ⊢
    rw [flat_at h64 a x hx j hj]
    exact hu
theorem DiskRow.whole {w : World} {g c : Nat} {L : List Int} (h : DiskRow w g L) (B : Nat) : Held B 5 w (some ⟨g, 0, none⟩, L.length, c) (bytes L) := by
  refine ⟨by simp [bytes], fun u hu => ?_, fun _ => ⟨g, 0, rfl, .inr ⟨_, h⟩, fun j u hu => ?_⟩⟩
  · simp only [bytes, List.mem_map] at hu
    obtain ⟨b, _, rfl⟩ := hu
    rfl
  · rw [cell_of h, List.getElem?_toArray, Nat.zero_add]
    exact hu
theorem copy_into {w : World} {B g a m : Nat} {bl : List (List Int)} (h : DiskRow w g bl.flatten) (h64 : ∀ x ∈ bl, x.length = 64) (ha : a < bl.length) (hm : bl.length = m) {dv : Sl} {data : List Int} (hd : Held B 5 w dv (bytes data)) (hl : data.length = 64) (ty : TypeId) (c : Nat) :
    ∃ w', (Builtin.copy_ #[39, 39] ty #[.slice (some ⟨g, 64 * a, none⟩) (64 * m - 64 * a) c, slv dv]).run Try.prog w = .ok (.int .i64 64) w' ∧ DiskRow w' g (bl.set a data).flatten ∧ Touch w w' (· = g) := by
  obtain ⟨A, n, cap⟩ := dv
  have hn : n = 64 := by
    have := hd.1
    simp [bytes, hl] at this
    exact this.symm
  subst hn
  obtain ⟨gs, off, e, _, hc⟩ := hd.2.2 (show 0 < 64 by decide)
  have e : A = some ⟨gs, off, none⟩ := e
  subst e
  have hbl : (bytes data).length = 64 := (bytes_len _).trans hl
  have hfl := flat_len h64
  have hsz : (bytes bl.flatten).toArray.size = 64 * bl.length := by rw [List.size_toArray, bytes_len, hfl]
  have hr := run_copy_cells (P := Try.prog) w 39 39 ty 5 g (64 * a) (64 * m - 64 * a) c ⟨gs, off, none⟩ 64 cap (bytes data) Try.underlying39 (by kernel_rfl) (by rw [hbl]; show 64 = min 64 _; omega)
    (fun j v hv => by rw [Addr.add_lit]; exact hc j v hv) (fun j hj => by rw [cell_of h, List.getElem?_toArray, List.getElem?_eq_getElem (by rw [bytes_len, hfl]; omega)]; rfl) (fun j hj => free_of h _) hd.2.1
  obtain ⟨cur', h1, h2, h3⟩ := setCells_block g 5 (bytes data) (64 * a) w _ h (by rw [hbl, hsz]; omega)
  refine ⟨_, hr.trans (by rw [hbl]; rfl), ?_, Touch.setCells g _ _ w⟩
  have e : cur' = (bytes (bl.set a data).flatten).toArray := by
    apply Array.ext_getElem?
    intro k
    rw [h3, hbl, List.getElem?_toArray, List.getElem?_toArray]
    unfold bytes
    rw [List.getElem?_map, List.getElem?_map, List.getElem?_map, flat_set64 h64 ha hl]
    split <;> rfl
  unfold DiskRow
  rw [h1, e]
end Go.Proofs.Ytkdnkjjnmadhgaa.Dev
/-! DeviceReads (f7): the plan that is handed in, and what comes of it. -/
namespace Go.Proofs.Ytkdnkjjnmadhgaa.Dev
open Go.RowKit Go.Maps Go.Lib

def rqR (qs : List PQ) (i : Nat) : Int × Int × Int × Int × Sl := ((i : Int) + 1, (pq qs i).do_, (pq qs i).a_, (pq qs i).b_, (pq qs i).dv)
/-- The new plan while it grows. -/
structure PlanQ (w wr : World) (pb jr jd : Nat) (qs : List PQ) (vr vd : Sl) (pcell : Array Value) (tv : Value) : Prop where
  pc : wr.heap[pb]? = some (.cells #[slv vr, slv vd, tv] 26 (0, 0))
  r : wr.ownsRow w.heap.size 41 5 (slv vr) jr ((List.range jr).flatMap fun i => reqC (rqR qs i))
  d : wr.ownsRow w.heap.size 3 1 (slv vd) jd ((List.range jd).map fun _ => .int .i64 1)
  box : wr.heap[w.heap.size]? = some (.cells pcell 26 (0, 0))
  low : w.heap.size < pb
  below : Below w.heap.size w wr
section
variable {w wr W w9 : World} {pb jr jd : Nat} {qs : List PQ} {vr vd : Sl} {pcell : Array Value} {tv : Value} {A9 : Option Addr} {c9 : Nat}
theorem PlanQ.keep_ (h : PlanQ w wr pb jr jd qs vr vd pcell tv) (hb : Below wr.heap.size wr W) {x : Sl} (hg : W.grownBy w9 (slv x).ownBlock) (hx : ∀ g, (slv x).ownBlock = some g → w.heap.size ≤ g ∧ ∃ cur ty, wr.heap[g]? = some (.cells cur ty (0, 0)) ∧ (ty = 41 ∨ ty = 3)) :
    (∀ k, k < wr.heap.size → (slv x).ownBlock ≠ some k → w9.heap[k]? = wr.heap[k]?) ∧ w9.heap[pb]? = some (.cells #[slv vr, slv vd, tv] 26 (0, 0)) ∧ w9.heap[w.heap.size]? = some (.cells pcell 26 (0, 0)) ∧ Below w.heap.size w w9 := by
  have hk : ∀ k, k < wr.heap.size → (slv x).ownBlock ≠ some k → w9.heap[k]? = wr.heap[k]? := fun k hl hn => (hg.block k (Nat.lt_of_lt_of_le hl hb.size) fun e => hn e.symm).trans (hb.block k hl)
  have hne : ∀ {k : Nat} {c : Array Value}, wr.heap[k]? = some (.cells c 26 (0, 0)) → (slv x).ownBlock ≠ some k := fun hc e => by
    obtain ⟨_, cur, ty, hc', ht⟩ := hx _ e
    rw [hc] at hc'
    simp at hc'
    obtain ⟨_, rfl⟩ := hc'
    rcases ht with h | h <;> cases h
  refine ⟨hk, (hk _ (blt h.pc) (hne h.pc)).trans h.pc, (hk _ (blt h.box) (hne h.box)).trans h.box, h.below.trans ((hb.mono h.below.size).grown hg (Nat.le_trans h.below.size hb.size) fun k hk' => (hx k hk').1)⟩
theorem PlanQ.addr (h : PlanQ w wr pb jr jd qs vr vd pcell tv) (hb : Below wr.heap.size wr W) (hg : W.grownBy w9 (slv vr).ownBlock)
    (hrow9 : w9.ownsRow w.heap.size 41 5 (.slice A9 (jr + 1) c9) (jr + 1) (((List.range jr).flatMap fun i => reqC (rqR qs i)) ++ reqC (rqR qs jr))) :
    PlanQ w (w9.setCell ⟨pb, 0, none⟩ (.slice A9 (jr + 1) c9)) pb (jr + 1) jd qs (A9, jr + 1, c9) vd pcell tv := by
  obtain ⟨hk, hp9, hb9, hbel⟩ := h.keep_ hb hg fun g hg => by
    obtain ⟨h1, cur, h2⟩ := own_block h.r hg
    exact ⟨h1, cur, 41, h2, .inl rfl⟩
  have ho : ∀ k, k ≠ pb → (w9.setCell ⟨pb, 0, none⟩ (.slice A9 (jr + 1) c9)).heap[k]? = w9.heap[k]? := fun k hk => Below.heap_setCell w9 _ _ _ hk
  have hlow := h.low
  refine ⟨?_, ?_, ?_, (ho _ (by omega)).trans hb9, h.low, hbel.setCell (Nat.le_of_lt h.low) _⟩
  · have := set_same hp9 0 (.slice A9 (jr + 1) c9)
    simpa using this
  · rw [List.range_succ, List.flatMap_append, List.flatMap_singleton]
    exact own_keep hrow9 fun k hk' _ => ho k fun e => own_ty hrow9 hp9 (by decide) (e ▸ hk')
  · exact own_keep h.d fun k hk' hl => by
      obtain ⟨_, cur, hc⟩ := own_block h.d hk'
      exact (ho k fun e => own_ty h.d h.pc (by decide) (e ▸ hk')).trans (hk k hl (own_ty h.r hc (by decide)))
theorem PlanQ.addd (h : PlanQ w wr pb jr jd qs vr vd pcell tv) (hb : Below wr.heap.size wr W) (hg : W.grownBy w9 (slv vd).ownBlock)
    (hrow9 : w9.ownsRow w.heap.size 3 1 (.slice A9 (jd + 1) c9) (jd + 1) (((List.range jd).map fun _ => .int .i64 1) ++ [.int .i64 1])) :
    PlanQ w (w9.setCell ⟨pb, 1, none⟩ (.slice A9 (jd + 1) c9)) pb jr (jd + 1) qs vr (A9, jd + 1, c9) pcell tv := by
  obtain ⟨hk, hp9, hb9, hbel⟩ := h.keep_ hb hg fun g hg => by
    obtain ⟨h1, cur, h2⟩ := own_block h.d hg
    exact ⟨h1, cur, 3, h2, .inr rfl⟩
  have ho : ∀ k, k ≠ pb → (w9.setCell ⟨pb, 1, none⟩ (.slice A9 (jd + 1) c9)).heap[k]? = w9.heap[k]? := fun k hk => Below.heap_setCell w9 _ _ _ hk
  have hlow := h.low
  refine ⟨?_, ?_, ?_, (ho _ (by omega)).trans hb9, h.low, hbel.setCell (Nat.le_of_lt h.low) _⟩
  · have := set_same hp9 1 (.slice A9 (jd + 1) c9)
    simpa using this
  · exact own_keep h.r fun k hk' hl => by
      obtain ⟨_, cur, hc⟩ := own_block h.r hk'
      exact (ho k fun e => own_ty h.r h.pc (by decide) (e ▸ hk')).trans (hk k hl (own_ty h.d hc (by decide)))
  · rw [List.range_succ, List.map_append]
    exact own_keep hrow9 fun k hk' _ => ho k fun e => own_ty hrow9 hp9 (by decide) (e ▸ hk')
end
/-- What came of the plan. -/
structure ReadsGot (w5 : World) (B n : Nat) (qs : List PQ) (ts : List Int) (rs : List Rp) (b : Nat) (Av : Option Addr) (cv : Nat) : Prop where
  row : w5.ownsRow B 46 4 (.slice Av rs.length cv) rs.length (rs.flatMap encO)
  ans : All2 (OutOf B w5) rs ((List.range qs.length).map (ansN n qs ts))
  sys : ∃ d bm dm, Sys B w5 b d bm dm (pdN n qs ts qs.length) ∧ bm.now = 1000000000
  ok : ∀ j, j < qs.length → OkN qs ts j
  n16 : 16 ≤ n
  n256 : n ≤ 256
theorem first_bad {P : Nat → Prop} : ∀ (N : Nat), (∀ j, j < N → P j) ∨ ∃ k, k < N ∧ (∀ j, j < k → P j) ∧ ¬ P k
  | 0 => .inl fun j hj => absurd hj (by omega)
  | N + 1 => by
    rcases first_bad N (P := P) with h | ⟨k, hk, h1, h2⟩
    · by_cases hN : P N
      · exact .inl fun j hj => by
          by_cases e : j = N
          · subst e; exact hN
          · exact h j (by omega)
      · exact .inr ⟨N, by omega, h, hN⟩
    · exact .inr ⟨k, by omega, h1, h2⟩
theorem pq_good {w : World} {qs : List PQ} (hq : ∀ q ∈ qs, GoodQ w q) (i : Nat) : GoodQ w (pq qs i) := by
  unfold pq
  rw [List.getD_eq_getElem?_getD]
  cases h : qs[i]? with
  | none => exact ⟨Held.nil_, fun b hb => by cases hb⟩
  | some q => exact hq q (List.mem_of_getElem? h)
/-- A bus with one disk is made; what was there from B on is not read. -/
theorem new_sysB (w : World) (B g off n : Nat) (hB : B ≤ w.heap.size) (hl : OneCfg w g off 2 n) (h16 : 16 ≤ n) (hn : n ≤ 256) :
    Calls Try.prog 23 #[.slice (some ⟨g, off, none⟩) 1 1] w fun e w' => e = .returned (.tuple #[ptr w.heap.size, .int .i64 0]) ∧ Below w.heap.size w w' ∧ ∃ d bm dm, Sys B w' w.heap.size d bm dm (disk0 n) ∧ bm.now = 0 ∧ bm.sent = 0 ∧ bm.told = 0 ∧ bm.rs = [] := by
  refine (new_one w g off 2 n hl 81 (fun W v => ∃ d dm, v = .iface 81 (ptr d) ∧ DRep B W d dm (disk0 n)) ?_ ?_).mono ?_
  · intro W' hW'
    refine (build_disk W' B (Nat.le_trans hB hW'.size) n h16 hn).mono ?_
    rintro e w'' ⟨d, m, rfl, _, hb, hd⟩
    exact ⟨d, rfl, hb, d, m, rfl, hd⟩
  · rintro W' W'' v cur ⟨d, dm, rfl, hd⟩ hc hk
    refine ⟨d, dm, rfl, hd.keep fun k hk1 ho => hk k hk1 fun e => ?_⟩
    subst e
    rcases ho with ho | ho | ⟨cur', ty, hc', ht⟩
    · obtain ⟨_, cur', ty, hc', ht⟩ := hd.own_tys ho
      rw [hc] at hc'
      simp at hc'
      obtain ⟨_, rfl⟩ := hc'
      simp at ht
    · omega
    · rw [hc] at hc'
      simp at hc'
      obtain ⟨_, rfl⟩ := hc'
      simp at ht
  · rintro e w' ⟨rfl, vd, v, hb, ⟨d, dm, rfl, hd⟩, hbel⟩
    exact ⟨rfl, hbel, d, _, dm, ⟨⟨Nat.le_trans hB hb.low, hb.cells, own_base hb.rd hB, hb.rr.base hB⟩, hd, rfl⟩, rfl, rfl, rfl, rfl⟩
theorem reads_call {w wr : World} (blocks : Int) {pb : Nat} {qs : List PQ} {ts : List Int} {vr1 vd1 At : Option Addr} {vr3 vd3 ct : Nat} {pcell : Array Value} (hQ : PlanQ w wr pb qs.length qs.length qs (vr1, qs.length, vr3) (vd1, qs.length, vd3) pcell (.slice At qs.length ct))
    (hN : qs.length ≤ 60) (hq : ∀ q ∈ qs, GoodQ w q) (hT : InInts w At ts) (hts : ts.length = qs.length) (htm : ∀ i, ts.getD i 0 ≤ 900000000) :
    Calls Try.prog 17 #[.slice (some ⟨wr.heap.size, 0, none⟩) 1 1, .agg #[.slice vr1 qs.length vr3, .slice vd1 qs.length vd3, .slice At qs.length ct], .slice none 0 0] (wr.alloc (.cells #[.int .i64 2, .int .i64 blocks, nilSl, nilSl, nilSl, nilSl] 54)) fun e w5 => Below wr.heap.size wr w5 ∧
      (e = .returned (.tuple #[.slice none 0 0, .pointer none, .bool false]) ∨ ∃ n Av cv rs b B, blocks = ((n : Nat) : Int) ∧ e = .returned (.tuple #[.slice Av rs.length cv, ptr b, .bool true]) ∧ ReadsGot w5 B n qs ts rs b Av cv) := by
  obtain ⟨W1, hW1⟩ : ∃ W, W = wr.alloc (.cells #[.int .i64 2, .int .i64 blocks, nilSl, nilSl, nilSl, nilSl] 54) := ⟨_, rfl⟩
  have s1 : W1.heap.size = wr.heap.size + 1 := by rw [hW1]; simp
  have g1 : W1.heap[wr.heap.size]? = some (.cells #[.int .i64 2, .int .i64 blocks, nilSl, nilSl, nilSl, nilSl] 54 (0, 0)) := by rw [hW1]; exact alloc_new _ _
  have hb : Below wr.heap.size wr W1 := by rw [hW1]; exact (Below.refl _ _).alloc (Nat.le_refl _) _
  rw [← hW1]
  have hbw : Below w.heap.size w W1 := hQ.below.trans (hb.mono hQ.below.size)
  have hw1 := hbw.size
  have up : ∀ {w' : World}, Below W1.heap.size W1 w' → Below wr.heap.size wr w' := fun h => hb.trans (h.mono (by omega))
  have hcfg : ∀ W, Below W1.heap.size W1 W → OneCfg W wr.heap.size 0 2 blocks := fun W hW j u hu => by
    rw [cell_of ((hW.block _ (by omega)).trans g1), Nat.zero_add]; exact hu
  by_cases hbk : 16 ≤ blocks ∧ blocks ≤ 256
  · obtain ⟨n, rfl⟩ : ∃ n : Nat, blocks = n := ⟨blocks.toNat, by omega⟩
    have hn16 : 16 ≤ n := by omega
    have hn : n ≤ 256 := by omega
    have hbyt : ∀ i, Byt (pq qs i).data := fun i => (pq_good hq i).2
    have hheld : ∀ i, Held W1.heap.size 5 W1 (pq qs i).dv (bytes (pq qs i).data) := fun i => ((pq_good hq i).1.below hbw).more hw1
    have hP : PlanAtO W1 W1.heap.size vr1 vd1 At qs.length (rqR qs) (fun _ => 1) (fun i => ts.getD i 0) := by
      refine ⟨fun h0 => ?_⟩
      obtain ⟨gd, _, hvd, _, _, _, cd, hcd, _, _, hdd⟩ := own_cell hQ.d h0
      obtain ⟨gt, ot, rfl, hgt, htt⟩ := hT (by omega)
      rcases hQ.r.2 with ⟨_, h1⟩ | ⟨gr, cap, cur, hv, hbb, hg, h1, h2, h3, h4⟩
      · omega
      · refine ⟨gr, gd, 0, gt, ot, by injection hv, by injection hvd, rfl, ⟨fun j hj i hi => ?_, fun j hj => ?_, fun j hj => ?_, by have := blt hg; omega, by have := blt hcd; omega, by omega⟩⟩
        · have hk : j * 5 + i < qs.length * 5 := by omega
          rw [cell_of ((hb.block _ (blt hg)).trans hg), ← flat_get (fun i => reqC (rqR qs i)) 5 (fun _ => rfl) (List.range qs.length) j j (by simp [hj]) i hi, ← h4, List.getElem?_take_of_lt hk, Array.getElem?_toList]
        · rw [Nat.zero_add]
          refine (hb.cell (p := ⟨gd, j, none⟩) (blt hcd)).trans ?_
          rw [hdd j hj]; simp [hj]
        · refine (hbw.cell (p := ⟨gt, ot + j, none⟩) hgt).trans (htt j _ ?_)
          rw [List.getD_eq_getElem?_getD, List.getElem?_eq_getElem (by omega)]; rfl
    have hnew : ∀ W, Below W1.heap.size W1 W → W.heap.size = W1.heap.size + 1 → Calls Try.prog 23 #[.slice (some ⟨wr.heap.size, 0, none⟩) 1 1] W fun e w' => e = .returned (.tuple #[ptr (W1.heap.size + 1), .int .i64 0]) ∧ RSt W1 (W1.heap.size + 1) n qs ts 0 w' ∧ Below W.heap.size W w' := fun W hW hs => by
      refine (new_sysB W W1.heap.size wr.heap.size 0 n hW.size (hcfg W hW) hn16 hn).mono ?_
      rintro e w' ⟨rfl, hbel, d, bm, dm, h1, h2, h3, h4, h5⟩
      rw [hs] at h1
      exact ⟨by rw [hs], ⟨d, bm, dm, h1, h2, h3, h4, by rw [h5]; exact All2.nil_, hW.trans (hbel.mono hW.size)⟩, hbel⟩
    rcases first_bad (P := OkN qs ts) qs.length with hok | ⟨k, hk, hok, hbad⟩
    · refine (handed_all W1 _ vr1 vd1 At qs.length vr3 vd3 ct (W1.heap.size + 1) (rqR qs) (fun _ => 1) (fun i => ts.getD i 0) hP (by omega) (RSt W1 (W1.heap.size + 1) n qs ts) (REnd W1 (W1.heap.size + 1) n qs ts qs.length) ((List.range qs.length).map (ansN n qs ts)) (by simp; omega) hnew
        (fun s wr h => by obtain ⟨_, _, _, _, _, _, _, _, hb⟩ := h; exact hb) (fun s wr w' h ht => h.keep ht) (fun wr h => by obtain ⟨_, _, _, _, _, hb⟩ := h; exact hb) (fun wr w' h ht => h.keep ht) ?_ ?_).mono ?_
      · intro i wr' hi h
        exact rst_send hn hbyt htm (by omega) (fun j hj => hok j (by omega)) (hheld i) h
      · intro wr' h
        exact rst_until hn hbyt htm (by omega) (fun j hj => hok j (by omega)) h
      · rintro e w5 ⟨v, rs, rfl, hE, hO⟩
        obtain ⟨d, bm, dm, h1, h2, h3⟩ := hE
        obtain ⟨Av, cv, rfl⟩ := own_form hO.row
        exact ⟨up h3, .inr ⟨n, Av, cv, rs, _, _, rfl, rfl, ⟨hO.row, hO.ans, ⟨d, bm, dm, h1, h2⟩, hok, hn16, hn⟩⟩⟩
    · refine (handed_stop W1 _ vr1 vd1 At qs.length vr3 vd3 ct (W1.heap.size + 1) k (rqR qs) (fun _ => 1) (fun i => ts.getD i 0) hP (by omega) hk (RSt W1 (W1.heap.size + 1) n qs ts) hnew
        (fun s wr h => by obtain ⟨_, _, _, _, _, _, _, _, hb⟩ := h; exact hb) (fun s wr w' h ht => h.keep ht) ?_ ?_).mono ?_
      · intro i wr' hi h
        exact rst_send hn hbyt htm (by omega) (fun j hj => hok j (by omega)) (hheld i) h
      · intro wr' h
        exact rst_refuse (by omega) hbad (hheld k) h
      · rintro e w5 ⟨rfl, hb5⟩
        exact ⟨up hb5, .inl rfl⟩
  · refine (handed_none W1 _ vr1 vd1 At qs.length qs.length qs.length vr3 vd3 ct 1 (by decide) (fun W hW _ => new_bad W wr.heap.size 0 2 blocks (hcfg W hW) fun W' _ => build_bad W' blocks hbk) _).mono ?_
    rintro e w5 ⟨rfl, hb5⟩
    exact ⟨up hb5, .inl rfl⟩
end Go.Proofs.Ytkdnkjjnmadhgaa.Dev
