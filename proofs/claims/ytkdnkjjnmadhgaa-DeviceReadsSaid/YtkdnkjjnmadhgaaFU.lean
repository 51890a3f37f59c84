import Derived.Test.YtkdnkjjnmadhgaaFT
/-! DeviceLines (f6): the walk of a plan within bounds. -/
namespace Go.Proofs.Ytkdnkjjnmadhgaa.Dev
open Go.RowKit Go.Maps Go.Lib

theorem infoC41 : (Try.prog.info? 41).map (fun i => (i.zero, i.size, i.bytes)) = some (some (.agg #[.int .i64 0, .int .i64 0, .int .i64 0, .int .i64 0, .slice none 0 0]), 5, 56) := by kernel_rfl
set_option maxRecDepth 100000 in
theorem build41 (w : World) (a b c d e : Value) : (Instr.buildSlice 23 1 #[(0, .agg #[a, b, c, d, e])]).run Try.prog w = .ok (.slice (some ⟨w.heap.size, 0, none⟩) 1 1) (w.alloc (.cells #[a, b, c, d, e] 41)) := by
  go_simp
/-- The messages with their bytes as values. -/
def msV (ms : List (Sl × List Int)) : List (Sl × List Value) := ms.map fun m => (m.1, bytes m.2)
/-- The plan while it grows. -/
structure PlanG (w wr : World) (ms : List (Sl × List Int)) (j : Nat) (want : Value) : Prop where
  plan : ∃ vr : Sl, wr.heap[w.heap.size]? = some (.cells #[slv vr, nilSl, nilSl] 26 (0, 0)) ∧ wr.ownsRow w.heap.size 41 5 (slv vr) j ((List.range j).flatMap fun i => reqC (lineRq (msV ms) i))
  want : wr.ownsRow w.heap.size 39 1 want (min j ms.length) ((ms.take j).map fun m => slv m.1)
  small : ∀ m ∈ ms.take j, m.2.length ≤ 64
  below : Below w.heap.size w wr

theorem new_reads5 (w : World) (a b c d e : Value) (t : TypeId) : Reads (w.alloc (.cells #[a, b, c, d, e] t)) (w.heap.size + 1) 5 (some ⟨w.heap.size, 0, none⟩) 1 [a, b, c, d, e] :=
  ⟨rfl, fun _ => ⟨_, rfl, Nat.lt_succ_self _, fun i u hu => by rw [Addr.add_lit, Nat.zero_add, cell_of (alloc_new w _)]; simpa using hu⟩⟩
theorem one5 (a b c d : Int) (v : Sl) : ∀ u ∈ [Value.int .i64 a, .int .i64 b, .int .i64 c, .int .i64 d, .slice v.1 v.2.1 v.2.2], u.oneCell' = true := fun u hu => by
  simp at hu
  rcases hu with rfl | rfl | rfl | rfl | rfl <;> rfl
theorem lineRq_rec (ms : List (Sl × List Int)) (r : Nat) : lineRq (msV ms) (ms.length + r) = ((r : Int), 1, 0, 0, (none, 0, 0)) := by
  have h1 : (msV ms)[ms.length + r]? = none := by rw [msV, List.getElem?_map, List.getElem?_eq_none (by omega)]; rfl
  unfold lineRq
  rw [h1]
  have : (((ms.length + r : Nat) : Int) - ((msV ms).length : Int)) = (r : Int) := by simp [msV]; omega
  rw [this]
/-- A receive is added to the plan. -/
theorem PlanG.recv {w wr w9 : World} {ms : List (Sl × List Int)} {r : Nat} {u : Value} {vr : Sl} {A9 : Option Addr} {c9 : Nat} (hG : PlanG w wr ms (ms.length + r) u)
    (hpc : wr.heap[w.heap.size]? = some (.cells #[slv vr, nilSl, nilSl] 26 (0, 0))) (hrow : wr.ownsRow w.heap.size 41 5 (slv vr) (ms.length + r) ((List.range (ms.length + r)).flatMap fun i => reqC (lineRq (msV ms) i)))
    (hg : (wr.alloc (.cells #[.int .i64 (r : Int), .int .i64 1, .int .i64 0, .int .i64 0, .slice none 0 0] 41)).grownBy w9 (slv vr).ownBlock)
    (hrow9 : w9.ownsRow w.heap.size 41 5 (.slice A9 (ms.length + r + 1) c9) (ms.length + r + 1) ((List.range (ms.length + r)).flatMap (fun i => reqC (lineRq (msV ms) i)) ++ [.int .i64 (r : Int), .int .i64 1, .int .i64 0, .int .i64 0, .slice none 0 0])) :
    PlanG w (w9.setCell ⟨w.heap.size, 0, none⟩ (.slice A9 (ms.length + r + 1) c9)) ms (ms.length + (r + 1)) u := by
  have hk : ∀ k, k < wr.heap.size → (slv vr).ownBlock ≠ some k → w9.heap[k]? = wr.heap[k]? := fun k hl hn => (hg.block k (by rw [World.size_alloc]; omega) fun e => hn e.symm).trans (Below.heap_alloc _ _ _ hl)
  have hne : (slv vr).ownBlock ≠ some w.heap.size := own_ty hrow hpc (by decide)
  have hp9 := (hk _ (blt hpc) hne).trans hpc
  have ho : ∀ k, k ≠ w.heap.size → (w9.setCell ⟨w.heap.size, 0, none⟩ (.slice A9 (ms.length + r + 1) c9)).heap[k]? = w9.heap[k]? := fun k hk => Below.heap_setCell w9 _ _ _ hk
  have hsz := hG.below.size
  have hb : Below w.heap.size wr w9 := ((Below.refl _ _).alloc hsz _).grown hg (by rw [World.size_alloc]; omega) fun k hk => (own_block hrow hk).1
  refine ⟨⟨(A9, ms.length + r + 1, c9), ?_, ?_⟩, ?_, ?_, ?_⟩
  · have := set_same hp9 0 (.slice A9 (ms.length + r + 1) c9)
    simpa using this
  · rw [show ms.length + (r + 1) = ms.length + r + 1 by omega, List.range_succ, List.flatMap_append, List.flatMap_singleton, lineRq_rec]
    exact own_keep hrow9 fun k hk _ => ho k fun e => own_ty hrow9 hp9 (by decide) (e ▸ hk)
  · have h := hG.want
    rw [List.take_of_length_le (by omega)] at h
    rw [List.take_of_length_le (by omega), show min (ms.length + (r + 1)) ms.length = min (ms.length + r) ms.length by omega]
    refine own_keep h fun k hk' hl => ?_
    obtain ⟨_, cur, hc⟩ := own_block h hk'
    refine (ho k fun e => own_ty h hpc (by decide) (e ▸ hk')).trans (hk k hl (own_ty hrow hc (by decide)))
  · have h := hG.small
    rw [List.take_of_length_le (by omega)] at h ⊢
    exact h
  · exact (hG.below.trans hb).setCell (Nat.le_refl _) _
/-- The plan while devices and times are added. -/
structure PlanE (w wr : World) (ms : List (Sl × List Int)) (n jd jt : Nat) (want : Value) (vr vd vt : Sl) : Prop where
  pc : wr.heap[w.heap.size]? = some (.cells #[slv vr, slv vd, slv vt] 26 (0, 0))
  r : wr.ownsRow w.heap.size 41 5 (slv vr) n ((List.range n).flatMap fun i => reqC (lineRq (msV ms) i))
  d : wr.ownsRow w.heap.size 3 1 (slv vd) jd ((List.range jd).map fun _ => .int .i64 1)
  t : wr.ownsRow w.heap.size 3 1 (slv vt) jt ((List.range jt).map fun i => .int .i64 ((i / 3 : Nat) : Int))
  ne : ∀ g, (slv vd).ownBlock = some g → (slv vt).ownBlock ≠ some g
  want : wr.ownsRow w.heap.size 39 1 want ms.length (ms.map fun m => slv m.1)
  small : ∀ m ∈ ms, m.2.length ≤ 64
  below : Below w.heap.size w wr
theorem PlanG.all {w wr : World} {ms : List (Sl × List Int)} {rc : Nat} {u : Value} (h : PlanG w wr ms (ms.length + rc) u) : ∃ vr, PlanE w wr ms (ms.length + rc) 0 0 u vr (none, 0, 0) (none, 0, 0) := by
  obtain ⟨vr, h1, h2⟩ := h.plan
  have h3 := h.want
  have h4 := h.small
  rw [List.take_of_length_le (by omega), show min (ms.length + rc) ms.length = ms.length by omega] at h3
  rw [List.take_of_length_le (by omega)] at h4
  exact ⟨vr, h1, h2, owns_none, owns_none, fun g hg => by simp [Value.ownBlock] at hg, h3, h4, h.below⟩
theorem PlanE.keepd {w wr w9 : World} {ms : List (Sl × List Int)} {n jd jt : Nat} {u : Value} {vr vd vt : Sl} (h : PlanE w wr ms n jd jt u vr vd vt) {o : Array Value} {x : Sl} (hx : (slv x).ownBlock = (slv vd).ownBlock ∨ (slv x).ownBlock = (slv vt).ownBlock)
    (hg : (wr.alloc (.cells o 3)).grownBy w9 (slv x).ownBlock) (hx3 : ∀ g, (slv x).ownBlock = some g → w.heap.size ≤ g ∧ ∃ cur, wr.heap[g]? = some (.cells cur 3 (0, 0))) : (∀ k, k < wr.heap.size → (slv x).ownBlock ≠ some k → w9.heap[k]? = wr.heap[k]?) ∧ w9.heap[w.heap.size]? = some (.cells #[slv vr, slv vd, slv vt] 26 (0, 0)) ∧ Below w.heap.size w w9 := by
  have hk : ∀ k, k < wr.heap.size → (slv x).ownBlock ≠ some k → w9.heap[k]? = wr.heap[k]? := fun k hl hn => (hg.block k (by rw [World.size_alloc]; omega) fun e => hn e.symm).trans (Below.heap_alloc _ _ _ hl)
  have hsz := h.below.size
  refine ⟨hk, (hk _ (blt h.pc) fun e => ?_).trans h.pc, h.below.trans (((Below.refl _ _).alloc hsz _).grown hg (by rw [World.size_alloc]; omega) fun k hk => (hx3 k hk).1)⟩
  obtain ⟨_, cur, hc⟩ := hx3 _ e
  rw [h.pc] at hc
  simp at hc
theorem PlanE.addd {w wr w9 : World} {ms : List (Sl × List Int)} {n jd jt : Nat} {u : Value} {vr vd vt : Sl} {A9 : Option Addr} {c9 : Nat} (h : PlanE w wr ms n jd jt u vr vd vt) {o : Array Value}
    (hg : (wr.alloc (.cells o 3)).grownBy w9 (slv vd).ownBlock) (hrow9 : w9.ownsRow w.heap.size 3 1 (.slice A9 (jd + 1) c9) (jd + 1) (((List.range jd).map fun _ => .int .i64 1) ++ [.int .i64 1]))
    (hloc : (Value.slice A9 (jd + 1) c9).ownBlock = (slv vd).ownBlock ∨ (Value.slice A9 (jd + 1) c9).ownBlock = some (wr.alloc (.cells o 3)).heap.size) :
    PlanE w (w9.setCell ⟨w.heap.size, 1, none⟩ (.slice A9 (jd + 1) c9)) ms n (jd + 1) jt u vr (A9, jd + 1, c9) vt := by
  obtain ⟨hk, hp9, hb⟩ := h.keepd (.inl rfl) hg fun g hg => own_block h.d hg
  have ho : ∀ k, k ≠ w.heap.size → (w9.setCell ⟨w.heap.size, 1, none⟩ (.slice A9 (jd + 1) c9)).heap[k]? = w9.heap[k]? := fun k hk => Below.heap_setCell w9 _ _ _ hk
  refine ⟨?_, ?_, ?_, ?_, ?_, ?_, h.small, hb.setCell (Nat.le_refl _) _⟩
  · have := set_same hp9 1 (.slice A9 (jd + 1) c9)
    simpa using this
  · exact own_keep h.r fun k hk' hl => by
      obtain ⟨_, cur, hc⟩ := own_block h.r hk'
      exact (ho k fun e => own_ty h.r h.pc (by decide) (e ▸ hk')).trans (hk k hl (own_ty h.d hc (by decide)))
  · rw [List.range_succ, List.map_append]
    exact own_keep hrow9 fun k hk' _ => ho k fun e => own_ty hrow9 hp9 (by decide) (e ▸ hk')
  · exact own_keep h.t fun k hk' hl => (ho k fun e => own_ty h.t h.pc (by decide) (e ▸ hk')).trans (hk k hl fun e => h.ne k e hk')
  · intro g hg1 hg2
    rcases hloc with e | e
    · exact h.ne g (e ▸ hg1) hg2
    · have h1 := own_lt h.t hg2
      have h2 : g = (wr.alloc (.cells o 3)).heap.size := by
        have := hg1.symm.trans e
        injection this
      rw [World.size_alloc] at h2
      omega
  · exact own_keep h.want fun k hk' hl => by
      obtain ⟨_, cur, hc⟩ := own_block h.want hk'
      exact (ho k fun e => own_ty h.want h.pc (by decide) (e ▸ hk')).trans (hk k hl (own_ty h.d hc (by decide)))
theorem PlanE.addt {w wr w9 : World} {ms : List (Sl × List Int)} {n jd jt : Nat} {u : Value} {vr vd vt : Sl} {A9 : Option Addr} {c9 : Nat} (h : PlanE w wr ms n jd jt u vr vd vt) {o : Array Value}
    (hg : (wr.alloc (.cells o 3)).grownBy w9 (slv vt).ownBlock) (hrow9 : w9.ownsRow w.heap.size 3 1 (.slice A9 (jt + 1) c9) (jt + 1) (((List.range jt).map fun i => .int .i64 ((i / 3 : Nat) : Int)) ++ [.int .i64 ((jt / 3 : Nat) : Int)]))
    (hloc : (Value.slice A9 (jt + 1) c9).ownBlock = (slv vt).ownBlock ∨ (Value.slice A9 (jt + 1) c9).ownBlock = some (wr.alloc (.cells o 3)).heap.size) :
    PlanE w (w9.setCell ⟨w.heap.size, 2, none⟩ (.slice A9 (jt + 1) c9)) ms n jd (jt + 1) u vr vd (A9, jt + 1, c9) := by
  obtain ⟨hk, hp9, hb⟩ := h.keepd (.inr rfl) hg fun g hg => own_block h.t hg
  have ho : ∀ k, k ≠ w.heap.size → (w9.setCell ⟨w.heap.size, 2, none⟩ (.slice A9 (jt + 1) c9)).heap[k]? = w9.heap[k]? := fun k hk => Below.heap_setCell w9 _ _ _ hk
  refine ⟨?_, ?_, ?_, ?_, ?_, ?_, h.small, hb.setCell (Nat.le_refl _) _⟩
  · have := set_same hp9 2 (.slice A9 (jt + 1) c9)
    simpa using this
  · exact own_keep h.r fun k hk' hl => by
      obtain ⟨_, cur, hc⟩ := own_block h.r hk'
      exact (ho k fun e => own_ty h.r h.pc (by decide) (e ▸ hk')).trans (hk k hl (own_ty h.t hc (by decide)))
  · exact own_keep h.d fun k hk' hl => (ho k fun e => own_ty h.d h.pc (by decide) (e ▸ hk')).trans (hk k hl fun e => h.ne k hk' e)
  · rw [List.range_succ, List.map_append]
    exact own_keep hrow9 fun k hk' _ => ho k fun e => own_ty hrow9 hp9 (by decide) (e ▸ hk')
  · intro g hg1 hg2
    rcases hloc with e | e
    · exact h.ne g hg1 (e ▸ hg2)
    · have h1 := own_lt h.d hg1
      have h2 : g = (wr.alloc (.cells o 3)).heap.size := by
        have := hg2.symm.trans e
        injection this
      rw [World.size_alloc] at h2
      omega
  · exact own_keep h.want fun k hk' hl => by
      obtain ⟨_, cur, hc⟩ := own_block h.want hk'
      exact (ho k fun e => own_ty h.want h.pc (by decide) (e ▸ hk')).trans (hk k hl (own_ty h.t hc (by decide)))
/-- The rows of a plan. -/
theorem PlanAt.of_rows {W : World} {base n nr nd nt : Nat} {Ar Ad At : Option Addr} {rq : Nat → Int × Int × Int × Int × Sl} {dev at_ : Nat → Int} (hr : W.ownsRow base 41 5 (.slice Ar n nr) n ((List.range n).flatMap fun i => reqC (rq i)))
    (hd : W.ownsRow base 3 1 (.slice Ad n nd) n ((List.range n).map fun i => .int .i64 (dev i))) (ht : W.ownsRow base 3 1 (.slice At n nt) n ((List.range n).map fun i => .int .i64 (at_ i))) : PlanAt W W.heap.size Ar Ad At n rq dev at_ := by
  refine ⟨fun h0 => ?_⟩
  obtain ⟨gd, _, hvd, _, _, _, cd, hcd, _, _, hdd⟩ := own_cell hd h0
  obtain ⟨gt, _, hvt, _, _, _, ct, hct, _, _, htt⟩ := own_cell ht h0
  rcases hr.2 with ⟨_, h1⟩ | ⟨gr, cap, cur, hv, hb, hg, h1, h2, h3, h4⟩
  · omega
  · refine ⟨gr, gd, gt, by injection hv, by injection hvd, by injection hvt, ⟨fun j hj i hi => ?_, fun j hj => ?_, fun j hj => ?_, blt hg, blt hcd, blt hct⟩⟩
    · have hk : j * 5 + i < n * 5 := by omega
      rw [cell_of hg, ← flat_get (fun i => reqC (rq i)) 5 (fun _ => rfl) (List.range n) j j (by simp [hj]) i hi, ← h4, List.getElem?_take_of_lt hk, Array.getElem?_toList]
    · rw [hdd j hj]; simp [hj]
    · rw [htt j hj]; simp [hj]
set_option maxRecDepth 100000 in
theorem build54 (w : World) (k n : Int) : (Instr.buildSlice 22 1 #[(0, .agg #[.int .i64 k, .int .i64 n, nilSl, nilSl, nilSl, nilSl])]).run Try.prog w = .ok (.slice (some ⟨w.heap.size, 0, none⟩) 1 1) (w.alloc (.cells #[.int .i64 k, .int .i64 n, nilSl, nilSl, nilSl, nilSl] 54)) := by
  go_simp
/-- What DeviceLines' plan gave. -/
structure LinesGot (w5 : World) (B : Nat) (ms : List (Sl × List Int)) (n : Nat) (rs : List Rp) (L : List Ans) (b : Nat) (bm : BM) (Av : Option Addr) (cv : Nat) : Prop where
  row : w5.ownsRow B 46 4 (.slice Av rs.length cv) rs.length (rs.flatMap encO)
  ans : All2 (OutOf B w5) rs L
  recs : (L.filter isRec).map (fun o => (o.1.pk, o.2.2.1, o.2.2.2)) = ((msV ms).take (n - ms.length)).mapIdx fun c m => ((c : Int), (m.2.length : Int), m.2)
  sends : ∀ o ∈ L, isRec o = false → 1000 ≤ o.1.pk
  len : L.length = min n ms.length + min (n - ms.length) ms.length
  bus : BRep B w5 b bm
  sent : bm.sent = n
  told : bm.told = L.length
def lk4 (k : Nat) : Int := if k = 0 then 1 else if k = 1 then 2 else if k = 2 then 3 else 10
theorem msV_mem {ms : List (Sl × List Int)} {x : Sl × List Value} (h : x ∈ msV ms) : ∃ m ∈ ms, x = (m.1, bytes m.2) := by
  obtain ⟨m, hm, rfl⟩ := List.mem_map.1 h
  exact ⟨m, hm, rfl⟩
theorem lines_call {w wr : World} {ms : List (Sl × List Int)} {n : Nat} {u : Value} {vr1 vd1 vt1 : Option Addr} {vr3 vd3 vt3 : Nat} (hE : PlanE w wr ms n n n u (vr1, n, vr3) (vd1, n, vd3) (vt1, n, vt3)) (hn : n ≤ 200) (hH : ∀ m ∈ ms, Held w.heap.size 5 w m.1 (bytes m.2)) :
    Calls Try.prog 17 #[.slice (some ⟨wr.heap.size, 0, none⟩) 1 1, .agg #[.slice vr1 n vr3, .slice vd1 n vd3, .slice vt1 n vt3], .slice (some ⟨wr.heap.size + 1, 0, none⟩) 4 4]
      ((wr.alloc (.cells #[.int .i64 4, .int .i64 0, nilSl, nilSl, nilSl, nilSl] 54)).alloc (.cells #[.int .i64 1, .int .i64 2, .int .i64 3, .int .i64 10] 3)) fun e w5 => ∃ Av cv rs L b bm B, e = .returned (.tuple #[.slice Av rs.length cv, ptr b, .bool true]) ∧ LinesGot w5 B ms n rs L b bm Av cv ∧ Below wr.heap.size wr w5 := by
  obtain ⟨W1, hW1⟩ : ∃ W, W = wr.alloc (.cells #[.int .i64 4, .int .i64 0, nilSl, nilSl, nilSl, nilSl] 54) := ⟨_, rfl⟩
  obtain ⟨W2, hW2⟩ : ∃ W, W = W1.alloc (.cells #[.int .i64 1, .int .i64 2, .int .i64 3, .int .i64 10] 3) := ⟨_, rfl⟩
  have s1 : W1.heap.size = wr.heap.size + 1 := by rw [hW1]; simp
  have s2 : W2.heap.size = wr.heap.size + 2 := by rw [hW2]; simp [s1]
  have g1 : W2.heap[wr.heap.size]? = some (.cells #[.int .i64 4, .int .i64 0, nilSl, nilSl, nilSl, nilSl] 54 (0, 0)) := by
    rw [hW2]; refine alloc_old ?_ _
    rw [hW1]; exact alloc_new _ _
  have g2 : W2.heap[wr.heap.size + 1]? = some (.cells #[.int .i64 1, .int .i64 2, .int .i64 3, .int .i64 10] 3 (0, 0)) := by
    rw [← s1, hW2]; exact alloc_new _ _
  have hb : Below wr.heap.size wr W2 := by
    rw [hW2, hW1]
    exact ((Below.refl _ _).alloc (Nat.le_refl _) _).alloc (by simp) _
  rw [← hW1, ← hW2]
  have hml : (msV ms).length = ms.length := by simp [msV]
  have hP : PlanAt W2 W2.heap.size vr1 vd1 vt1 n (lineRq (msV ms)) (fun _ => 1) (fun i => ((i / 3 : Nat) : Int)) :=
    PlanAt.of_rows (own_keep hE.r fun k _ hl => hb.block k hl) (own_keep hE.d fun k _ hl => hb.block k hl) (own_keep hE.t fun k _ hl => hb.block k hl)
  have hbw : Below w.heap.size w W2 := hE.below.trans (hb.mono hE.below.size)
  have hL : LooksAt W2 W2.heap.size (some ⟨wr.heap.size + 1, 0, none⟩) 4 lk4 := ⟨fun _ => ⟨_, rfl, by omega, fun k hk => by
    rw [cell_of g2]
    obtain rfl | rfl | rfl | rfl : k = 0 ∨ k = 1 ∨ k = 2 ∨ k = 3 := by omega
    all_goals rfl⟩⟩
  have hw2 := hbw.size
  refine (lines_handed W2 wr.heap.size vr1 vd1 vt1 (some ⟨wr.heap.size + 1, 0, none⟩) (msV ms) n vr3 vd3 vt3 4 4 lk4 hn (by omega) (fun j u hu => by rw [cell_of g1, Nat.zero_add]; exact hu) hP hL (fun x hx => ?_) (fun x hx => ?_) (fun k => ?_) (fun k k' hk => ?_)).mono ?_
  · obtain ⟨m, hm, rfl⟩ := msV_mem hx
    exact ((hH m hm).below hbw).more hw2
  · obtain ⟨m, hm, rfl⟩ := msV_mem hx
    have := hE.small m hm
    simpa [bytes] using this
  · unfold lk4
    (repeat' split) <;> decide
  · unfold lk4
    (repeat' split) <;> omega
  · rintro e w5 ⟨v, s, os, rs, rfl, ⟨_, _, hR⟩, hS, hO⟩
    obtain ⟨e1, e2, e3, e4⟩ := hR.all hn
    obtain ⟨d, bm, lm, h1, h2, h3, h4, h5, h6⟩ := hS
    obtain ⟨Av, cv, rfl⟩ := own_form hO.row
    rw [e1] at hO
    have hrec := hR.recs
    have hlen := hR.len
    rw [hml] at hrec hlen
    rw [s2] at hO h1
    refine ⟨Av, cv, rs, os ++ s.pend, wr.heap.size + 2 + 1, bm, wr.heap.size + 2, by rw [s2], ⟨hO.row, hO.ans, hrec, hR.sends, hlen, h1.bus, ?_, ?_⟩, hb.trans (h6.mono (by omega))⟩
    · rw [h3, e3]
    · rw [h4, e4]
set_option maxHeartbeats 4000000 in
set_option maxRecDepth 100000 in
theorem lines_good (w : World) (A : Option Addr) (c : Nat) (ms : List (Sl × List Int)) (rc : Nat) (hn : ms.length ≤ 40) (hrc : rc ≤ 60) (hA : 0 < ms.length → ∃ g off, A = some ⟨g, off, none⟩ ∧ g < w.heap.size ∧ ∀ j m, ms[j]? = some m → w.cell? ⟨g, off + j, none⟩ = some (slv m.1)) (hH : ∀ m ∈ ms, Held w.heap.size 5 w m.1 (bytes m.2)) :
    Calls Try.prog 6 #[.slice A ms.length c, .int .i64 rc] w fun e w' => e = .returned (.bool true) ∧ Below w.heap.size w w' := by
  have C12 := Lib.hid (fun w' => awake_any w')
  have d1 : decide (40 < (ms.length : Int)) = false := by simp; omega
  have d2 : decide ((rc : Int) < 0) = false := by simp
  have d3 : decide (60 < (rc : Int)) = false := by simp; omega
  have HA := Lib.hid hA
  have HH := Lib.hid hH
  have HN := Lib.hid hn
  have HRC := Lib.hid hrc
  clear hA hH hn hrc
  go_enter Try.func6, Try.ntmps6
  go_wp2_with fail
  go_loopw [6, 7] (fun v i wr => ∃ j : Nat, j ≤ ms.length ∧ i = .int .i64 j ∧ PlanG w wr ms j v) (fun _ i _ => ms.length - (intOf i).toNat)
  case atStart => exact ⟨0, Nat.zero_le _, rfl, ⟨⟨(none, 0, 0), alloc_new _ _, owns_none⟩, by simpa using owns_none, by simp, (Below.refl _ _).alloc (Nat.le_refl _) _⟩⟩
  case round =>
    obtain ⟨j, hj, rfl, hG⟩ := hrel
    by_cases hlt : j < ms.length
    · as_aux_lemma =>
        have hd : decide ((j : Int) < (ms.length : Int)) = true := by simpa using hlt
        obtain ⟨g, off, rfl, hg, hcell⟩ := HA.out (by omega)
        obtain ⟨m, hm⟩ : ∃ m, ms[j]? = some m := ⟨_, List.getElem?_eq_getElem hlt⟩
        have hmm : m ∈ ms := List.mem_of_getElem? hm
        have m0 : wr.cell? ⟨g, off + j, none⟩ = some (.slice m.1.1 m.1.2.1 m.1.2.2) := (hG.below.cell (p := ⟨g, off + j, none⟩) hg).trans (hcell j m hm)
        have hml : m.1.2.1 = m.2.length := by rw [← (HH.out m hmm).1]; simp [bytes]
        by_cases h64 : 64 < m.2.length
        · as_aux_lemma =>
            have d4 : decide (64 < (m.1.2.1 : Int)) = true := by simp; omega
            have HB := Lib.hid hG.below
            clear hG hcell hm hmm hml h64
            go_wp2_with (go_at_call 12; (with_reducible refine (C12.out _).mono ?_); rintro e w' ⟨rfl, hb⟩; have HB2 := Lib.hid hb; clear hb)
            go_ret
            exact ⟨rfl, HB.out.trans (HB2.out.mono HB.out.size)⟩
        · as_aux_lemma =>
            have d4 : decide (64 < (m.1.2.1 : Int)) = false := by simp; omega
            obtain ⟨vr, hpc, hrow⟩ := hG.plan
            have y0 : wr.cell? ⟨w.heap.size, 0, none⟩ = some (.slice vr.1 vr.2.1 vr.2.2) := (cell_of hpc 0).trans rfl
            have k1 : IntKind.i64.wrap (1000 + (j : Int)) = 1000 + j := by have := HN.out; rw [IntKind.wrap_i64]; omega
            have HG := Lib.hid hG
            have HPC := Lib.hid hpc
            have HROW := Lib.hid hrow
            have HM := Lib.hid hm
            have HML := Lib.hid hml
            have H64 := Lib.hid h64
            clear hG hpc hrow hm hml h64 hcell hmm
            go_upto_region 10 with (fail)
            obtain ⟨C, hCd⟩ : ∃ C : World → Prop, ∀ z, C z ↔ (z.cell? ⟨w.heap.size, 0, none⟩ = some (.slice vr.1 vr.2.1 vr.2.2) ∧ z.cell? ⟨g, off + j, none⟩ = some (.slice m.1.1 m.1.2.1 m.1.2.2)) := ⟨_, fun _ => Iff.rfl⟩
            have s0 := fun s : {z : World // C z} => ((hCd s.1).1 s.2).1
            have s1 := fun s : {z : World // C z} => ((hCd s.1).1 s.2).2
            have hC0 := (hCd wr.drew).2 ⟨y0, m0⟩
            haveI : Nonempty {z : World // C z} := ⟨⟨wr.drew, hC0⟩⟩
            refine Mix.wp_region_mix C [9, 10, 12] (by kernel_rfl) (by kernel_rfl) hC0 ?_
            have HCD := Lib.hid hCd
            clear hCd hC0
            repeat (refine Mix.mix_still rfl (fun K hK => ?_); go_simp; refine hK _ ?_; clear hK K)
            refine Mix.mix_eff rfl ?_
            refine wpList_build1 _ rfl (.tmp 48) 23 41 rfl #[.int .i64 (1000 + (j : Int)), .int .i64 2, .int .i64 0, .int .i64 0, .slice m.1.1 m.1.2.1 m.1.2.2] rfl (build41 _ _ _ _ _ _) ?_
            obtain ⟨W6, hW6⟩ : ∃ W6, W6 = wr.drew.alloc (.cells #[.int .i64 (1000 + (j : Int)), .int .i64 2, .int .i64 0, .int .i64 0, .slice m.1.1 m.1.2.1 m.1.2.2] 41) := ⟨_, rfl⟩
            have hn6 : W6.heap[wr.heap.size]? = some (.cells #[.int .i64 (1000 + (j : Int)), .int .i64 2, .int .i64 0, .int .i64 0, .slice m.1.1 m.1.2.1 m.1.2.2] 41 (0, 0)) := by rw [hW6]; exact alloc_new wr.drew _
            have hb6 : Below wr.heap.size wr W6 := by rw [hW6]; exact ((Below.refl wr.heap.size wr).drew).alloc (Nat.le_refl _) _
            have hk6 : ∀ {a : Addr} {v : Value}, wr.cell? a = some v → W6.cell? a = some v := fun hx => (hb6.cell (lt_of_cell hx)).trans hx
            rw [← hW6]
            refine wpList_nil ⟨rfl, .inr ((HCD.out W6).2 ⟨hk6 y0, hk6 m0⟩), ?_⟩
            refine Mix.mix_eff rfl ?_
            obtain ⟨i0, hi, hz0, hz1, hz2⟩ := info_parts infoC41
            have hr6 : W6.ownsRow w.heap.size 41 5 (slv vr) j ((List.range j).flatMap fun i => reqC (lineRq (msV ms) i)) := own_keep HROW.out fun k _ hl => hb6.block k hl
            have hlo : w.heap.size ≤ W6.heap.size := Nat.le_trans HG.out.below.size hb6.size
            have h40 := HN.out
            refine wpList_append_any _ rfl _ _ 23 rfl w.heap.size 41 i0 (.agg #[.int .i64 0, .int .i64 0, .int .i64 0, .int .i64 0, .slice none 0 0]) 5 56 Try.underlying23 hi hz0 hz1 hz2 rfl (by decide) (slv vr) j _ rfl hr6 W6.heap.size (some ⟨wr.heap.size, 0, none⟩) 1 1 [.int .i64 (1000 + (j : Int)), .int .i64 2, .int .i64 0, .int .i64 0, .slice m.1.1 m.1.2.1 m.1.2.2] rfl ?rd ?one (by unfold maxLen; omega) (by omega) hlo ?_
            case rd => exact ⟨rfl, fun _ => ⟨_, rfl, blt hn6, fun i u hu => by rw [Addr.add_lit, Nat.zero_add, cell_of hn6]; simpa using hu⟩⟩
            case one =>
              intro u hu
              simp at hu
              rcases hu with rfl | rfl | rfl | rfl | rfl <;> rfl
            intro v' w7 hrow7 hgrow7 hloc7
            obtain ⟨A7, c7, rfl⟩ := own_form hrow7
            have hkw : ∀ {k : Nat} {cur : Array Value} {ty : TypeId}, wr.heap[k]? = some (.cells cur ty (0, 0)) → ty ≠ 41 → w7.heap[k]? = some (.cells cur ty (0, 0)) := fun hc ht => (hgrow7.block _ (Nat.lt_of_lt_of_le (blt hc) hb6.size) fun e => own_ty HROW.out hc ht e.symm).trans ((hb6.block _ (blt hc)).trans hc)
            have hbl7 : Below w.heap.size wr w7 := (hb6.mono HG.out.below.size).grown hgrow7 hlo (fun k hk => (own_block HROW.out hk).1)
            have hpc7 := hkw HPC.out (by decide)
            have q0 : w7.cell? ⟨w.heap.size, 0, none⟩ = some (.slice vr.1 vr.2.1 vr.2.2) := (cell_of hpc7 0).trans rfl
            have qf : w7.frozen? ⟨w.heap.size, 0, none⟩ = false := free_of hpc7 0
            have q1 : w7.cell? ⟨g, off + j, none⟩ = some (.slice m.1.1 m.1.2.1 m.1.2.2) := (hbl7.cell (p := ⟨g, off + j, none⟩) hg).trans m0
            have hwant : w7.ownsRow w.heap.size 39 1 u6 (min j ms.length) ((ms.take j).map fun m => slv m.1) := own_keep HG.out.want fun k hk hl => by
              obtain ⟨_, cur, hc⟩ := own_block HG.out.want hk
              exact (hkw hc (by decide)).trans hc.symm
            refine wpList_nil ⟨rfl, .inr ((HCD.out _).2 ⟨q0, q1⟩), ?_⟩
            have HROW7 := Lib.hid hrow7
            have HBL7 := Lib.hid hbl7
            have HPC7 := Lib.hid hpc7
            have HW7 := Lib.hid hwant
            clear hrow7 hgrow7 hloc7 hkw hbl7 hpc7 hwant hr6 hn6 hb6 hk6 hW6 hlo y0 hi hz0 hz1 hz2
            repeat (refine Mix.mix_still rfl (fun K hK => ?_); go_simp; refine hK _ ?_; clear hK K)
            refine Mix.mix_eff rfl ?_
            go_wp2_with fail
            refine Mix.mix_nil ?_
            go_upto_region 11 with (fail)
            obtain ⟨W8, hW8⟩ : ∃ W8, W8 = w7.setCell ⟨w.heap.size, 0, none⟩ (.slice A7 (j + 1) c7) := ⟨_, rfl⟩
            rw [← hW8]
            have hpc8 : W8.heap[w.heap.size]? = some (.cells #[.slice A7 (j + 1) c7, nilSl, nilSl] 26 (0, 0)) := by
              rw [hW8]
              have := set_same HPC7.out 0 (.slice A7 (j + 1) c7)
              simpa using this
            have hk8 : ∀ k, k ≠ w.heap.size → W8.heap[k]? = w7.heap[k]? := fun k hk => by rw [hW8]; exact Below.heap_setCell w7 _ _ _ hk
            have hb8 : Below w.heap.size w W8 := by
              rw [hW8]
              exact Below.setCell (B := w.heap.size) (p := ⟨w.heap.size, 0, none⟩) (HG.out.below.trans HBL7.out) (Nat.le_refl _) _
            have hrow8 : W8.ownsRow w.heap.size 41 5 (.slice A7 (j + 1) c7) (j + 1) _ := own_keep HROW7.out fun k hk _ => hk8 k fun e => own_ty HROW7.out HPC7.out (by decide) (e ▸ hk)
            have hw8 := own_keep (w' := W8) HW7.out fun k hk _ => hk8 k fun e => own_ty HW7.out HPC7.out (by decide) (e ▸ hk)
            have m8 : W8.cell? ⟨g, off + j, none⟩ = some (.slice m.1.1 m.1.2.1 m.1.2.2) := (hb8.cell (p := ⟨g, off + j, none⟩) hg).trans ((HG.out.below.cell (p := ⟨g, off + j, none⟩) hg).symm.trans m0)
            have HPC8 := Lib.hid hpc8
            have HB8 := Lib.hid hb8
            have HROW8 := Lib.hid hrow8
            have HW8 := Lib.hid hw8
            clear hpc8 hk8 hb8 hrow8 hw8 hW8 q0 qf q1 m0
            obtain ⟨i1, hi1, hy0, hy1, hy2⟩ := info_parts info39
            go_wp2_with (at_builtin; refine wpList_append_any _ rfl _ _ 52 rfl w.heap.size 39 i1 (.slice none 0 0) 1 24 Try.underlying52 hi1 hy0 hy1 hy2 rfl (by decide) _ (min j ms.length) _ rfl (own_keep HW8.out fun k _ hl => Below.heap_alloc _ _ _ hl) _ (some ⟨_, 0, none⟩) 1 1 [.slice m.1.1 m.1.2.1 m.1.2.2] rfl (new_reads _ _ _) (fun u hu => by simp at hu; subst hu; rfl) (by unfold maxLen; omega) (by omega) (by rw [World.size_alloc]; have := HB8.out.size; omega) ?_; intro v9 w9 hrow9 hgrow9 hloc9; have HROW9 := Lib.hid hrow9; have HGROW9 := Lib.hid hgrow9; clear hrow9 hgrow9 hloc9)
            case roundEnd =>
              have e : wrap64 ((j : Int) + 1) = ((j + 1 : Nat) : Int) := by
                have := HN.out
                unfold wrap64; omega
              have hk9 : ∀ {k : Nat} {cur : Array Value} {ty : TypeId}, W8.heap[k]? = some (.cells cur ty (0, 0)) → ty ≠ 39 → w9.heap[k]? = some (.cells cur ty (0, 0)) := fun hc ht => (HGROW9.out.block _ (by rw [World.size_alloc]; have := blt hc; omega) fun e => own_ty HW8.out hc ht e.symm).trans (alloc_old hc _)
              have hlr : lineRq (msV ms) j = (1000 + (j : Int), 2, 0, 0, m.1) := by
                have h1 : (msV ms)[j]? = some (m.1, bytes m.2) := by rw [msV, List.getElem?_map, HM.out]; rfl
                unfold lineRq
                rw [h1]
              refine ⟨⟨j + 1, hlt, by simp, ⟨⟨(A7, j + 1, c7), hk9 HPC8.out (by decide), ?_⟩, ?_, ?_, ?_⟩⟩, ?_⟩
              · rw [List.range_succ, List.flatMap_append, List.flatMap_singleton, hlr]
                exact own_keep HROW8.out fun k hk _ => by
                  obtain ⟨_, cur, hc⟩ := own_block HROW8.out hk
                  exact (hk9 hc (by decide)).trans hc.symm
              · rw [List.take_add_one, HM.out, show min (j + 1) ms.length = min j ms.length + 1 by omega]
                simpa using HROW9.out
              · intro x hx
                rw [List.take_add_one, HM.out] at hx
                rcases List.mem_append.1 hx with hx | hx
                · exact HG.out.small x hx
                · simp at hx
                  subst hx
                  have := H64.out
                  omega
              · refine ((HB8.out.alloc HB8.out.size _).grown HGROW9.out (by rw [World.size_alloc]; have := HB8.out.size; omega) fun k hk => (own_block HW8.out hk).1)
              · show ms.length - (j + 1) < ms.length - j
                omega
    · as_aux_lemma =>
        have hjn : j = ms.length := by omega
        subst hjn
        have hd : decide ((ms.length : Int) < (ms.length : Int)) = false := by simp
        have HG := Lib.hid hG
        clear hG
        go_wp2_with fail
        go_loopw [8] (fun i wx => ∃ r : Nat, r ≤ rc ∧ i = .int .i64 r ∧ PlanG w wx ms (ms.length + r) u6) (fun i _ => rc - (intOf i).toNat)
        case atStart => exact ⟨0, Nat.zero_le _, rfl, HG.out⟩
        case round =>
          clear hd
          obtain ⟨r, hr, rfl, hG⟩ := hrel
          by_cases hlr : r < rc
          · as_aux_lemma =>
              have hd : decide ((r : Int) < (rc : Int)) = true := by simpa using hlr
              obtain ⟨vr, hpc, hrow⟩ := hG.plan
              have y0 : wr.cell? ⟨w.heap.size, 0, none⟩ = some (.slice vr.1 vr.2.1 vr.2.2) := (cell_of hpc 0).trans rfl
              have HG1 := Lib.hid hG
              have HPC := Lib.hid hpc
              have HROW := Lib.hid hrow
              clear hG hpc hrow
              obtain ⟨i0, hi, hz0, hz1, hz2⟩ := info_parts infoC41
              go_wp2_with (first | (refine wpList_build1 _ rfl (.tmp 67) 23 41 rfl #[.int .i64 (r : Int), .int .i64 1, .int .i64 0, .int .i64 0, .slice none 0 0] rfl (build41 _ _ _ _ _ _) ?_) | (at_builtin; refine wpList_append_any _ rfl _ _ 23 rfl w.heap.size 41 i0 (.agg #[.int .i64 0, .int .i64 0, .int .i64 0, .int .i64 0, .slice none 0 0]) 5 56 Try.underlying23 hi hz0 hz1 hz2 rfl (by decide) (slv vr) (ms.length + r) _ rfl (own_keep HROW.out fun k _ hl => Below.heap_alloc _ _ _ hl) _ (some ⟨_, 0, none⟩) 1 1 [.int .i64 (r : Int), .int .i64 1, .int .i64 0, .int .i64 0, .slice none 0 0] rfl (new_reads5 _ _ _ _ _ _ _) (one5 _ _ _ _ (none, 0, 0)) (by have := HN.out; have := HRC.out; unfold maxLen; omega) (by have := HN.out; have := HRC.out; omega) (by rw [World.size_alloc]; have := HG1.out.below.size; omega) ?_; intro v9 w9 hrow9 hgrow9 hloc9; (obtain ⟨A9, c9, rfl⟩ := own_form hrow9); have hpc9 := (hgrow9.block _ (by rw [World.size_alloc]; have := blt HPC.out; omega) (fun e => own_ty HROW.out HPC.out (by decide) e.symm)).trans (alloc_old HPC.out _); have q0 : w9.cell? ⟨w.heap.size, 0, none⟩ = some (.slice vr.1 vr.2.1 vr.2.2) := (cell_of hpc9 0).trans rfl; have qf : w9.frozen? ⟨w.heap.size, 0, none⟩ = false := free_of hpc9 0; have HROW9 := Lib.hid hrow9; have HGROW9 := Lib.hid hgrow9; clear hrow9 hgrow9 hloc9 hpc9))
              case roundEnd =>
                have e : wrap64 ((r : Int) + 1) = ((r + 1 : Nat) : Int) := by
                  have := HRC.out
                  unfold wrap64; omega
                refine ⟨⟨r + 1, hlr, by rw [e], HG1.out.recv HPC.out HROW.out HGROW9.out HROW9.out⟩, ?_⟩
                rw [e]
                show rc - (r + 1) < rc - r
                omega
          · as_aux_lemma =>
              have hrn : r = rc := by omega
              subst hrn
              have hd : decide ((r : Int) < (r : Int)) = false := by simp
              have HG2 := Lib.hid hG.all
              have HN' : Lib.hid hG = Lib.hid hG := rfl
              clear hG HN' HG
              go_wp2_with fail
              go_loopw [9] (fun i wx => ∃ j : Nat, j ≤ ms.length + r ∧ i = .int .i64 j ∧ ∃ vr vd vt, PlanE w wx ms (ms.length + r) j j u6 vr vd vt) (fun i _ => ms.length + r - (intOf i).toNat)
              case atStart =>
                obtain ⟨vr, h⟩ := HG2.out
                exact ⟨0, Nat.zero_le _, rfl, vr, _, _, h⟩
              case round =>
                clear hd HG2
                obtain ⟨j, hj, rfl, vr, vd, vt, hE⟩ := hrel
                obtain ⟨Ar, nr, e1⟩ := own_form hE.r
                obtain ⟨Ad, nd, e2⟩ := own_form hE.d
                obtain ⟨At, nt, e3⟩ := own_form hE.t
                obtain ⟨vr1, vr2, vr3⟩ := vr
                obtain ⟨vd1, vd2, vd3⟩ := vd
                obtain ⟨vt1, vt2, vt3⟩ := vt
                obtain rfl : vr2 = ms.length + r := by injection e1
                obtain rfl : j = vd2 := (by injection e2 : vd2 = j).symm
                obtain rfl : j = vt2 := (by injection e3 : vt2 = j).symm
                clear e1 e2 e3
                have y0 : wr.cell? ⟨w.heap.size, 0, none⟩ = some (.slice vr1 (ms.length + r) vr3) := (cell_of hE.pc 0).trans rfl
                by_cases hlj : j < ms.length + r
                · as_aux_lemma =>
                    have hd : decide ((j : Int) < ((ms.length + r : Nat) : Int)) = true := by simp; omega
                    have y1 : wr.cell? ⟨w.heap.size, 1, none⟩ = some (.slice vd1 j vd3) := (cell_of hE.pc 1).trans rfl
                    have HE := Lib.hid hE
                    clear hE
                    obtain ⟨i0, hi, hz0, hz1, hz2⟩ := info_parts info3
                    go_upto_region 20 with (at_builtin; refine wpList_append_any _ rfl _ _ 24 rfl w.heap.size 3 i0 (.int .i64 0) 1 8 Try.underlying24 hi hz0 hz1 hz2 rfl (by decide) (slv (vd1, j, vd3)) j _ rfl (own_keep HE.out.d fun k _ hl => Below.heap_alloc _ _ _ hl) _ (some ⟨_, 0, none⟩) 1 1 [.int .i64 1] rfl (new_reads _ _ _) (fun u hu => by simp at hu; subst hu; rfl) (by have := HN.out; have := HRC.out; unfold maxLen; omega) (by have := HN.out; have := HRC.out; omega) (by rw [World.size_alloc]; have := HE.out.below.size; omega) ?_; intro v9 w9 hrow9 hgrow9 hloc9; (obtain ⟨A9, c9, rfl⟩ := own_form hrow9); have hpc9 := (HE.out.keepd (.inl rfl) hgrow9 fun g hg => own_block HE.out.d hg).2.1; have q1 : w9.cell? ⟨w.heap.size, 1, none⟩ = some (.slice vd1 j vd3) := (cell_of hpc9 1).trans rfl; have qf : w9.frozen? ⟨w.heap.size, 1, none⟩ = false := free_of hpc9 1; have HE9 := Lib.hid (HE.out.addd hgrow9 hrow9 hloc9); clear hrow9 hgrow9 hloc9 hpc9)
                    obtain ⟨W10, hW10⟩ : ∃ W10, W10 = w9.setCell ⟨w.heap.size, 1, none⟩ (.slice A9 (j + 1) c9) := ⟨_, rfl⟩
                    rw [← hW10]
                    have hE10 := HE9.out
                    rw [← hW10] at hE10
                    have y2 : W10.cell? ⟨w.heap.size, 2, none⟩ = some (.slice vt1 j vt3) := (cell_of hE10.pc 2).trans rfl
                    have HE10 := Lib.hid hE10
                    clear hE10 HE9 hW10 y0 y1 q1 qf HE
                    have k3 : wrap64 ((j : Int) / 3) = ((j / 3 : Nat) : Int) := by
                      have := HN.out
                      have := HRC.out
                      unfold wrap64; omega
                    have K3 := Lib.hid k3
                    clear k3
                    go_wp2_with (at_builtin; rw [K3.out]; refine wpList_append_any _ rfl _ _ 24 rfl w.heap.size 3 i0 (.int .i64 0) 1 8 Try.underlying24 hi hz0 hz1 hz2 rfl (by decide) (slv (vt1, j, vt3)) j _ rfl (own_keep HE10.out.t fun k _ hl => Below.heap_alloc _ _ _ hl) _ (some ⟨_, 0, none⟩) 1 1 [.int .i64 ((j / 3 : Nat) : Int)] rfl (new_reads _ _ _) (fun u hu => by simp at hu; subst hu; rfl) (by have := HN.out; have := HRC.out; unfold maxLen; omega) (by have := HN.out; have := HRC.out; omega) (by rw [World.size_alloc]; have := HE10.out.below.size; omega) ?_; intro v9 w9 hrow9 hgrow9 hloc9; (obtain ⟨A11, c11, rfl⟩ := own_form hrow9); have hpc9 := (HE10.out.keepd (.inr rfl) hgrow9 fun g hg => own_block HE10.out.t hg).2.1; have q2 : w9.cell? ⟨w.heap.size, 2, none⟩ = some (.slice vt1 j vt3) := (cell_of hpc9 2).trans rfl; have qf : w9.frozen? ⟨w.heap.size, 2, none⟩ = false := free_of hpc9 2; have HE11 := Lib.hid (HE10.out.addt hgrow9 hrow9 hloc9); clear hrow9 hgrow9 hloc9 hpc9)
                    case roundEnd =>
                      have e : wrap64 ((j : Int) + 1) = ((j + 1 : Nat) : Int) := by
                        have := HN.out
                        have := HRC.out
                        unfold wrap64; omega
                      refine ⟨⟨j + 1, hlj, by rw [e], _, _, _, HE11.out⟩, ?_⟩
                      rw [e]
                      show ms.length + r - (j + 1) < ms.length + r - j
                      omega
                · as_aux_lemma =>
                    obtain rfl : ms.length + r = j := by omega
                    have hd : decide (((ms.length + r : Nat) : Int) < ((ms.length + r : Nat) : Int)) = false := by simp
                    have y1 : wr.cell? ⟨w.heap.size, 1, none⟩ = some (.slice vd1 (ms.length + r) vd3) := (cell_of hE.pc 1).trans rfl
                    have y2 : wr.cell? ⟨w.heap.size, 2, none⟩ = some (.slice vt1 (ms.length + r) vt3) := (cell_of hE.pc 2).trans rfl
                    obtain ⟨Aw, cw, rfl⟩ := own_form hE.want
                    have C17 := Lib.hid (lines_call hE (by have := HN.out; have := HRC.out; omega) HH.out)
                    have z0 := Lib.cell?_alloc_some (.cells #[.int .i64 4, .int .i64 0, nilSl, nilSl, nilSl, nilSl] 54) y0
                    have z1 := Lib.cell?_alloc_some (.cells #[.int .i64 4, .int .i64 0, nilSl, nilSl, nilSl, nilSl] 54) y1
                    have z2 := Lib.cell?_alloc_some (.cells #[.int .i64 4, .int .i64 0, nilSl, nilSl, nilSl, nilSl] 54) y2
                    have HE := Lib.hid hE
                    clear hE
                    go_wp2_with (first | (refine wpList_build1 _ rfl (.tmp 91) 22 54 rfl #[.int .i64 4, .int .i64 0, nilSl, nilSl, nilSl, nilSl] rfl (build54 _ _ _) ?_) | (go_at_call 17; (with_reducible refine (C17.out).mono ?_); rintro e w5 ⟨Av, cv, rs, L, b, bm, B5, rfl, hgot, hb5⟩; have HGOT := Lib.hid hgot; have HB5 := Lib.hid hb5; clear hgot hb5))
                    have hwant5 : w5.ownsRow w.heap.size 39 1 (.slice Aw ms.length cw) ms.length (ms.map fun m => slv m.1) := own_keep HE.out.want fun k hk hl => HB5.out.block k hl
                    have hb0 : Below w.heap.size w w5 := HE.out.below.trans (HB5.out.mono HE.out.below.size)
                    have HW5 := Lib.hid hwant5
                    have HB0 := Lib.hid hb0
                    clear hwant5 hb0 C17 y0 y1 y2 z0 z1 z2 hd
                    go_loopw [13, 14] (fun got i wx => ∃ a : Nat, a ≤ rs.length ∧ i = .int .i64 a ∧ got = .int .i64 (((L.take a).filter isRec).length : Nat) ∧ ∃ q, wx = w5.drewN q) (fun _ i _ => rs.length - (intOf i).toNat)
                    case atStart => exact ⟨0, Nat.zero_le _, rfl, rfl, 0, rfl⟩
                    case round =>
                      obtain ⟨a, ha, rfl, rfl, q, rfl⟩ := hrel
                      by_cases hla : a < rs.length
                      · as_aux_lemma =>
                          have hd : decide ((a : Int) < (rs.length : Int)) = true := by simpa using hla
                          have hL40 : rs.length ≤ 200 := by
                            have h1 := HGOT.out.ans.1
                            have h2 := HGOT.out.len
                            have h3 := HN.out
                            have h4 := HRC.out
                            omega
                          have HL40 := Lib.hid hL40
                          have HLA := Lib.hid hla
                          obtain ⟨x, hx⟩ : ∃ x, rs[a]? = some x := ⟨_, List.getElem?_eq_getElem hla⟩
                          obtain ⟨o, ho⟩ : ∃ o, L[a]? = some o := ⟨_, List.getElem?_eq_getElem (by rw [← HGOT.out.ans.1]; exact hla)⟩
                          obtain ⟨g, c', hv, _, hcell⟩ := row_cells (f := encO) (fun _ => rfl) HGOT.out.row hx
                          obtain rfl : Av = some ⟨g, 0, none⟩ := by injection hv
                          obtain ⟨p1, p2, p3, p4, p5⟩ := HGOT.out.ans.2 a x o hx ho
                          have x0 : (w5.drewN q).cell? ⟨g, a * 4, none⟩ = some (.int .i64 o.1.pk) := (hcell 0 (by omega)).trans (by rw [← p1]; rfl)
                          have x2 : (w5.drewN q).cell? ⟨g, a * 4 + 2, none⟩ = some (.int .i64 o.2.2.1) := (hcell 2 (by omega)).trans (by rw [← p3]; rfl)
                          have x3 : (w5.drewN q).cell? ⟨g, a * 4 + 3, none⟩ = some (.slice x.dv.1 x.dv.2.1 x.dv.2.2) := (hcell 3 (by omega)).trans rfl
                          have hstep := rec_step ho
                          have hw64 : wrap64 ((a : Int) + 1) = ((a + 1 : Nat) : Int) := by unfold wrap64; omega
                          have HW64 := Lib.hid hw64
                          by_cases hr : isRec o = true
                          · as_aux_lemma =>
                              obtain ⟨m', hm', hlt, hpk, hres, hdata⟩ := rec_at HGOT.out.recs ho hr
                              rw [if_pos hr] at hstep
                              have HSTEP := Lib.hid hstep
                              clear hstep hw64 hv hcell p1 p2 p3 p4 hL40
                              generalize ((L.take a).filter isRec).length = G at *
                              obtain ⟨m, hm, rfl⟩ : ∃ m, ms[G]? = some m ∧ m' = (m.1, bytes m.2) := by
                                rw [msV, List.getElem?_map] at hm'
                                cases hmm : ms[G]? with
                                | none => rw [hmm] at hm'; cases hm'
                                | some m => rw [hmm] at hm'; exact ⟨m, rfl, by injection hm' with hm'; exact hm'.symm⟩
                              have hGl : G < ms.length := (List.getElem?_eq_some_iff.1 hm).1
                              obtain ⟨g', cap, hv', _, _, _, cur, _, _, _, hcc⟩ := own_cell HW5.out (by omega)
                              obtain rfl : Aw = some ⟨g', 0, none⟩ := by injection hv'
                              have hheld := HH.out m (List.mem_of_getElem? hm)
                              have hml : m.1.2.1 = m.2.length := by rw [← hheld.1]; simp [bytes]
                              have t0 : (w5.drewN q).cell? ⟨g', G, none⟩ = some (.slice m.1.1 m.1.2.1 m.1.2.2) := (hcc G hGl).trans (by rw [List.getElem?_map, hm]; rfl)
                              have hmn : m.2.length ≤ 64 := HE.out.small m (List.mem_of_getElem? hm)
                              rw [hpk] at x0
                              rw [hres, show ((bytes m.2).length : Int) = (m.1.2.1 : Int) by rw [hml]; simp [bytes]] at x2
                              have hdata' : o.2.2.2 = bytes m.2 := hdata
                              rw [hdata'] at p5
                              have y0 : w5.cell? ⟨g, a * 4, none⟩ = some (.int .i64 (G : Int)) := x0
                              have y2 : w5.cell? ⟨g, a * 4 + 2, none⟩ = some (.int .i64 (m.1.2.1 : Int)) := x2
                              have y3 : w5.cell? ⟨g, a * 4 + 3, none⟩ = some (.slice x.dv.1 x.dv.2.1 x.dv.2.2) := x3
                              have y5 : w5.cell? ⟨g', G, none⟩ = some (.slice m.1.1 m.1.2.1 m.1.2.2) := t0
                              have d1 : decide (1000 ≤ (G : Int)) = false := by have := HN.out; simp; omega
                              have d2 : decide ((ms.length : Int) ≤ (G : Int)) = false := by simp; omega
                              have C21 := Lib.hid (fun k => eq_bytes (w5.drewN k) (max B5 w.heap.size) x.dv m.1 m.2 ((p5.more (Nat.le_max_left _ _)).keep fun _ _ _ => rfl) (((hheld.below HB0.out).more (Nat.le_max_right _ _)).keep fun _ _ _ => rfl) (by omega))
                              clear hdata' hheld hcc hpk hres hdata p5 hml hm hm' hx ho hv' hr hmn
                              go_upto_region 29 with (fail)
                              go_quiet (((refine (C21.out _).mono ?_); (rintro e w' ⟨he, k, hk⟩; rw [hk, World.drewN_drewN, Nat.add_assoc]; exact ⟨he, _, rfl⟩)))
                              go_wp2_with fail
                              case roundEnd =>
                                have e2 : wrap64 ((G : Int) + 1) = ((G + 1 : Nat) : Int) := by
                                  have := HN.out
                                  unfold wrap64; omega
                                refine ⟨⟨a + 1, HLA.out, by rw [HW64.out], by rw [HSTEP.out, e2], _, rfl⟩, ?_⟩
                                rw [HW64.out]
                                show rs.length - (a + 1) < rs.length - a
                                have := HLA.out
                                omega
                          · as_aux_lemma =>
                              have hpk := HGOT.out.sends o (List.mem_of_getElem? ho) (by simpa using hr)
                              rw [if_neg hr] at hstep
                              have d1 : decide (1000 ≤ o.1.pk) = true := by simpa using hpk
                              have HSTEP := Lib.hid hstep
                              clear hstep hw64 hv hcell p1 p2 p3 p4 hL40 hpk hx ho hr
                              generalize ((L.take a).filter isRec).length = G at *
                              go_wp2_with fail
                              case roundEnd =>
                                refine ⟨⟨a + 1, HLA.out, by rw [HW64.out], by rw [HSTEP.out, Nat.add_zero], _, rfl⟩, ?_⟩
                                rw [HW64.out]
                                show rs.length - (a + 1) < rs.length - a
                                have := HLA.out
                                omega
                      · as_aux_lemma =>
                          have han : a = rs.length := by omega
                          have hL : L.take a = L := by rw [han, HGOT.out.ans.1, List.take_length]
                          rw [hL]
                          subst han
                          have hd : decide ((rs.length : Int) < (rs.length : Int)) = false := by simp
                          have hml : (msV ms).length = ms.length := by simp [msV]
                          have hcnt := rec_count HGOT.out.recs
                          rw [hml, show ms.length + r - ms.length = r by omega] at hcnt
                          have hlen := HGOT.out.len
                          rw [show ms.length + r - ms.length = r by omega] at hlen
                          have hN := HN.out
                          have hRC := HRC.out
                          rw [hcnt]
                          obtain ⟨G, hG⟩ : ∃ G, G = min r ms.length := ⟨_, rfl⟩
                          have g1 : ((min r ms.length : Nat) : Int) = (G : Int) := by rw [hG]
                          have g2 : min (r : Int) (ms.length : Int) = (G : Int) := by omega
                          have g3 : IntKind.i64.wrap ((r : Int) - (G : Int)) = (r : Int) - (G : Int) := by rw [IntKind.wrap_i64]; omega
                          rw [g1]
                          have C20 := Lib.hid (pending_any (w5.drewN q) B5 b bm (HGOT.out.bus.keep fun _ _ _ => rfl) (by rw [HGOT.out.sent]; omega) (by rw [HGOT.out.told]; omega))
                          rw [show bm.sent - bm.told = (r : Int) - (G : Int) by rw [HGOT.out.sent, HGOT.out.told]; omega] at C20
                          clear hL hml hcnt hlen hN hRC hG g1
                          go_wp2_with (first | (go_at_call 20; (with_reducible refine (C20.out).mono ?_); rintro e w6 ⟨rfl, q', rfl⟩) | (go_at_call 12; (with_reducible refine (C12.out _).mono ?_); rintro e w7 ⟨rfl, hb7⟩; have HB7 := Lib.hid hb7; clear hb7))
                          go_ret
                          exact ⟨rfl, (below_drewN HB0.out _).trans (HB7.out.mono HB0.out.size)⟩
end Go.Proofs.Ytkdnkjjnmadhgaa.Dev
