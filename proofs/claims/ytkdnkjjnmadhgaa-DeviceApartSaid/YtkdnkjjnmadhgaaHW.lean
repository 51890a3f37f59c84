import Derived.Test.YtkdnkjjnmadhgaaFS
import Derived.Test.YtkdnkjjnmadhgaaDG
import Derived.Test.YtkdnkjjnmadhgaaHV
set_option linter.unusedVariables false
set_option linter.unusedSimpArgs false
/-! Replies that are the same (eqReplies). -/
namespace Go.Proofs.Ytkdnkjjnmadhgaa.Dev
open Go.RowKit Go.Maps Go.Lib

/-- A reply, without memory: packet, time, result, data. -/
abbrev Pr := Int × Int × Int × List Int
def InRep (B : Nat) (w : World) (g o : Nat) (r : Pr) : Prop := w.cell? ⟨g, o, none⟩ = some (.int .i64 r.1) ∧ w.cell? ⟨g, o + 1, none⟩ = some (.int .i64 r.2.1) ∧ w.cell? ⟨g, o + 2, none⟩ = some (.int .i64 r.2.2.1) ∧ ∃ dv : Sl, w.cell? ⟨g, o + 3, none⟩ = some (slv dv) ∧ Held B 5 w dv (bytes r.2.2.2) ∧ r.2.2.2.length ≤ 100000
def InReps (B : Nat) (w : World) (A : Option Addr) (rs : List Pr) : Prop := 0 < rs.length → ∃ g off, A = some ⟨g, off, none⟩ ∧ ∀ j r, rs[j]? = some r → InRep B w g (off + j * 4) r
set_option maxHeartbeats 2000000 in
set_option maxRecDepth 100000 in
theorem eq_replies (w : World) (B : Nat) (A1 A2 : Option Addr) (c1 c2 : Nat) (rs : List Pr) (h1 : InReps B w A1 rs) (h2 : InReps B w A2 rs) (hn : rs.length ≤ 100000) :
    Calls Try.prog 16 #[.slice A1 rs.length c1, .slice A2 rs.length c2] w fun e w' => e = .returned (.bool true) ∧ ∃ q, w' = w.drewN q := by
  have H1 := Lib.hid h1
  have H2 := Lib.hid h2
  have HN := Lib.hid hn
  clear h1 h2 hn
  go_enter Try.func16, Try.ntmps16
  have hne : (((rs.length : Int)) != (rs.length : Int)) = false := by simp
  go_wp2_with fail
  go_loopw [5] (fun i wr => ∃ j : Nat, j ≤ rs.length ∧ i = .int .i64 j ∧ ∃ q, wr = w.drewN q) (fun i _ => rs.length - (intOf i).toNat)
  case atStart => exact ⟨0, Nat.zero_le _, rfl, 0, rfl⟩
  case round =>
    obtain ⟨j, hj, rfl, q, rfl⟩ := hrel
    by_cases hlt : j < rs.length
    · as_aux_lemma =>
        have hd : decide ((j : Int) < (rs.length : Int)) = true := by simpa using hlt
        obtain ⟨r, hr⟩ : ∃ r, rs[j]? = some r := ⟨_, List.getElem?_eq_getElem hlt⟩
        obtain ⟨g, off, rfl, hc1⟩ := H1.out (by omega)
        obtain ⟨g', off', rfl, hc2⟩ := H2.out (by omega)
        obtain ⟨a0, a1, a2, dv1, a3, ha, hl⟩ := hc1 j r hr
        obtain ⟨b0, b1, b2, dv2, b3, hb, _⟩ := hc2 j r hr
        obtain ⟨pk, t, res, data⟩ := r
        dsimp only at a0 a1 a2 b0 b1 b2 ha hb hl
        have n1 : (pk != pk) = false := by simp
        have n2 : (t != t) = false := by simp
        have n3 : (res != res) = false := by simp
        have C21 := Lib.hid (fun m => eq_bytes (w.drewN m) B dv1 dv2 data (ha.below (below_drewN (Below.refl _ _) m)) (hb.below (below_drewN (Below.refl _ _) m)) hl)
        clear hc1 hc2 hr ha hb hl
        go_upto_region 6 with (fail)
        go_quiet (((refine (C21.out _).mono ?_); (rintro e w' ⟨he, k, hk⟩; rw [hk, World.drewN_drewN, Nat.add_assoc]; exact ⟨he, _, rfl⟩)))
        go_wp2_with fail
        case roundEnd =>
          have e : wrap64 ((j : Int) + 1) = ((j + 1 : Nat) : Int) := by
            have := HN.out
            unfold wrap64; omega
          refine ⟨⟨j + 1, hlt, by first | rw [e] | rfl, _, rfl⟩, ?_⟩
          first | rw [e] | skip
          show rs.length - (j + 1) < rs.length - j
          omega
    · as_aux_lemma =>
        have hjn : j = rs.length := by omega
        subst hjn
        have hd : decide ((rs.length : Int) < (rs.length : Int)) = false := by simp
        clear hlt
        go_wp2_with fail
        go_ret
        exact ⟨rfl, q, rfl⟩
end Go.Proofs.Ytkdnkjjnmadhgaa.Dev
/-! DeviceApart (f4): the plans in memory. -/
namespace Go.Proofs.Ytkdnkjjnmadhgaa.Dev
open Go.RowKit Go.Maps Go.Lib

theorem info_r41 : (Try.prog.info? 41).map (fun i => (i.zero, i.size, i.bytes)) = some (some (.agg #[.int .i64 0, .int .i64 0, .int .i64 0, .int .i64 0, .slice none 0 0]), 5, 56) := by kernel_rfl
set_option maxRecDepth 100000 in
theorem build_r41 (w : World) (a b c d e : Value) : (Instr.buildSlice 23 1 #[(0, .agg #[a, b, c, d, e])]).run Try.prog w = .ok (.slice (some ⟨w.heap.size, 0, none⟩) 1 1) (w.alloc (.cells #[a, b, c, d, e] 41)) := by
  go_simp
set_option maxRecDepth 100000 in
theorem build_o46 (w : World) (a b c d : Value) : (Instr.buildSlice 30 1 #[(0, .agg #[a, b, c, d])]).run Try.prog w = .ok (.slice (some ⟨w.heap.size, 0, none⟩) 1 1) (w.alloc (.cells #[a, b, c, d] 46)) := by
  go_simp
theorem reads_r5 (w : World) (a b c d e : Value) (t : TypeId) : Reads (w.alloc (.cells #[a, b, c, d, e] t)) (w.heap.size + 1) 5 (some ⟨w.heap.size, 0, none⟩) 1 [a, b, c, d, e] :=
  ⟨rfl, fun _ => ⟨_, rfl, Nat.lt_succ_self _, fun i u hu => by rw [Addr.add_lit, Nat.zero_add, cell_of (alloc_new w _)]; simpa using hu⟩⟩
theorem reads_o4 (w : World) (a b c d : Value) (t : TypeId) : Reads (w.alloc (.cells #[a, b, c, d] t)) (w.heap.size + 1) 4 (some ⟨w.heap.size, 0, none⟩) 1 [a, b, c, d] :=
  ⟨rfl, fun _ => ⟨_, rfl, Nat.lt_succ_self _, fun i u hu => by rw [Addr.add_lit, Nat.zero_add, cell_of (alloc_new w _)]; simpa using hu⟩⟩
theorem one_r5 (q : PQ) : ∀ u ∈ cellsPQ q, u.oneCell' = true := fun u hu => by
  simp [cellsPQ] at hu
  rcases hu with rfl | rfl | rfl | rfl | rfl <;> rfl
def cellsX (x : PE) : List Value := cellsPQ x.q
theorem cellsX_eq (x : PE) : reqC (rq5 x) = cellsX x := rfl
/-- The rows of a plan. -/
structure Rows3 (w : World) (B : Nat) (vr vd vt : Sl) (l : List PE) : Prop where
  r : w.ownsRow B 41 5 (slv vr) l.length (l.flatMap cellsX)
  d : w.ownsRow B 3 1 (slv vd) l.length (l.map fun x => .int .i64 x.dev)
  t : w.ownsRow B 3 1 (slv vt) l.length (l.map fun x => .int .i64 x.at_)
theorem PlanX.of_rows {W : World} {B : Nat} {Ar Ad At : Option Addr} {nr nd nt : Nat} {xs : List PE} (h : Rows3 W B (Ar, xs.length, nr) (Ad, xs.length, nd) (At, xs.length, nt) xs) : PlanX W Ar Ad At xs := by
  refine ⟨fun h0 => ?_⟩
  have hx := fun j (hj : j < xs.length) => pe_get hj
  obtain ⟨gd, _, hvd, _, _, _, cd, hcd, _, _, hdd⟩ := own_cell h.d h0
  obtain ⟨gt, _, hvt, _, _, _, ct, hct, _, _, htt⟩ := own_cell h.t h0
  obtain ⟨gr, _, hv, ⟨cur, hg⟩, _⟩ := row_cells (f := cellsX) (fun _ => rfl) h.r (hx 0 h0)
  refine ⟨gr, gd, 0, gt, 0, by injection hv, by injection hvd, by injection hvt, ⟨fun j hj i hi => ?_, fun j hj => ?_, fun j hj => ?_, blt hg, blt hcd, blt hct⟩⟩
  · obtain ⟨gr', _, hv', _, hc⟩ := row_cells (f := cellsX) (fun _ => rfl) h.r (hx j hj)
    have e : gr' = gr := by
      have := hv'.symm.trans hv
      injection this with e1
      injection e1 with e1
      injection e1
    subst e
    exact hc i hi
  · rw [Nat.zero_add, hdd j hj, List.getElem?_map, hx j hj]; rfl
  · rw [Nat.zero_add, htt j hj, List.getElem?_map, hx j hj]; rfl
/-- The plan that was given, each request with its number. -/
def xsOf (qs : List PQ) (ds ts : List Int) : List PE := (List.range qs.length).map fun i => ⟨ds.getD i 0, ts.getD i 0, { pq qs i with pk := (i : Int) + 1 }⟩
theorem xsOf_len (qs : List PQ) (ds ts : List Int) : (xsOf qs ds ts).length = qs.length := by simp [xsOf]
theorem xsOf_get {qs : List PQ} {ds ts : List Int} {i : Nat} (h : i < qs.length) : (xsOf qs ds ts)[i]? = some ⟨ds.getD i 0, ts.getD i 0, { pq qs i with pk := (i : Int) + 1 }⟩ := by
  unfold xsOf
  rw [List.getElem?_map, List.getElem?_range h]; rfl
theorem PlanX.of_mix {W : World} {B : Nat} {Ar Ad At : Option Addr} {nr : Nat} {qs : List PQ} {ds ts : List Int} (hr : W.ownsRow B 41 5 (.slice Ar qs.length nr) qs.length ((xsOf qs ds ts).flatMap cellsX)) (hd : InInts W Ad ds) (ht : InInts W At ts) (h1 : ds.length = qs.length) (h2 : ts.length = qs.length) : PlanX W Ar Ad At (xsOf qs ds ts) := by
  have hl := xsOf_len qs ds ts
  refine ⟨fun h0 => ?_⟩
  rw [hl] at h0 ⊢
  rw [← hl] at hr
  have hx := fun j (hj : j < qs.length) => pe_get (xs := xsOf qs ds ts) (i := j) (by rw [hl]; exact hj)
  obtain ⟨gd, od, e1, hgd, hdd⟩ := hd (by omega)
  obtain ⟨gt, ot, e2, hgt, htt⟩ := ht (by omega)
  obtain ⟨gr, _, hv, ⟨cur, hg⟩, _⟩ := row_cells (v := .slice Ar (xsOf qs ds ts).length nr) (f := cellsX) (fun _ => rfl) hr (hx 0 h0)
  refine ⟨gr, gd, od, gt, ot, by injection hv, e1, e2, ⟨fun j hj i hi => ?_, fun j hj => ?_, fun j hj => ?_, blt hg, hgd, hgt⟩⟩
  · obtain ⟨gr', _, hv', _, hc⟩ := row_cells (v := .slice Ar (xsOf qs ds ts).length nr) (f := cellsX) (fun _ => rfl) hr (hx j hj)
    have e : gr' = gr := by
      have := hv'.symm.trans hv
      injection this with e1
      injection e1 with e1
      injection e1
    subst e
    exact hc i hi
  · have := (hx j hj).symm.trans (xsOf_get hj)
    injection this with this
    rw [this]
    refine hdd j _ ?_
    show ds[j]? = some (ds.getD j 0)
    rw [List.getD_eq_getElem?_getD, List.getElem?_eq_getElem (by omega)]; rfl
  · have := (hx j hj).symm.trans (xsOf_get hj)
    injection this with this
    rw [this]
    refine htt j _ ?_
    show ts[j]? = some (ts.getD j 0)
    rw [List.getD_eq_getElem?_getD, List.getElem?_eq_getElem (by omega)]; rfl
/-- A request, j of which have got their numbers. -/
def pj (qs : List PQ) (j i : Nat) : PQ := if i < j then { pq qs i with pk := (i : Int) + 1 } else pq qs i
theorem pj_zero (qs : List PQ) : (List.range qs.length).flatMap (fun i => cellsPQ (pj qs 0 i)) = qs.flatMap cellsPQ := by
  have e : qs = (List.range qs.length).map (pq qs) := by
    apply List.ext_getElem
    · simp
    · intro i h1 h2
      simp only [List.getElem_map, List.getElem_range]
      unfold pq
      rw [List.getD_eq_getElem?_getD, List.getElem?_eq_getElem h1]; rfl
  conv => rhs; rw [e]
  rw [List.flatMap_map]
  rfl
theorem pj_all (qs : List PQ) (ds ts : List Int) : (List.range qs.length).flatMap (fun i => cellsPQ (pj qs qs.length i)) = (xsOf qs ds ts).flatMap cellsX := by
  unfold xsOf
  rw [List.flatMap_map, List.flatMap_def, List.flatMap_def]
  congr 1
  refine List.map_congr_left fun i hi => ?_
  have hi : i < qs.length := by simpa using hi
  unfold pj cellsX
  rw [if_pos hi]
theorem pj_set (qs : List PQ) {j : Nat} (hj : j < qs.length) : (List.range qs.length).flatMap (fun i => cellsPQ (pj qs (j + 1) i)) = ((List.range qs.length).flatMap fun i => cellsPQ (pj qs j i)).set (j * 5 + 0) (.int .i64 ((j : Int) + 1)) := by
  refine flat_set (fun i => cellsPQ (pj qs j i)) (fun i => cellsPQ (pj qs (j + 1) i)) 5 (fun _ => rfl) j 0 _ (by decide) ?_ (List.range qs.length) j List.nodup_range (List.getElem?_range hj) fun y _ hy => ?_
  · show cellsPQ (pj qs (j + 1) j) = (cellsPQ (pj qs j j)).set 0 _
    unfold pj
    rw [if_pos (by omega), if_neg (by omega)]
    rfl
  · show cellsPQ (pj qs (j + 1) y) = cellsPQ (pj qs j y)
    unfold pj
    by_cases h1 : y < j
    · rw [if_pos h1, if_pos (by omega)]
    · rw [if_neg h1, if_neg (by omega)]
/-- The plan whose requests get their numbers. -/
structure NumQ (W wr : World) (qs : List PQ) (j : Nat) (vr : Sl) (dv tv : Value) : Prop where
  pc : wr.heap[W.heap.size]? = some (.cells #[slv vr, dv, tv] 26 (0, 0))
  r : wr.ownsRow W.heap.size 41 5 (slv vr) qs.length ((List.range qs.length).flatMap fun i => cellsPQ (pj qs j i))
  below : Below W.heap.size W wr
theorem NumQ.next {W wr : World} {qs : List PQ} {j : Nat} {vr : Sl} {dv tv : Value} (h : NumQ W wr qs j vr dv tv) (hj : j < qs.length) {g : Nat} (hg : (slv vr).ownBlock = some g) : NumQ W (wr.setCell ⟨g, j * 5, none⟩ (.int .i64 ((j : Int) + 1))) qs (j + 1) vr dv tv := by
  obtain ⟨hb, cur, hc⟩ := own_block h.r hg
  have hne : W.heap.size ≠ g := ty_ne h.pc hc (by decide)
  refine ⟨(set_other hne).trans h.pc, ?_, h.below.setCell hb _⟩
  rw [pj_set qs hj]
  exact row_set h.r hg (by omega) _
/-- The plan for one device alone, while it grows. -/
structure OwnP (w5 wr : World) (lr ld lt : List PE) (vr vd vt : Sl) : Prop where
  pc : wr.heap[w5.heap.size]? = some (.cells #[slv vr, slv vd, slv vt] 26 (0, 0))
  r : wr.ownsRow w5.heap.size 41 5 (slv vr) lr.length (lr.flatMap cellsX)
  d : wr.ownsRow w5.heap.size 3 1 (slv vd) ld.length (ld.map fun x => .int .i64 x.dev)
  t : wr.ownsRow w5.heap.size 3 1 (slv vt) lt.length (lt.map fun x => .int .i64 x.at_)
  ne : ∀ g, (slv vd).ownBlock = some g → (slv vt).ownBlock ≠ some g
  below : Below w5.heap.size w5 wr
section
variable {w5 wr W w9 : World} {lr ld lt : List PE} {vr vd vt : Sl} {A9 : Option Addr} {c9 : Nat} {x : PE}
theorem OwnP.keepP (h : OwnP w5 wr lr ld lt vr vd vt) (hb : Below wr.heap.size wr W) {u : Sl} (hg : W.grownBy w9 (slv u).ownBlock) (hx : ∀ g, (slv u).ownBlock = some g → w5.heap.size ≤ g ∧ ∃ cur ty, wr.heap[g]? = some (.cells cur ty (0, 0)) ∧ (ty = 41 ∨ ty = 3)) :
    (∀ k, k < wr.heap.size → (slv u).ownBlock ≠ some k → w9.heap[k]? = wr.heap[k]?) ∧ w9.heap[w5.heap.size]? = some (.cells #[slv vr, slv vd, slv vt] 26 (0, 0)) ∧ Below w5.heap.size w5 w9 := by
  have hk : ∀ k, k < wr.heap.size → (slv u).ownBlock ≠ some k → w9.heap[k]? = wr.heap[k]? := fun k hl hn => (hg.block k (Nat.lt_of_lt_of_le hl hb.size) fun e => hn e.symm).trans (hb.block k hl)
  have hne : (slv u).ownBlock ≠ some w5.heap.size := fun e => by
    obtain ⟨_, cur, ty, hc', ht⟩ := hx _ e
    rw [h.pc] at hc'
    simp at hc'
    obtain ⟨_, rfl⟩ := hc'
    rcases ht with h | h <;> cases h
  exact ⟨hk, (hk _ (blt h.pc) hne).trans h.pc, h.below.trans ((hb.mono h.below.size).grown hg (Nat.le_trans h.below.size hb.size) fun k hk' => (hx k hk').1)⟩
theorem OwnP.tr (h : OwnP w5 wr lr ld lt vr vd vt) (g : Nat) (hg : (slv vr).ownBlock = some g) : w5.heap.size ≤ g ∧ ∃ cur ty, wr.heap[g]? = some (.cells cur ty (0, 0)) ∧ (ty = 41 ∨ ty = 3) := by
  obtain ⟨h1, cur, h2⟩ := own_block h.r hg
  exact ⟨h1, cur, 41, h2, .inl rfl⟩
theorem OwnP.td (h : OwnP w5 wr lr ld lt vr vd vt) (g : Nat) (hg : (slv vd).ownBlock = some g) : w5.heap.size ≤ g ∧ ∃ cur ty, wr.heap[g]? = some (.cells cur ty (0, 0)) ∧ (ty = 41 ∨ ty = 3) := by
  obtain ⟨h1, cur, h2⟩ := own_block h.d hg
  exact ⟨h1, cur, 3, h2, .inr rfl⟩
theorem OwnP.tt (h : OwnP w5 wr lr ld lt vr vd vt) (g : Nat) (hg : (slv vt).ownBlock = some g) : w5.heap.size ≤ g ∧ ∃ cur ty, wr.heap[g]? = some (.cells cur ty (0, 0)) ∧ (ty = 41 ∨ ty = 3) := by
  obtain ⟨h1, cur, h2⟩ := own_block h.t hg
  exact ⟨h1, cur, 3, h2, .inr rfl⟩
theorem OwnP.addr (h : OwnP w5 wr lr ld lt vr vd vt) (hb : Below wr.heap.size wr W) (hg : W.grownBy w9 (slv vr).ownBlock)
    (hrow9 : w9.ownsRow w5.heap.size 41 5 (.slice A9 (lr.length + 1) c9) (lr.length + 1) (lr.flatMap cellsX ++ cellsX x)) :
    OwnP w5 (w9.setCell ⟨w5.heap.size, 0, none⟩ (.slice A9 (lr.length + 1) c9)) (lr ++ [x]) ld lt (A9, lr.length + 1, c9) vd vt := by
  obtain ⟨hk, hp9, hbel⟩ := h.keepP hb hg h.tr
  have ho : ∀ k, k ≠ w5.heap.size → (w9.setCell ⟨w5.heap.size, 0, none⟩ (.slice A9 (lr.length + 1) c9)).heap[k]? = w9.heap[k]? := fun k hk => Below.heap_setCell w9 _ _ _ hk
  refine ⟨?_, ?_, ?_, ?_, h.ne, hbel.setCell (Nat.le_refl _) _⟩
  · have := set_same hp9 0 (.slice A9 (lr.length + 1) c9)
    simpa using this
  · rw [List.flatMap_append, List.flatMap_singleton, List.length_append]
    exact own_keep hrow9 fun k hk' _ => ho k fun e => own_ty hrow9 hp9 (by decide) (e ▸ hk')
  · exact own_keep h.d fun k hk' hl => by
      obtain ⟨_, cur, hc⟩ := own_block h.d hk'
      exact (ho k fun e => own_ty h.d h.pc (by decide) (e ▸ hk')).trans (hk k hl (own_ty h.r hc (by decide)))
  · exact own_keep h.t fun k hk' hl => by
      obtain ⟨_, cur, hc⟩ := own_block h.t hk'
      exact (ho k fun e => own_ty h.t h.pc (by decide) (e ▸ hk')).trans (hk k hl (own_ty h.r hc (by decide)))
theorem OwnP.addd (h : OwnP w5 wr lr ld lt vr vd vt) (hb : Below wr.heap.size wr W) (hg : W.grownBy w9 (slv vd).ownBlock)
    (hrow9 : w9.ownsRow w5.heap.size 3 1 (.slice A9 (ld.length + 1) c9) (ld.length + 1) ((ld.map fun x => .int .i64 x.dev) ++ [.int .i64 x.dev])) (hloc : (Value.slice A9 (ld.length + 1) c9).ownBlock = (slv vd).ownBlock ∨ (Value.slice A9 (ld.length + 1) c9).ownBlock = some W.heap.size) :
    OwnP w5 (w9.setCell ⟨w5.heap.size, 1, none⟩ (.slice A9 (ld.length + 1) c9)) lr (ld ++ [x]) lt vr (A9, ld.length + 1, c9) vt := by
  obtain ⟨hk, hp9, hbel⟩ := h.keepP hb hg h.td
  have ho : ∀ k, k ≠ w5.heap.size → (w9.setCell ⟨w5.heap.size, 1, none⟩ (.slice A9 (ld.length + 1) c9)).heap[k]? = w9.heap[k]? := fun k hk => Below.heap_setCell w9 _ _ _ hk
  refine ⟨?_, ?_, ?_, ?_, ?_, hbel.setCell (Nat.le_refl _) _⟩
  · have := set_same hp9 1 (.slice A9 (ld.length + 1) c9)
    simpa using this
  · exact own_keep h.r fun k hk' hl => by
      obtain ⟨_, cur, hc⟩ := own_block h.r hk'
      exact (ho k fun e => own_ty h.r h.pc (by decide) (e ▸ hk')).trans (hk k hl (own_ty h.d hc (by decide)))
  · rw [List.map_append, List.length_append]
    exact own_keep hrow9 fun k hk' _ => ho k fun e => own_ty hrow9 hp9 (by decide) (e ▸ hk')
  · exact own_keep h.t fun k hk' hl => (ho k fun e => own_ty h.t h.pc (by decide) (e ▸ hk')).trans (hk k hl fun e => h.ne k e hk')
  · intro g hg1 hg2
    rcases hloc with e | e
    · exact h.ne g (e ▸ hg1) hg2
    · have h1 := own_lt h.t hg2
      have h2 : g = W.heap.size := by
        have := hg1.symm.trans e
        injection this
      have := hb.size
      omega
theorem OwnP.addt (h : OwnP w5 wr lr ld lt vr vd vt) (hb : Below wr.heap.size wr W) (hg : W.grownBy w9 (slv vt).ownBlock)
    (hrow9 : w9.ownsRow w5.heap.size 3 1 (.slice A9 (lt.length + 1) c9) (lt.length + 1) ((lt.map fun x => .int .i64 x.at_) ++ [.int .i64 x.at_])) (hloc : (Value.slice A9 (lt.length + 1) c9).ownBlock = (slv vt).ownBlock ∨ (Value.slice A9 (lt.length + 1) c9).ownBlock = some W.heap.size) :
    OwnP w5 (w9.setCell ⟨w5.heap.size, 2, none⟩ (.slice A9 (lt.length + 1) c9)) lr ld (lt ++ [x]) vr vd (A9, lt.length + 1, c9) := by
  obtain ⟨hk, hp9, hbel⟩ := h.keepP hb hg h.tt
  have ho : ∀ k, k ≠ w5.heap.size → (w9.setCell ⟨w5.heap.size, 2, none⟩ (.slice A9 (lt.length + 1) c9)).heap[k]? = w9.heap[k]? := fun k hk => Below.heap_setCell w9 _ _ _ hk
  refine ⟨?_, ?_, ?_, ?_, ?_, hbel.setCell (Nat.le_refl _) _⟩
  · have := set_same hp9 2 (.slice A9 (lt.length + 1) c9)
    simpa using this
  · exact own_keep h.r fun k hk' hl => by
      obtain ⟨_, cur, hc⟩ := own_block h.r hk'
      exact (ho k fun e => own_ty h.r h.pc (by decide) (e ▸ hk')).trans (hk k hl (own_ty h.t hc (by decide)))
  · exact own_keep h.d fun k hk' hl => (ho k fun e => own_ty h.d h.pc (by decide) (e ▸ hk')).trans (hk k hl fun e => h.ne k hk' e)
  · rw [List.map_append, List.length_append]
    exact own_keep hrow9 fun k hk' _ => ho k fun e => own_ty hrow9 hp9 (by decide) (e ▸ hk')
  · intro g hg1 hg2
    rcases hloc with e | e
    · exact h.ne g hg1 (e ▸ hg2)
    · have h1 := own_lt h.d hg1
      have h2 : g = W.heap.size := by
        have := hg2.symm.trans e
        injection this
      have := hb.size
      omega
end
/-- The bytes of values. -/
def unB (xs : List Value) : List Int := xs.map fun v => match v with | .int _ y => y | _ => 0
theorem IsB.un {xs : List Value} (h : IsB xs) : xs = bytes (unB xs) ∧ (unB xs).length ≤ 4000 := by
  obtain ⟨bs, rfl, hl⟩ := h
  have : unB (bytes bs) = bs := by
    unfold unB bytes
    rw [List.map_map]
    exact List.map_id' bs
  rw [this]
  exact ⟨rfl, hl⟩
/-- A reply, without its number. -/
def viewP (o : Ans) : Pr := (o.1.pk, o.2.1, o.2.2.1, unB o.2.2.2)
theorem viewP_ansF (f : Int → Int) (o : Ans) : viewP (ansF f o) = viewP o := rfl
theorem HOut.reps {B base : Nat} {w : World} {A : Option Addr} {n c : Nat} {rs : List Rp} {os : List Ans} (h : HOut B base w (.slice A n c) rs os) (hb : ∀ o ∈ os, IsB o.2.2.2) : InReps B w A (os.map viewP) := fun h0 => by
  have hl := h.ans.1
  have h1 : 0 < os.length := by simpa using h0
  obtain ⟨x0, hx0⟩ : ∃ x, rs[0]? = some x := ⟨_, List.getElem?_eq_getElem (by omega)⟩
  obtain ⟨g, c', hv, _, _⟩ := row_cells (f := encO) (fun _ => rfl) h.row hx0
  refine ⟨g, 0, by injection hv, fun j r hj => ?_⟩
  have hjl : j < os.length := by
    have := (List.getElem?_eq_some_iff.1 hj).1
    simpa using this
  obtain ⟨x, hx⟩ : ∃ x, rs[j]? = some x := ⟨_, List.getElem?_eq_getElem (by omega)⟩
  obtain ⟨o, ho⟩ : ∃ o, os[j]? = some o := ⟨_, List.getElem?_eq_getElem hjl⟩
  rw [List.getElem?_map, ho] at hj
  injection hj with hj
  subst hj
  obtain ⟨g', _, hv', _, hc⟩ := row_cells (f := encO) (fun _ => rfl) h.row hx
  have e : g' = g := by
    have := hv'.symm.trans hv
    injection this with e1
    injection e1 with e1
    injection e1
  subst e
  obtain ⟨p1, p2, p3, p4, p5⟩ := h.ans.2 j x o hx ho
  obtain ⟨hbs, hbl⟩ := (hb o (List.mem_of_getElem? ho)).un
  rw [Nat.zero_add]
  refine ⟨(hc 0 (by decide)).trans (by show some (Value.int .i64 x.pk) = _; rw [p1]; rfl), (hc 1 (by decide)).trans (by show some (Value.int .i64 x.at_) = _; rw [p2]; rfl), (hc 2 (by decide)).trans (by show some (Value.int .i64 x.res) = _; rw [p3]; rfl), x.dv, (hc 3 (by decide)).trans rfl, ?_, by show (unB o.2.2.2).length ≤ 100000; omega⟩
  show Held B 5 w x.dv (bytes (unB o.2.2.2))
  rw [← hbs]
  exact p5
theorem devM_nil (f : Int → Int) {p : PDv} (h : waitQ p = []) : devM f p = p := by
  cases p with
  | line p =>
    have h : p.wait = [] := h
    show PDv.line { p with wait := p.wait.map (ordF f) } = PDv.line p
    rw [h]
    cases p
    simp at h
    subst h
    rfl
  | _ => rfl
/-- How many requests to the device come before. -/
def rankF (xs : List PE) (dev : Int) (k : Int) : Int := (((xs.take k.toNat).filter fun x => x.dev == dev).length : Nat)
theorem rankF_next {xs : List PE} {dev : Int} {i : Nat} {x : PE} (h : xs[i]? = some x) : rankF xs dev ((0 : Int) + i + 1) = rankF xs dev ((0 : Int) + i) + if x.dev = dev then 1 else 0 := by
  unfold rankF
  rw [show ((0 : Int) + i + 1).toNat = i + 1 by omega, show ((0 : Int) + i).toNat = i by omega, List.take_add_one, h, List.filter_append]
  by_cases hd : x.dev = dev
  · simp [hd]
  · simp [hd]
theorem rankF_mono (xs : List PE) (dev : Int) (a b : Int) (h : a ≤ b) : rankF xs dev a ≤ rankF xs dev b := by
  unfold rankF
  have h1 : a.toNat ≤ b.toNat := by omega
  have h2 : (xs.take a.toNat).Sublist (xs.take b.toNat) := by
    have e : xs.take a.toNat = (xs.take b.toNat).take a.toNat := by rw [List.take_take, Nat.min_eq_left h1]
    rw [e]
    exact List.take_sublist _ _
  have := (h2.filter fun x : PE => x.dev == dev).length_le
  omega
/-- What DeviceApart says, without memory. -/
theorem apart_law {ds : List PDv} (h0 : GInv (g0 ds)) (hw : ∀ p ∈ ds, waitQ p = []) {xs : List PE} (hok : OkRun (g0 ds) xs) (dev T : Int) :
    OkRun (g0 ds) (xs.filter fun x => x.dev == dev) ∧
    ((outG (runG (g0 ds) (xs.filter fun x => x.dev == dev)) T).map (·.2)).map viewP = (((outG (runG (g0 ds) xs) T).filter fun o => o.1 == dev).map (·.2)).map viewP ∧
    (∀ o ∈ outG (runG (g0 ds) xs) T, ∃ (n : Nat) (x : PE), xs[n]? = some x ∧ o.1 = x.dev ∧ o.2.1.pk = x.q.pk) ∧
    GInv (runG (g0 ds) xs) ∧ GInv (runG (g0 ds) (xs.filter fun x => x.dev == dev)) := by
  have hap : ApartG (rankF xs dev) dev (g0 ds) (g0 ds) := by
    refine ⟨fun _ p hp => ?_, rfl, rfl, Int.le_refl _, by show ((0 : Nat) : Int) = rankF xs dev ((0 : Nat) : Int); unfold rankF; simp⟩
    rw [devM_nil _ (hw p (List.mem_of_getElem? hp))]
    exact hp
  obtain ⟨h1, h2⟩ := apart_run hap hok.toR fun i x hx => rankF_next hx
  have hok2 := h1.toRun
  have hg : ∀ {l : List PE}, OkRun (g0 ds) l → GInv (runG (g0 ds) l) := fun {l} hl => by
    have := (ginv_run h0 l.length (fun i x _ hx => hl i x hx) l.length (Nat.le_refl _) (Nat.le_refl _)).1
    rwa [List.take_length] at this
  have hi2 := hg hok2
  refine ⟨hok2, ?_, fun o ho => ?_, hg hok, hi2⟩
  · rw [apart_out h2 hi2 (rankF_mono xs dev) T, List.map_map, List.map_map, List.map_map]
    rfl
  · have hl : LabG (fun d q => ∃ (n : Nat) (x : PE), xs[n]? = some x ∧ d = x.dev ∧ q.pk = x.q.pk) (runG (g0 ds) xs) := by
      refine LabG.run ⟨(fun o ho => by cases ho), fun j p hp q hq => ?_⟩ hok.toR fun i x hx => ⟨i, x, hx, rfl, rfl⟩
      rw [hw p (List.mem_of_getElem? hp)] at hq
      cases hq
    refine hl.1 o ?_
    unfold outG at ho
    exact (sortG_perm _).mem_iff.1 ((List.takeWhile_sublist _).mem ho)
end Go.Proofs.Ytkdnkjjnmadhgaa.Dev
