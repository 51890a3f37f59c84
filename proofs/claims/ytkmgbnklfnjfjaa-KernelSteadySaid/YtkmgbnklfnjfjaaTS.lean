import Derived.Test.YtkmgbnklfnjfjaaSP
import Derived.Test.YtkmgbnklfnjfjaaMA
/-! Contract: Tasks (f24). -/
namespace Go.Proofs.Ytkmgbnklfnjfjaa.Ker
open Go.RowKit Go.Maps
open Go.ChangeMaps (setBlock)

theorem ids_row (B kb : Nat) (g : G) (a : A) (w : World) (h : KRep B kb g a w) (i : Int) (hi : i ∈ a.tids) (hn : (a.q i).length ≤ 100000) (hin : ∀ p ∈ a.q i, p ∈ a.pids) :
    Calls Try.prog 32 #[.pointer (some ⟨g.tb i, 7, none⟩), .func (.func 33) #[] #[]] w fun e w' => ∃ v', e = .returned v' ∧ Below w.heap.size w w' ∧ w'.ownsRow w.heap.size 3 1 v' (a.q i).length ((a.q i).map fun p => .int .i64 p) := by
  have hrow := h.row i (.inl hi)
  have := ids_any w B (g.tb i) 7 (g.qv i) ((a.q i).map g.pb) (fun b => ((w.cell? ⟨b, 0, none⟩).map intOf).getD 0) (by rw [cell_of (h.task i hi)]; rfl) (by simpa [Function.comp_def] using hrow) (by simpa using hn) (by
    intro x hx
    obtain ⟨p, hp, rfl⟩ := List.mem_map.1 hx
    rw [h.p0 (hin p hp)]
    rfl)
  refine this.mono ?_
  rintro e w' ⟨v', rfl, hb, ho⟩
  refine ⟨v', rfl, hb, ?_⟩
  rw [List.length_map, List.map_map] at ho
  have e1 : (a.q i).map ((fun b => Value.int .i64 (((w.cell? ⟨b, 0, none⟩).map intOf).getD 0)) ∘ g.pb) = (a.q i).map fun p => .int .i64 p := by
    apply List.map_congr_left
    intro p hp
    simp only [Function.comp]
    rw [h.p0 (hin p hp)]
    rfl
  rw [e1] at ho
  exact ho
theorem own_low {w : World} {B B' e sz n : Nat} {v : Value} {xs : List Value} (h : w.ownsRow B' e sz v n xs) (hb : B ≤ B') : w.ownsRow B e sz v n xs := by
  refine ⟨h.1, ?_⟩
  rcases h.2 with h2 | ⟨g, cap, cur, hv, h1, h3⟩
  · exact .inl h2
  · exact .inr ⟨g, cap, cur, hv, Nat.le_trans hb h1, h3⟩
theorem info55 : (Try.prog.info? 55).map (fun i => (i.zero, i.size, i.bytes)) = some (some (.agg #[.int .i64 0, .int .i64 0, .bool false, .bool false, .int .i64 0, .int .i64 0, .slice none 0 0]), 7, 64) := by kernel_rfl
theorem new7 (w : World) (s : Nat) (hs : w.heap.size = s) (l : List Value) (hl : l.length = 7) : ∀ j u, l[j]? = some u → (w.alloc (.cells l.toArray 55)).cell? ((⟨s, 0, none⟩ : Addr).add j) = some u := by
  intro j u hu
  rw [Addr.add_lit, Nat.zero_add, ← hs]
  exact (cell_of (alloc_new w _) j).trans (by simpa using hu)
/-- One task as Tasks tells it, in memory. -/
structure TkOk (B : Nat) (a : A) (w : World) (x : TE) : Prop where
  mem : x.1 ∈ a.tids
  tk : x.2.1 = a.tk x.1
  row : w.ownsRow B 3 1 (.slice x.2.2.1 x.2.2.2.1 x.2.2.2.2) (a.q x.1).length ((a.q x.1).map fun p => .int .i64 p)
/-- What Tasks has collected when the entries of left are still to come. -/
def TkRel (w : World) (a : A) (g : G) (v : Value) (wr : World) : Prop := ∃ (left : List (Int × Nat)) (L : List TE), iterAt wr w.heap.size g.tm (a.tids.map fun i => (i, g.tb i)) left ∧ (left.map (·.1)).Nodup ∧ Below w.heap.size w wr ∧ w.heap.size < wr.heap.size ∧
  wr.ownsRow w.heap.size 55 7 v L.length (L.flatMap encT) ∧ (∀ i ∈ a.tids, i ∉ left.map (·.1) → i ∈ L.map (·.1)) ∧ (L.map (·.1)).Nodup ∧ ∀ x ∈ L, TkOk w.heap.size a wr x ∧ x.1 ∉ left.map (·.1)
theorem TkOk.keep {B : Nat} {a : A} {w w' : World} {x : TE} (h : TkOk B a w x) (hk : ∀ b, b < w.heap.size → (∃ c, w.heap[b]? = some (.cells c 3 (0, 0))) → w'.heap[b]? = w.heap[b]?) : TkOk B a w' x :=
  ⟨h.mem, h.tk, own_keep h.row (fun b hb hl => by
    obtain ⟨_, c, hc⟩ := own_block h.row hb
    exact hk b hl ⟨c, hc⟩)⟩

/-- One task more. -/
theorem tk_step {w W w6 w7 : World} {a : A} {g : G} {v v7 : Value} {left : List (Int × Nat)} {L : List TE} {i : Int} {tb : Nat} {qa : Option Addr} {qc BQ : Nat} (hp : (i, tb) ∈ left) (hi : i ∈ a.tids) (hnd : (left.map (·.1)).Nodup)
    (hbW : Below w.heap.size w W) (hit1 : iterAt W w.heap.size g.tm (a.tids.map fun i => (i, g.tb i)) (left.filter (fun q => q.1 != i))) (hrow : W.ownsRow w.heap.size 55 7 v L.length (L.flatMap encT)) (hall : ∀ i ∈ a.tids, i ∉ left.map (·.1) → i ∈ L.map (·.1)) (hLn : (L.map (·.1)).Nodup) (hok : ∀ x ∈ L, TkOk w.heap.size a W x ∧ x.1 ∉ left.map (·.1))
    (b6 : Below W.heap.size W w6) (hq : w6.ownsRow BQ 3 1 (.slice qa (a.q i).length qc) (a.q i).length ((a.q i).map fun p => .int .i64 p)) (hBQ : w.heap.size ≤ BQ) (hg : w6.grownBy w7 v.ownBlock) (h7 : w7.ownsRow w.heap.size 55 7 v7 (L.length + 1) (L.flatMap encT ++ encT (i, a.tk i, (qa, (a.q i).length, qc)))) : TkRel w a g v7 w7 ∧ leftCount w7 g.tm w.heap.size < left.length := by
  obtain ⟨l1, l2, l3⟩ := hit1.lt
  have hr6 : w6.ownsRow w.heap.size 55 7 v L.length (L.flatMap encT) := own_keep hrow (fun b _ hl => b6.block b hl)
  have hsz6 := b6.size
  have hit7 : iterAt w7 w.heap.size g.tm (a.tids.map fun i => (i, g.tb i)) (left.filter (fun q => q.1 != i)) := by
    have h1 := hit1.keep (b6.block _ l1) (b6.block _ l2)
    obtain ⟨es, c, si, se, c0, k1, k2, _⟩ := h1
    have n1 : some g.tm ≠ v.ownBlock := fun e => by
      obtain ⟨_, cc, hc⟩ := own_block hr6 e.symm
      rw [k1] at hc; cases hc
    have n2 : some w.heap.size ≠ v.ownBlock := fun e => by
      obtain ⟨_, cc, hc⟩ := own_block hr6 e.symm
      rw [k2] at hc; cases hc
    exact (hit1.keep (b6.block _ l1) (b6.block _ l2)).keep (hg.block _ (by omega) n1) (hg.block _ (by omega) n2)
  have hk3 : ∀ b, (∃ c, w6.heap[b]? = some (Obj.cells c 3 (0, 0))) → w7.heap[b]? = w6.heap[b]? := fun b ⟨c, hc⟩ => hg.block b (blt hc) (fun e => by
    obtain ⟨_, cc, hc2⟩ := own_block hr6 e.symm
    rw [hc] at hc2; simp at hc2)
  have hsub : ∀ j, j ∈ (left.filter (fun q => q.1 != i)).map (·.1) → j ∈ left.map (·.1) := fun j hj => by
    obtain ⟨q, hq1, rfl⟩ := List.mem_map.1 hj
    exact List.mem_map.2 ⟨q, (List.mem_filter.1 hq1).1, rfl⟩
  have hil : i ∈ left.map (·.1) := List.mem_map.2 ⟨_, hp, rfl⟩
  have hni : i ∉ (left.filter (fun q => q.1 != i)).map (·.1) := fun hj => by
    obtain ⟨q, hq1, he⟩ := List.mem_map.1 hj
    have := (List.mem_filter.1 hq1).2
    simp [he] at this
  refine ⟨⟨_, L ++ [(i, a.tk i, (qa, (a.q i).length, qc))], hit7, List.Nodup.sublist (List.Sublist.map (fun q : Int × Nat => q.1) (List.filter_sublist (p := fun q : Int × Nat => q.1 != i) (l := left))) hnd, ?_, hit7.lt.2.1, by simpa using h7, ?_, ?_, ?_⟩, ?_⟩
  · refine hbW.trans ((b6.mono hbW.size).trans ((Below.refl _ _).grown hg (Nat.le_trans hbW.size b6.size) (fun k hk => (own_block hr6 hk).1)))
  · intro j hj hnj
    by_cases hji : j = i
    · subst hji; simp
    · have : j ∉ left.map (·.1) := fun hm => by
        obtain ⟨q, hq1, he⟩ := List.mem_map.1 hm
        exact hnj (List.mem_map.2 ⟨q, List.mem_filter.2 ⟨hq1, by simp [he, hji]⟩, he⟩)
      have := hall j hj this
      rw [List.map_append, List.mem_append]
      exact .inl this
  · rw [List.map_append, List.nodup_append]
    refine ⟨hLn, by simp, fun x hx y hy => ?_⟩
    simp only [List.map_cons, List.map_nil, List.mem_singleton] at hy
    subst hy
    obtain ⟨z, hz, rfl⟩ := List.mem_map.1 hx
    exact fun e => (hok z hz).2 (e ▸ hil)
  · intro x hx
    rcases List.mem_append.1 hx with hx | hx
    · obtain ⟨h1, h2⟩ := hok x hx
      exact ⟨(h1.keep (fun b hl _ => b6.block b hl)).keep (fun b _ hc => hk3 b hc), fun hm => h2 (hsub _ hm)⟩
    · rw [List.mem_singleton.1 hx]
      refine ⟨⟨hi, rfl, ?_⟩, hni⟩
      refine own_keep (own_low hq hBQ) (fun b hb _ => ?_)
      obtain ⟨_, c, hc⟩ := own_block hq hb
      exact hk3 b ⟨c, hc⟩
  · rw [hit7.count]
    exact filter_lt hp

set_option maxHeartbeats 4000000 in
set_option maxRecDepth 100000 in
theorem tasks_any (B kb : Nat) (g : G) (a : A) (w : World) (h : KRep B kb g a w) (gd : Good a) :
    Calls Try.prog 24 #[ptr kb] w fun e w' => ∃ (v : Value) (L : List TE), e = .returned v ∧ Below w.heap.size w w' ∧ (L.map (·.1)).Perm a.tids ∧ (L.map (·.1)).Pairwise (· < ·) ∧ w'.ownsRow w.heap.size 55 7 v L.length (L.flatMap encT) ∧ ∀ x ∈ L, TkOk w.heap.size a w' x := by
  obtain ⟨i0, hi0, hz0, hz1, hz2⟩ := info_parts info55
  obtain ⟨o, hrange, hit⟩ := run_range h.tmap 66 71 und66
  obtain ⟨w3, hw3⟩ : ∃ w3, w3 = w.alloc o := ⟨_, rfl⟩
  rw [← hw3] at hrange hit
  have hb3 : Below w.heap.size w w3 := by rw [hw3]; exact (Below.refl _ _).alloc (Nat.le_refl _) _
  have k0 := h.k0
  have IT := Lib.hid hit
  have H := Lib.hid h
  have GD := Lib.hid gd
  have HNT := Lib.hid (nodup_bound 20 a.tids gd.tnd (fun x hx => gd.trng x hx))
  clear hw3 hit h gd
  go_enter Try.func24, Try.ntmps24
  go_wp2_with fail
  go_loopw [3] (fun v wr => TkRel w a g v wr) (fun _ wr => leftCount wr g.tm w.heap.size)
  case atStart =>
    refine ⟨_, [], IT.out, by simpa [Function.comp_def] using GD.out.tnd, hb3, IT.out.lt.2.1, owns_none, ?_, List.Pairwise.nil, fun x hx => by cases hx⟩
    intro i hi hni
    exact absurd (by simpa [Function.comp_def] using hi) hni
  case round =>
    obtain ⟨left, L, hit, hnd, hbel, hrs, hrow, hall, hLn, hok⟩ := hrel
    have hLm : ∀ i ∈ L.map (·.1), i ∈ a.tids := fun i hi => by
      obtain ⟨x, hx, rfl⟩ := List.mem_map.1 hi
      exact (hok x hx).1.mem
    have hLl : L.length ≤ 20 := by
      have := nodup_bound 20 (L.map (·.1)) hLn (fun x hx => GD.out.trng x (hLm x hx))
      simpa using this
    rcases run_next hit hnd 0 with ⟨rfl, hnext⟩ | ⟨p, hp, w1, hw1, o1, hnext, hit1, hentry⟩
    · have hperm : (L.map (·.1)).Perm a.tids := (List.perm_ext_iff_of_nodup hLn GD.out.tnd).2 (fun i => ⟨hLm i, fun hi => hall i hi (by simp)⟩)
      have C34 := Lib.hid (sort_row _ _ L _ hrow (by omega) hLn)
      have HB := Lib.hid hbel
      have HOK := Lib.hid hok
      have HP := Lib.hid hperm
      have HROW := Lib.hid hrow
      clear hall hbel hit hnd IT hb3 hrow hLn hok hLm hperm
      go_wp2_with (go_at_call 34; (with_reducible refine C34.out.mono ?_); rintro e w5 ⟨rfl, L', hp', hpw, hrow', ht⟩; have HP' := Lib.hid hp'; have HPW := Lib.hid hpw; have HROW' := Lib.hid hrow'; have HT := Lib.hid ht; clear hp' hpw hrow' ht)
      go_ret
      have hlen : L'.length = L.length := HP'.out.length_eq
      refine ⟨_, L', rfl, HB.out.trans (HT.out.below HB.out.size (fun k hk => (own_block HROW.out hk.symm).1)), (HP'.out.map (·.1)).trans HP.out, HPW.out, by rw [hlen]; exact HROW'.out, fun x hx => ?_⟩
      refine (HOK.out x (HP'.out.mem_iff.1 hx)).1.keep (fun b hbl hbc => HT.out.block b hbl (fun hk => ?_))
      obtain ⟨c, hc⟩ := hbc
      obtain ⟨_, c2, hc2⟩ := own_block HROW.out hk.symm
      rw [hc] at hc2
      simp at hc2
    · obtain ⟨W, hW⟩ : ∃ W, W = setBlock w1 w.heap.size o1 := ⟨_, rfl⟩
      rw [← hW] at hnext hit1 hentry
      have hT : Touch wr W (fun k => k = w.heap.size) := by
        rw [hW]
        rcases hw1 with rfl | rfl
        · exact Touch.setB _ _ _
        · exact (Touch.drew wr _).trans (Touch.setB _ _ _)
      have hbW : Below w.heap.size w W := hbel.trans (hT.below hbel.size (fun k hk => by omega))
      have hkW := H.out.below hbW
      obtain ⟨i, hi, rfl⟩ : ∃ i ∈ a.tids, p = (i, g.tb i) := by
        obtain ⟨i, hi, he⟩ := List.mem_map.1 (hit.sub p hp)
        exact ⟨i, hi, he.symm⟩
      have hiter : ∀ c ty, wr.heap[w.heap.size]? ≠ some (.cells c ty (0, 0)) := fun c ty hc => by
        obtain ⟨es, c', si, se, c0, _, k2, _⟩ := hit
        rw [k2] at hc; cases hc
      have hrowW : W.ownsRow w.heap.size 55 7 u3 L.length (L.flatMap encT) := own_keep hrow (fun b hb hl => hT.block b hl (fun e => by
        obtain ⟨_, cc, hc⟩ := own_block hrow hb
        exact hiter _ _ (e ▸ hc)))
      have hokW : ∀ x ∈ L, TkOk w.heap.size a W x ∧ x.1 ∉ left.map (·.1) := fun x hx => ⟨(hok x hx).1.keep (fun b hl hc => hT.block b hl (fun e => by
        obtain ⟨cc, hc⟩ := hc
        exact hiter _ _ (e ▸ hc))), (hok x hx).2⟩
      have t0 := hkW.t0 hi
      have t1 := hkW.t1 hi
      have t2 := hkW.t2 hi
      have t3 := hkW.t3 hi
      have t4 := hkW.t4 hi
      have t5 := hkW.t5 hi
      have t6 : W.cell? ⟨g.tb i, 6, none⟩ = some (.slice none 0 0) := by rw [cell_of (hkW.task i hi)]; rfl
      have hql := GD.out.qlen (i := i) (.inl hi)
      have C32 := Lib.hid (ids_row _ _ _ _ _ (hkW.below ((Below.refl W.heap.size W).alloc (Nat.le_refl _) (.cells #[.int .i64 i, .int .i64 (a.tk i).pri, .bool (a.tk i).held, .bool (a.tk i).waiting, .int .i64 (a.tk i).forr, .int .i64 (a.tk i).flags, .slice none 0 0] 55))) i hi (by omega) (fun p hp => (GD.out.qin i (.inl hi) p hp).1))
      obtain ⟨va, vc, rfl⟩ := own_form hrowW
      have szW : w.heap.size ≤ W.heap.size := hbW.size
      have HCNT := Lib.hid hit.count
      have HP := Lib.hid hp
      have HI := Lib.hid hi
      have HND := Lib.hid hnd
      have HBW := Lib.hid hbW
      have HIT1 := Lib.hid hit1
      have HROW := Lib.hid hrowW
      have HALL := Lib.hid hall
      have HLN := Lib.hid hLn
      have HOK := Lib.hid hokW
      clear hit hp hnd hbW hit1 hrowW hall hLn hokW hrow hok hbel hT hkW hiter hw1 hW hi hb3 hLm
      go_wp2_with (first | (go_at_call 32; (with_reducible refine C32.out.mono ?_); rintro e w5 ⟨v5, rfl, hb5, ho5⟩; (obtain ⟨qa, qc, rfl⟩ := own_form ho5); have X5 := Lib.hid ((hb5.block W.heap.size (by simp)).trans (alloc_new W (.cells #[.int .i64 i, .int .i64 (a.tk i).pri, .bool (a.tk i).held, .bool (a.tk i).waiting, .int .i64 (a.tk i).forr, .int .i64 (a.tk i).flags, .slice none 0 0] 55))); have y0 : w5.cell? ⟨W.heap.size, 0, none⟩ = some (.int .i64 i) := (cell_fr X5.out 0).trans rfl; have y1 : w5.cell? ⟨W.heap.size, 1, none⟩ = some (.int .i64 (a.tk i).pri) := (cell_fr X5.out 1).trans rfl; have y2 : w5.cell? ⟨W.heap.size, 2, none⟩ = some (.bool (a.tk i).held) := (cell_fr X5.out 2).trans rfl; have y3 : w5.cell? ⟨W.heap.size, 3, none⟩ = some (.bool (a.tk i).waiting) := (cell_fr X5.out 3).trans rfl; have y4 : w5.cell? ⟨W.heap.size, 4, none⟩ = some (.int .i64 (a.tk i).forr) := (cell_fr X5.out 4).trans rfl; have y5 : w5.cell? ⟨W.heap.size, 5, none⟩ = some (.int .i64 (a.tk i).flags) := (cell_fr X5.out 5).trans rfl; have y6 : w5.cell? ⟨W.heap.size, 6, none⟩ = some (.slice none 0 0) := (cell_fr X5.out 6).trans rfl; have z6 : w5.frozen? ⟨W.heap.size, 6, none⟩ = false := free_of X5.out 6; have B6 := Lib.hid ((((Below.refl W.heap.size W).alloc (Nat.le_refl _) _).trans (hb5.mono (by simp))).setCell (p := ⟨W.heap.size, 6, none⟩) (Nat.le_refl _) (.slice qa (a.q i).length qc)); have Q6 := Lib.hid (own_keep (w' := w5.setCell ⟨W.heap.size, 6, none⟩ (.slice qa (a.q i).length qc)) ho5 (fun b hb hl => set_other (by have := (own_block ho5 hb).1; simp at this; omega))); have sz5 : W.heap.size ≤ w5.heap.size := (by have := hb5.size; simp at this; omega); clear hb5 ho5) | (at_builtin; refine wpList_append_own_at _ rfl _ _ 52 rfl w.heap.size 55 i0 (.agg #[.int .i64 0, .int .i64 0, .bool false, .bool false, .int .i64 0, .int .i64 0, .slice none 0 0]) 7 64 Try.underlying52 hi0 hz0 hz1 hz2 rfl (by decide) (.slice va L.length vc) L.length (L.flatMap encT) rfl ((own_keep (w' := w5.setCell ⟨W.heap.size, 6, none⟩ (.slice qa (a.q i).length qc)) HROW.out (fun b _ hl => B6.out.block b hl)).alloc _) ⟨w5.heap.size, 0, none⟩ 1 1 (encT (i, a.tk i, (qa, (a.q i).length, qc))) rfl rfl (new7 _ _ (by simp) _ rfl) (by intro u hu; simp [encT] at hu; rcases hu with rfl | rfl | rfl | rfl | rfl | rfl | rfl <;> rfl) (by unfold maxLen; omega) (by omega) (by simp; omega) ?_; intro v7 w7 ho7 hg7 hnil7 hloc7; have R7 := Lib.hid ho7; have HG7 := Lib.hid ((World.grownBy_alloc _ _ _).trans hg7); clear ho7 hg7 hnil7 hloc7))
      have ST := Lib.hid (tk_step HP.out HI.out HND.out HBW.out HIT1.out HROW.out HALL.out HLN.out HOK.out B6.out Q6.out (by simp; omega) HG7.out R7.out)
      go_roundw
      case rel => exact ST.out.1
      case measure => rw [HCNT.out]; exact ST.out.2
end Go.Proofs.Ytkmgbnklfnjfjaa.Ker
