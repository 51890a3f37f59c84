import Derived.Test.YtkmgbnklfnjfjaaRE
import Derived.Test.YtkmgbnklfnjfjaaMix
/-! The specification's kernel: enqueue. -/
namespace Go.Proofs.Ytkmgbnklfnjfjaa.Ker
open Go.RowKit Go.Maps

theorem upd_upd {α : Type} (f : Int → α) (i : Int) (u v : α) : upd (upd f i u) i v = upd f i v := by
  funext j
  by_cases h : j = i
  · subst h; rw [upd_same, upd_same]
  · rw [upd_other _ _ h, upd_other _ _ h, upd_other _ _ h]
/-- enqueue, plainly. -/
def moveR (a : A) (p frm to : Int) : A :=
  { a with q := upd a.q to (a.q to ++ [p]), pk := upd a.pk p { a.pk p with at_ := to, frm := frm, wth := 0 }, moves := a.moves ++ [(a.calls, p, frm, to)],
           tk := if to ∈ a.tids ∧ (a.tk to).waiting = true ∧ ((a.tk to).forr = 0 ∨ (a.tk to).forr = p) then upd a.tk to { a.tk to with waiting := false, forr := 0 } else a.tk }
theorem own_lt' {w : World} {B e sz n : Nat} {v : Value} {xs : List Value} (h : w.ownsRow B e sz v n xs) : ∀ b, v.ownBlock = some b → b < w.heap.size := fun _ hb => own_lt h hb
theorem new4 (w : World) (l : List Value) : ∀ j u, l[j]? = some u → (w.alloc (.cells l.toArray 31)).cell? ((⟨w.heap.size, 0, none⟩ : Addr).add j) = some u := by
  intro j u hu
  rw [Addr.add_lit, Nat.zero_add]
  exact (cell_of (alloc_new w _) j).trans (by simpa using hu)

/-- What a call leaves. -/
def LeftR (B xb : Nat) (h : RG) (a : A) (w : World) (v : Value) (a' : A) : Ending → World → Prop := fun e w' => e = .returned v ∧ ∃ h', Left B xb h a w h' a' w'

set_option maxHeartbeats 4000000 in
set_option maxRecDepth 100000 in
/-- The moves' part of enqueue: from the region that draws. -/
theorem mv_append (B xb : Nat) (h : RG) (a0 : A) (W2 w3 : World) (r2 : RRep B xb h a0 W2) (p frm to : Int) (va : Option Addr) (vc : Nat) (hv : h.mv = .slice va a0.moves.length vc) (v' : Value)
    (hown' : w3.ownsRow B 31 4 v' (a0.moves.length + 1) (a0.moves.flatMap mcells ++ [.int .i64 a0.calls, .int .i64 p, .int .i64 frm, .int .i64 to])) (hg3 : W2.grownBy w3 (Value.slice va a0.moves.length vc).ownBlock) (hloc : v'.ownBlock = (Value.slice va a0.moves.length vc).ownBlock ∨ v'.ownBlock = some (W2.heap.size + 1)) :
    Left B xb h a0 W2 { h with mv := v' } { a0 with moves := a0.moves ++ [(a0.calls, p, frm, to)] } (w3.setCell ⟨xb, 7, none⟩ v') := by
  have hm2 := r2.mrow
  have hne : ∀ b c t f, W2.heap[b]? = some (.cells c t f) → t ≠ 31 → some b ≠ (Value.slice va a0.moves.length vc).ownBlock := fun b c t f hb ht e => by
    rw [← hv] at e
    exact own_ty hm2 hb (fun e2 => ht e2) e.symm
  have hblk3 : w3.heap[xb]? = some (.cells (rcells h a0) 63 (0, 0)) := (hg3.block xb (blt r2.blk) (hne _ _ _ _ r2.blk (by decide))).trans r2.blk
  have hT : Touch W2 (w3.setCell ⟨xb, 7, none⟩ v') (fun k => k = xb ∨ h.mv.ownBlock = some k) := by
    rw [hv]
    exact ((Touch.grown hg3).mono (fun k _ hk => .inr hk.symm)).trans (Touch.setCell _ _ _ (.inl rfl))
  have nx : ∀ {e sz v n xs}, W2.ownsRow B e sz v n xs → e ≠ 63 → e ≠ 31 → (w3.setCell ⟨xb, 7, none⟩ v').ownsRow B e sz v n xs := fun {e sz v n xs} ho h1 h2 => row_kept hT ho (fun b hb hs => by
    rcases hs with rfl | hs
    · exact own_ty ho r2.blk (fun e2 => h1 e2.symm) hb
    · exact own_own ho hm2 h2 hb hs)
  have hv3 : (v'.ownBlock = h.mv.ownBlock ∨ ∃ b, v'.ownBlock = some b ∧ W2.heap.size ≤ b) := by
    rw [hv]
    rcases hloc with hl | hl
    · exact .inl hl
    · exact .inr ⟨_, hl, by omega⟩
  refine r2.setAll h.tv h.pv v' { a0 with moves := a0.moves ++ [(a0.calls, p, frm, to)] } (hT.mono (fun k _ hk => by
    rcases hk with hk | hk
    · exact .inl hk
    · exact .inr (.inr (.inr hk)))) ?_ (nx r2.trow (by decide) (by decide)) (nx r2.prow (by decide) (by decide)) ?_ (fun i hi => ⟨hi, rfl⟩) (fun _ hb => .inl hb) (fun _ hb => .inl hb) (fresh_of hv3)
  · have := set_same hblk3 7 v'
    simpa [rcells] using this
  · have e : (a0.moves ++ [(a0.calls, p, frm, to)]).flatMap mcells = a0.moves.flatMap mcells ++ [.int .i64 a0.calls, .int .i64 p, .int .i64 frm, .int .i64 to] := by simp [mcells]
    show (w3.setCell ⟨xb, 7, none⟩ v').ownsRow B 31 4 v' (a0.moves ++ [(a0.calls, p, frm, to)]).length ((a0.moves ++ [(a0.calls, p, frm, to)]).flatMap mcells)
    rw [e, List.length_append, List.length_singleton]
    refine own_keep hown' (fun b hb _ => set_other ?_)
    rintro rfl
    exact own_ty hown' hblk3 (by decide) hb

/-- Three stores into a packet. -/
theorem pk_three {B xb : Nat} {h : RG} {a : A} {w : World} (r : RRep B xb h a w) {n g : Nat} (frm to : Int) (hp : ((n : Int) + 1) ∈ a.pids) (hm : (n : Int) < a.made) (hg : h.pv.ownBlock = some g) :
    Left B xb h a w h { a with pk := upd a.pk ((n : Int) + 1) { a.pk ((n : Int) + 1) with at_ := to, frm := frm, wth := 0 } } (((w.setCell ⟨g, n * 7 + 5, none⟩ (.int .i64 frm)).setCell ⟨g, n * 7 + 4, none⟩ (.int .i64 to)).setCell ⟨g, n * 7 + 6, none⟩ (.int .i64 0)) := by
  have hnn : ((n : Int) + 1 - 1).toNat = n := by omega
  have L1 := r.setPk hp ⟨by omega, by omega⟩ hg 5 (by omega) (.int .i64 frm) { a.pk ((n : Int) + 1) with frm := frm } (by simp [rpc, rpk, hp, upd_same])
  rw [hnn] at L1
  have L2 := L1.rep.setPk (p := (n : Int) + 1) hp ⟨by omega, by show (n : Int) + 1 ≤ a.made; omega⟩ hg 4 (by omega) (.int .i64 to) { a.pk ((n : Int) + 1) with frm := frm, at_ := to } (by simp [rpc, rpk, hp, upd_same])
  rw [hnn] at L2
  have L3 := L2.rep.setPk (p := (n : Int) + 1) hp ⟨by omega, by show (n : Int) + 1 ≤ a.made; omega⟩ hg 6 (by omega) (.int .i64 0) { a.pk ((n : Int) + 1) with frm := frm, at_ := to, wth := 0 } (by simp [rpc, rpk, hp, upd_same])
  rw [hnn] at L3
  have L := (L1.trans L2).trans L3
  simp only [upd_upd] at L
  exact L
theorem RRep.k7 {B xb : Nat} {h : RG} {a : A} {w : World} (r : RRep B xb h a w) : w.cell? ⟨xb, 7, none⟩ = some h.mv := by rw [cell_of r.blk]; rfl
theorem RRep.k8 {B xb : Nat} {h : RG} {a : A} {w : World} (r : RRep B xb h a w) : w.cell? ⟨xb, 8, none⟩ = some (.int .i64 a.calls) := by rw [cell_of r.blk]; rfl
theorem RRep.k0 {B xb : Nat} {h : RG} {a : A} {w : World} (r : RRep B xb h a w) : w.cell? ⟨xb, 0, none⟩ = some h.tv := by rw [cell_of r.blk]; rfl
theorem RRep.k1 {B xb : Nat} {h : RG} {a : A} {w : World} (r : RRep B xb h a w) : w.cell? ⟨xb, 1, none⟩ = some h.pv := by rw [cell_of r.blk]; rfl
theorem RRep.kf {B xb : Nat} {h : RG} {a : A} {w : World} (r : RRep B xb h a w) (j : Nat) : w.frozen? ⟨xb, j, none⟩ = false := free_of r.blk j
/-- A task's queue grows by one, and is stored. -/
theorem tq_append' {B xb : Nat} {h : RG} {a : A} {w w5 : World} {i p : Int} (r : RRep B xb h a w) (nd : a.tids.Nodup) (hnd : i ∉ devs) {m g : Nat} (hi : a.tids[m]? = some i) (hg : h.tv.ownBlock = some g) (v' : Value)
    (ho : w5.ownsRow B 3 1 v' ((a.q i).length + 1) (((a.q i).map fun p => .int .i64 p) ++ [.int .i64 p])) (hg5 : w.grownBy w5 (h.qv i).ownBlock) (hloc : v'.ownBlock = (h.qv i).ownBlock ∨ ∃ b, v'.ownBlock = some b ∧ w.heap.size ≤ b) :
    Left B xb h a w { h with qv := upd h.qv i v' } { a with q := upd a.q i (a.q i ++ [p]) } (w5.setCell ⟨g, m * 7 + 6, none⟩ v') := by
  have him : i ∈ a.tids := List.mem_of_getElem? hi
  obtain ⟨_, cur, hc⟩ := own_block r.trow hg
  have hlt := (List.getElem?_eq_some_iff.1 hi).1
  refine r.setQt nd hi hnd hg v' (a.q i ++ [p]) (((Touch.grown hg5).mono (fun k _ hk => .inr hk.symm)).trans (Touch.setCell _ _ _ (.inl rfl))) ?_ ?_ (fresh_of hloc)
  · have h5 : w5.ownsRow B 92 7 h.tv a.tids.length (a.tids.flatMap (rtc a h.qv)) := own_keep r.trow (fun b hb hl => hg5.block b hl (fun e => own_own r.trow (r.row i (.inl him)) (by decide) hb e.symm))
    exact row_set h5 hg (by have : (m + 1) * 7 ≤ a.tids.length * 7 := Nat.mul_le_mul_right _ hlt; omega) v'
  · have h6 : (w5.setCell ⟨g, m * 7 + 6, none⟩ v').ownsRow B 3 1 v' ((a.q i).length + 1) (((a.q i).map fun p => .int .i64 p) ++ [.int .i64 p]) := own_keep ho (fun b hb _ => set_other (by
      rintro rfl
      have hc5 : w5.heap[b]? = some (.cells cur 92 (0, 0)) := (hg5.block b (blt hc) (fun e => own_own r.trow (r.row i (.inl him)) (by decide) hg e.symm)).trans hc
      exact own_ty ho hc5 (by decide) hb))
    simpa using h6
/-- A device's queue grows by one, and is stored. -/
theorem dq_append' {B xb : Nat} {h : RG} {a : A} {w w5 : World} {i p : Int} (r : RRep B xb h a w) (hnt : i ∉ a.tids) {k : Nat} (hi : i ∈ devs) (hk : i = -(k : Int) - 1) (v' : Value)
    (ho : w5.ownsRow B 3 1 v' ((a.q i).length + 1) (((a.q i).map fun p => .int .i64 p) ++ [.int .i64 p])) (hg5 : w.grownBy w5 (h.qv i).ownBlock) (hloc : v'.ownBlock = (h.qv i).ownBlock ∨ ∃ b, v'.ownBlock = some b ∧ w.heap.size ≤ b) :
    Left B xb h a w { h with qv := upd h.qv i v' } { a with q := upd a.q i (a.q i ++ [p]) } (w5.setCell ⟨xb, 2 + k, none⟩ v') := by
  have h5 : w5.heap[xb]? = some (.cells (rcells h a) 63 (0, 0)) := (hg5.block xb (blt r.blk) (fun e => own_ty (r.row i (.inr hi)) r.blk (by decide) e.symm)).trans r.blk
  have h6 := set_same h5 (2 + k) v'
  refine r.setQd hi hnt v' (a.q i ++ [p]) (((Touch.grown hg5).mono (fun k _ hk => .inr hk.symm)).trans (Touch.setCell _ _ _ (.inl rfl))) ?_ ?_ (fresh_of hloc)
  · rw [h6]
    have hcase : k = 0 ∨ k = 1 ∨ k = 2 ∨ k = 3 ∨ k = 4 := by rw [devs_iff] at hi; omega
    subst hk
    rcases hcase with rfl | rfl | rfl | rfl | rfl <;> simp [rcells, upd]
  · have h7 : (w5.setCell ⟨xb, 2 + k, none⟩ v').ownsRow B 3 1 v' ((a.q i).length + 1) (((a.q i).map fun p => .int .i64 p) ++ [.int .i64 p]) := own_keep ho (fun b hb _ => set_other (by
      rintro rfl
      exact own_ty ho h5 (by decide) hb))
    simpa using h7
end Go.Proofs.Ytkmgbnklfnjfjaa.Ker
