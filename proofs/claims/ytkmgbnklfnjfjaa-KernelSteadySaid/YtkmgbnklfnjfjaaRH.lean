import Derived.Test.YtkmgbnklfnjfjaaRG
/-! The specification's kernel: take. -/
namespace Go.Proofs.Ytkmgbnklfnjfjaa.Ker
open Go.RowKit Go.Maps

/-- Two stores into a packet. -/
theorem pk_two {B xb : Nat} {h : RG} {a : A} {w : World} (r : RRep B xb h a w) {n g : Nat} (own : Int) (hp : ((n : Int) + 1) ∈ a.pids) (hm : (n : Int) < a.made) (hg : h.pv.ownBlock = some g) :
    Left B xb h a w h { a with pk := upd a.pk ((n : Int) + 1) { a.pk ((n : Int) + 1) with at_ := 0, wth := own } } ((w.setCell ⟨g, n * 7 + 4, none⟩ (.int .i64 0)).setCell ⟨g, n * 7 + 6, none⟩ (.int .i64 own)) := by
  have hnn : ((n : Int) + 1 - 1).toNat = n := by omega
  have L2 := r.setPk (p := (n : Int) + 1) hp ⟨by omega, by omega⟩ hg 4 (by omega) (.int .i64 0) { a.pk ((n : Int) + 1) with at_ := 0 } (by simp [rpc, rpk, hp, upd_same])
  rw [hnn] at L2
  have L3 := L2.rep.setPk (p := (n : Int) + 1) hp ⟨by omega, by show (n : Int) + 1 ≤ a.made; omega⟩ hg 6 (by omega) (.int .i64 own) { a.pk ((n : Int) + 1) with at_ := 0, wth := own } (by simp [rpc, rpk, hp, upd_same])
  rw [hnn] at L3
  have L := L2.trans L3
  simp only [upd_upd] at L
  exact L
/-- A task's queue is set to a new row. -/
theorem tq_set {B xb : Nat} {h : RG} {a : A} {w w5 : World} {i : Int} (r : RRep B xb h a w) (nd : a.tids.Nodup) (hnd : i ∉ devs) {m g : Nat} (hi : a.tids[m]? = some i) (hg : h.tv.ownBlock = some g) (v' : Value) (xs : List Int)
    (hb : Below w.heap.size w w5) (ho : w5.ownsRow w.heap.size 3 1 v' xs.length (xs.map fun p => .int .i64 p)) :
    Left B xb h a w { h with qv := upd h.qv i v' } { a with q := upd a.q i xs } (w5.setCell ⟨g, m * 7 + 6, none⟩ v') := by
  have him : i ∈ a.tids := List.mem_of_getElem? hi
  obtain ⟨_, cur, hc⟩ := own_block r.trow hg
  have hlt := (List.getElem?_eq_some_iff.1 hi).1
  have hBw : B ≤ w.heap.size := Nat.le_trans r.low (Nat.le_of_lt (blt r.blk))
  have ht0 : Touch w w5 (fun k => k = g ∨ (h.qv i).ownBlock = some k) := ⟨hb.os, hb.tape, hb.output, hb.size, fun k hk _ => hb.block k hk⟩
  refine r.setQt nd hi hnd hg v' xs (ht0.trans (Touch.setCell _ _ _ (.inl rfl))) ?_ ?_ ?_
  · have h5 : w5.ownsRow B 92 7 h.tv a.tids.length (a.tids.flatMap (rtc a h.qv)) := own_keep r.trow (fun b _ hl => hb.block b hl)
    exact row_set h5 hg (by have : (m + 1) * 7 ≤ a.tids.length * 7 := Nat.mul_le_mul_right _ hlt; omega) v'
  · refine own_base (own_keep ho (fun b hb' _ => set_other ?_)) hBw
    rintro rfl
    exact own_ty ho ((hb.block b (blt hc)).trans hc) (by decide) hb'
  · exact fresh_own ho
/-- A device's queue is set to a new row. -/
theorem dq_set {B xb : Nat} {h : RG} {a : A} {w w5 : World} {i : Int} (r : RRep B xb h a w) (hnt : i ∉ a.tids) {k : Nat} (hi : i ∈ devs) (hk : i = -(k : Int) - 1) (v' : Value) (xs : List Int)
    (hb : Below w.heap.size w w5) (ho : w5.ownsRow w.heap.size 3 1 v' xs.length (xs.map fun p => .int .i64 p)) :
    Left B xb h a w { h with qv := upd h.qv i v' } { a with q := upd a.q i xs } (w5.setCell ⟨xb, 2 + k, none⟩ v') := by
  have h5 : w5.heap[xb]? = some (.cells (rcells h a) 63 (0, 0)) := (hb.block xb (blt r.blk)).trans r.blk
  have h6 := set_same h5 (2 + k) v'
  have hBw : B ≤ w.heap.size := Nat.le_trans r.low (Nat.le_of_lt (blt r.blk))
  have ht0 : Touch w w5 (fun k => k = xb ∨ (h.qv i).ownBlock = some k) := ⟨hb.os, hb.tape, hb.output, hb.size, fun k hk _ => hb.block k hk⟩
  refine r.setQd hi hnt v' xs (ht0.trans (Touch.setCell _ _ _ (.inl rfl))) ?_ ?_ (fresh_own ho)
  · rw [h6]
    have hcase : k = 0 ∨ k = 1 ∨ k = 2 ∨ k = 3 ∨ k = 4 := by rw [devs_iff] at hi; omega
    subst hk
    rcases hcase with rfl | rfl | rfl | rfl | rfl <;> simp [rcells, upd]
  · refine own_base (own_keep ho (fun b hb' _ => set_other ?_)) hBw
    rintro rfl
    exact own_ty ho h5 (by decide) hb'
set_option maxHeartbeats 4000000 in
set_option maxRecDepth 100000 in
theorem rtake_dev0 (B xb : Nat) (h : RG) (a : A) (w : World) (r : RRep B xb h a w) (gd : Good a) (p own : Int) (hp : p ∈ a.pids) (hat : (a.pk p).at_ = (-1)) :
    Calls Try.prog 65 #[ptr xb, .int .i64 p, .int .i64 own] w (LeftR B xb h a w (.tuple #[]) (ownA a p own)) := by
  have hto : a.owner (-1) := .inr (by decide)
  have hr := gd.pkr p hp
  have hmade := gd.made
  have hN := made_len gd
  obtain ⟨n, rfl⟩ : ∃ n : Nat, p = (n : Int) + 1 := ⟨(p - 1).toNat, by omega⟩
  obtain ⟨g, pc, hpv, ⟨pcur, hpb⟩, hc⟩ := r.pcells gd (n := n) (by omega)
  have k1 := r.k1
  rw [hpv] at k1
  have hnl : n < (pnums a.made).length := by omega
  have hn200 : n ≤ 200 := by omega
  have hpa : rpk a ((n : Int) + 1) = a.pk ((n : Int) + 1) := rpk_in hp
  have q4 : w.cell? ⟨g, n * 7 + 4, none⟩ = some (.int .i64 (-1)) := by
    have := hc 4 (by omega)
    simp only [rpc, hpa, hat] at this
    exact this
  have HQ6 := Lib.hid (show w.cell? ⟨g, n * 7 + 6, none⟩ = some (.int .i64 (a.pk ((n : Int) + 1)).wth) from by have := hc 6 (by omega); simp only [rpc, hpa] at this; exact this)
  have hql := gd.qlen (i := (-1)) hto
  have CW := rwithout w.drew (h.qv (-1)) (a.q (-1)) ((n : Int) + 1) ⟨B, own_keep (r.row (-1) hto) (fun _ _ _ => rfl)⟩ (by omega)
  have HPB := Lib.hid hpb
  have HPV := Lib.hid hpv
  have R := Lib.hid r
  have GD := Lib.hid gd
  have HTO := Lib.hid hto
  have HP := Lib.hid hp
  have HAT := Lib.hid hat
  have hmd : (n : Int) < a.made := by omega
  have hgl := blt hpb
  have hnt : (-1 : Int) ∉ a.tids := fun hh => by have := gd.trng _ hh; omega
  have HNT := Lib.hid hnt
  have hkk : w.cell? ⟨xb, 2, none⟩ = some (h.qv (-1)) := by rw [cell_of r.blk]; rfl
  obtain ⟨va, vc, hqv⟩ := own_form (r.row (-1) hto)
  rw [hqv] at hkk CW
  have HQV := Lib.hid hqv
  have fk := r.kf 2
  have hxs := blt r.blk
  have CWH := Lib.hid CW
  have q5 := HQ6.out
  clear r gd hp hto hc hpv hpb hr hmade hN hnt hqv CW hat hpa
  go_enter Try.func65, Try.ntmps65
  go_wp2_with fail
  obtain ⟨C, hCd⟩ : ∃ C : World → Prop, ∀ x, C x ↔ (x.cell? ⟨xb, 2, none⟩ = some (.slice va (a.q (-1)).length vc) ∧ x.cell? ⟨g, n * 7 + 4, none⟩ = some (.int .i64 (-1))) := ⟨_, fun _ => Iff.rfl⟩
  have hC0 : C w.drew := (hCd _).2 ⟨hkk, q4⟩
  have s7 : ∀ s : {x : World // C x}, s.1.cell? ⟨xb, 2, none⟩ = some (.slice va (a.q (-1)).length vc) := fun s => ((hCd s.1).1 s.2).1
  have s8 : ∀ s : {x : World // C x}, s.1.cell? ⟨g, n * 7 + 4, none⟩ = some (.int .i64 (-1)) := fun s => ((hCd s.1).1 s.2).2
  haveI : Nonempty {x : World // C x} := ⟨⟨_, hC0⟩⟩
  have hw1 : IntKind.i64.wrap 1 = 1 := by rw [IntKind.wrap_i64]; omega
  have hw2 : IntKind.i64.wrap 0 = 0 := by rw [IntKind.wrap_i64]; omega
  refine Mix.wp_region_mix C [19, 23] (by kernel_rfl) (by kernel_rfl) hC0 ?_
  have HCD := Lib.hid hCd
  clear hCd
  repeat (refine Mix.mix_still rfl (fun K hK => ?_); go_simp; refine hK _ ?_; clear hK K)
  refine Mix.mix_eff rfl ?_
  go_wp2_with (go_at_call 89; (refine CWH.out.mono ?_); rintro e w5 ⟨v5, rfl, hb5, ho5⟩; (obtain ⟨qa, qc, rfl⟩ := own_form ho5); have HB5 := Lib.hid (show Below w.heap.size w w5 from ⟨hb5.os, hb5.tape, hb5.output, hb5.size, hb5.block⟩); have HO5 := Lib.hid (show w5.ownsRow w.heap.size 3 1 _ _ _ from ho5); clear hb5 ho5)
  have k5 := (HB5.out.cell (p := ⟨xb, 2, none⟩) hxs).trans hkk
  have p5 := (HB5.out.cell (p := ⟨g, n * 7 + 4, none⟩) hgl).trans q4
  have f5 := (HB5.out.frozen (p := ⟨xb, 2, none⟩) hxs).trans fk
  refine ⟨(HCD.out _).2 ⟨k5, p5⟩, ?_⟩
  repeat (refine Mix.mix_still rfl (fun K hK => ?_); go_simp; refine hK _ ?_; clear hK K)
  refine Mix.mix_eff rfl ?_
  go_wp2_with fail
  refine Mix.mix_nil ?_
  have L5 := Lib.hid (dq_set R.out HNT.out (k := 0) (i := (-1)) (by decide) (by decide) _ _ HB5.out HO5.out)
  have X5 := Lib.hid ((set_other (w := w5) (j := 2) (v := .slice qa ((a.q (-1)).filter fun y => y != (n : Int) + 1).length qc) (ty_ne HPB.out R.out.blk (by decide))).trans ((HB5.out.block g hgl).trans HPB.out))
  generalize hW5 : w5.setCell ⟨xb, 2, none⟩ (.slice qa ((a.q (-1)).filter fun y => y != (n : Int) + 1).length qc) = W5 at L5 X5 ⊢
  clear hW5 k5 p5 f5 s7 s8 hC0 HCD fk
  have y4 : W5.cell? ⟨g, n * 7 + 4, none⟩ = some (.int .i64 (-1)) := (cell_fr X5.out _).trans ((cell_fr HPB.out _).symm.trans q4)
  have y6 : W5.cell? ⟨g, n * 7 + 6, none⟩ = some (.int .i64 (a.pk ((n : Int) + 1)).wth) := (cell_fr X5.out _).trans ((cell_fr HPB.out _).symm.trans HQ6.out)
  have z4 : W5.frozen? ⟨g, n * 7 + 4, none⟩ = false := free_of X5.out _
  have z6 : W5.frozen? ⟨g, n * 7 + 6, none⟩ = false := free_of X5.out _
  clear q4 q5 hkk
  go_wp2_with fail
  go_end0
  have e : ({ a with q := upd a.q (-1) ((a.q (-1)).filter fun y => y != (n : Int) + 1), pk := upd a.pk ((n : Int) + 1) { a.pk ((n : Int) + 1) with at_ := 0, wth := own } } : A) = ownA a ((n : Int) + 1) own := by
    simp only [ownA, HAT.out]
  have L6 := L5.out.trans (pk_two L5.out.rep own HP.out hmd (by show h.pv.ownBlock = some g; rw [HPV.out]; rfl))
  simp only at L6
  rw [e] at L6
  exact ⟨rfl, _, L6⟩
set_option maxHeartbeats 4000000 in
set_option maxRecDepth 100000 in
theorem rtake_dev1 (B xb : Nat) (h : RG) (a : A) (w : World) (r : RRep B xb h a w) (gd : Good a) (p own : Int) (hp : p ∈ a.pids) (hat : (a.pk p).at_ = (-2)) :
    Calls Try.prog 65 #[ptr xb, .int .i64 p, .int .i64 own] w (LeftR B xb h a w (.tuple #[]) (ownA a p own)) := by
  have hto : a.owner (-2) := .inr (by decide)
  have hr := gd.pkr p hp
  have hmade := gd.made
  have hN := made_len gd
  obtain ⟨n, rfl⟩ : ∃ n : Nat, p = (n : Int) + 1 := ⟨(p - 1).toNat, by omega⟩
  obtain ⟨g, pc, hpv, ⟨pcur, hpb⟩, hc⟩ := r.pcells gd (n := n) (by omega)
  have k1 := r.k1
  rw [hpv] at k1
  have hnl : n < (pnums a.made).length := by omega
  have hn200 : n ≤ 200 := by omega
  have hpa : rpk a ((n : Int) + 1) = a.pk ((n : Int) + 1) := rpk_in hp
  have q4 : w.cell? ⟨g, n * 7 + 4, none⟩ = some (.int .i64 (-2)) := by
    have := hc 4 (by omega)
    simp only [rpc, hpa, hat] at this
    exact this
  have HQ6 := Lib.hid (show w.cell? ⟨g, n * 7 + 6, none⟩ = some (.int .i64 (a.pk ((n : Int) + 1)).wth) from by have := hc 6 (by omega); simp only [rpc, hpa] at this; exact this)
  have hql := gd.qlen (i := (-2)) hto
  have CW := rwithout w.drew (h.qv (-2)) (a.q (-2)) ((n : Int) + 1) ⟨B, own_keep (r.row (-2) hto) (fun _ _ _ => rfl)⟩ (by omega)
  have HPB := Lib.hid hpb
  have HPV := Lib.hid hpv
  have R := Lib.hid r
  have GD := Lib.hid gd
  have HTO := Lib.hid hto
  have HP := Lib.hid hp
  have HAT := Lib.hid hat
  have hmd : (n : Int) < a.made := by omega
  have hgl := blt hpb
  have hnt : (-2 : Int) ∉ a.tids := fun hh => by have := gd.trng _ hh; omega
  have HNT := Lib.hid hnt
  have hkk : w.cell? ⟨xb, 3, none⟩ = some (h.qv (-2)) := by rw [cell_of r.blk]; rfl
  obtain ⟨va, vc, hqv⟩ := own_form (r.row (-2) hto)
  rw [hqv] at hkk CW
  have HQV := Lib.hid hqv
  have fk := r.kf 3
  have hxs := blt r.blk
  have CWH := Lib.hid CW
  have q5 := HQ6.out
  clear r gd hp hto hc hpv hpb hr hmade hN hnt hqv CW hat hpa
  go_enter Try.func65, Try.ntmps65
  go_wp2_with fail
  obtain ⟨C, hCd⟩ : ∃ C : World → Prop, ∀ x, C x ↔ (x.cell? ⟨xb, 3, none⟩ = some (.slice va (a.q (-2)).length vc) ∧ x.cell? ⟨g, n * 7 + 4, none⟩ = some (.int .i64 (-2))) := ⟨_, fun _ => Iff.rfl⟩
  have hC0 : C w.drew := (hCd _).2 ⟨hkk, q4⟩
  have s7 : ∀ s : {x : World // C x}, s.1.cell? ⟨xb, 3, none⟩ = some (.slice va (a.q (-2)).length vc) := fun s => ((hCd s.1).1 s.2).1
  have s8 : ∀ s : {x : World // C x}, s.1.cell? ⟨g, n * 7 + 4, none⟩ = some (.int .i64 (-2)) := fun s => ((hCd s.1).1 s.2).2
  haveI : Nonempty {x : World // C x} := ⟨⟨_, hC0⟩⟩
  have hw1 : IntKind.i64.wrap 2 = 2 := by rw [IntKind.wrap_i64]; omega
  have hw2 : IntKind.i64.wrap 1 = 1 := by rw [IntKind.wrap_i64]; omega
  refine Mix.wp_region_mix C [19, 23] (by kernel_rfl) (by kernel_rfl) hC0 ?_
  have HCD := Lib.hid hCd
  clear hCd
  repeat (refine Mix.mix_still rfl (fun K hK => ?_); go_simp; refine hK _ ?_; clear hK K)
  refine Mix.mix_eff rfl ?_
  go_wp2_with (go_at_call 89; (refine CWH.out.mono ?_); rintro e w5 ⟨v5, rfl, hb5, ho5⟩; (obtain ⟨qa, qc, rfl⟩ := own_form ho5); have HB5 := Lib.hid (show Below w.heap.size w w5 from ⟨hb5.os, hb5.tape, hb5.output, hb5.size, hb5.block⟩); have HO5 := Lib.hid (show w5.ownsRow w.heap.size 3 1 _ _ _ from ho5); clear hb5 ho5)
  have k5 := (HB5.out.cell (p := ⟨xb, 3, none⟩) hxs).trans hkk
  have p5 := (HB5.out.cell (p := ⟨g, n * 7 + 4, none⟩) hgl).trans q4
  have f5 := (HB5.out.frozen (p := ⟨xb, 3, none⟩) hxs).trans fk
  refine ⟨(HCD.out _).2 ⟨k5, p5⟩, ?_⟩
  repeat (refine Mix.mix_still rfl (fun K hK => ?_); go_simp; refine hK _ ?_; clear hK K)
  refine Mix.mix_eff rfl ?_
  go_wp2_with fail
  refine Mix.mix_nil ?_
  have L5 := Lib.hid (dq_set R.out HNT.out (k := 1) (i := (-2)) (by decide) (by decide) _ _ HB5.out HO5.out)
  have X5 := Lib.hid ((set_other (w := w5) (j := 3) (v := .slice qa ((a.q (-2)).filter fun y => y != (n : Int) + 1).length qc) (ty_ne HPB.out R.out.blk (by decide))).trans ((HB5.out.block g hgl).trans HPB.out))
  generalize hW5 : w5.setCell ⟨xb, 3, none⟩ (.slice qa ((a.q (-2)).filter fun y => y != (n : Int) + 1).length qc) = W5 at L5 X5 ⊢
  clear hW5 k5 p5 f5 s7 s8 hC0 HCD fk
  have y4 : W5.cell? ⟨g, n * 7 + 4, none⟩ = some (.int .i64 (-2)) := (cell_fr X5.out _).trans ((cell_fr HPB.out _).symm.trans q4)
  have y6 : W5.cell? ⟨g, n * 7 + 6, none⟩ = some (.int .i64 (a.pk ((n : Int) + 1)).wth) := (cell_fr X5.out _).trans ((cell_fr HPB.out _).symm.trans HQ6.out)
  have z4 : W5.frozen? ⟨g, n * 7 + 4, none⟩ = false := free_of X5.out _
  have z6 : W5.frozen? ⟨g, n * 7 + 6, none⟩ = false := free_of X5.out _
  clear q4 q5 hkk
  go_wp2_with fail
  go_end0
  have e : ({ a with q := upd a.q (-2) ((a.q (-2)).filter fun y => y != (n : Int) + 1), pk := upd a.pk ((n : Int) + 1) { a.pk ((n : Int) + 1) with at_ := 0, wth := own } } : A) = ownA a ((n : Int) + 1) own := by
    simp only [ownA, HAT.out]
  have L6 := L5.out.trans (pk_two L5.out.rep own HP.out hmd (by show h.pv.ownBlock = some g; rw [HPV.out]; rfl))
  simp only at L6
  rw [e] at L6
  exact ⟨rfl, _, L6⟩
set_option maxHeartbeats 4000000 in
set_option maxRecDepth 100000 in
theorem rtake_dev2 (B xb : Nat) (h : RG) (a : A) (w : World) (r : RRep B xb h a w) (gd : Good a) (p own : Int) (hp : p ∈ a.pids) (hat : (a.pk p).at_ = (-3)) :
    Calls Try.prog 65 #[ptr xb, .int .i64 p, .int .i64 own] w (LeftR B xb h a w (.tuple #[]) (ownA a p own)) := by
  have hto : a.owner (-3) := .inr (by decide)
  have hr := gd.pkr p hp
  have hmade := gd.made
  have hN := made_len gd
  obtain ⟨n, rfl⟩ : ∃ n : Nat, p = (n : Int) + 1 := ⟨(p - 1).toNat, by omega⟩
  obtain ⟨g, pc, hpv, ⟨pcur, hpb⟩, hc⟩ := r.pcells gd (n := n) (by omega)
  have k1 := r.k1
  rw [hpv] at k1
  have hnl : n < (pnums a.made).length := by omega
  have hn200 : n ≤ 200 := by omega
  have hpa : rpk a ((n : Int) + 1) = a.pk ((n : Int) + 1) := rpk_in hp
  have q4 : w.cell? ⟨g, n * 7 + 4, none⟩ = some (.int .i64 (-3)) := by
    have := hc 4 (by omega)
    simp only [rpc, hpa, hat] at this
    exact this
  have HQ6 := Lib.hid (show w.cell? ⟨g, n * 7 + 6, none⟩ = some (.int .i64 (a.pk ((n : Int) + 1)).wth) from by have := hc 6 (by omega); simp only [rpc, hpa] at this; exact this)
  have hql := gd.qlen (i := (-3)) hto
  have CW := rwithout w.drew (h.qv (-3)) (a.q (-3)) ((n : Int) + 1) ⟨B, own_keep (r.row (-3) hto) (fun _ _ _ => rfl)⟩ (by omega)
  have HPB := Lib.hid hpb
  have HPV := Lib.hid hpv
  have R := Lib.hid r
  have GD := Lib.hid gd
  have HTO := Lib.hid hto
  have HP := Lib.hid hp
  have HAT := Lib.hid hat
  have hmd : (n : Int) < a.made := by omega
  have hgl := blt hpb
  have hnt : (-3 : Int) ∉ a.tids := fun hh => by have := gd.trng _ hh; omega
  have HNT := Lib.hid hnt
  have hkk : w.cell? ⟨xb, 4, none⟩ = some (h.qv (-3)) := by rw [cell_of r.blk]; rfl
  obtain ⟨va, vc, hqv⟩ := own_form (r.row (-3) hto)
  rw [hqv] at hkk CW
  have HQV := Lib.hid hqv
  have fk := r.kf 4
  have hxs := blt r.blk
  have CWH := Lib.hid CW
  have q5 := HQ6.out
  clear r gd hp hto hc hpv hpb hr hmade hN hnt hqv CW hat hpa
  go_enter Try.func65, Try.ntmps65
  go_wp2_with fail
  obtain ⟨C, hCd⟩ : ∃ C : World → Prop, ∀ x, C x ↔ (x.cell? ⟨xb, 4, none⟩ = some (.slice va (a.q (-3)).length vc) ∧ x.cell? ⟨g, n * 7 + 4, none⟩ = some (.int .i64 (-3))) := ⟨_, fun _ => Iff.rfl⟩
  have hC0 : C w.drew := (hCd _).2 ⟨hkk, q4⟩
  have s7 : ∀ s : {x : World // C x}, s.1.cell? ⟨xb, 4, none⟩ = some (.slice va (a.q (-3)).length vc) := fun s => ((hCd s.1).1 s.2).1
  have s8 : ∀ s : {x : World // C x}, s.1.cell? ⟨g, n * 7 + 4, none⟩ = some (.int .i64 (-3)) := fun s => ((hCd s.1).1 s.2).2
  haveI : Nonempty {x : World // C x} := ⟨⟨_, hC0⟩⟩
  have hw1 : IntKind.i64.wrap 3 = 3 := by rw [IntKind.wrap_i64]; omega
  have hw2 : IntKind.i64.wrap 2 = 2 := by rw [IntKind.wrap_i64]; omega
  refine Mix.wp_region_mix C [19, 23] (by kernel_rfl) (by kernel_rfl) hC0 ?_
  have HCD := Lib.hid hCd
  clear hCd
  repeat (refine Mix.mix_still rfl (fun K hK => ?_); go_simp; refine hK _ ?_; clear hK K)
  refine Mix.mix_eff rfl ?_
  go_wp2_with (go_at_call 89; (refine CWH.out.mono ?_); rintro e w5 ⟨v5, rfl, hb5, ho5⟩; (obtain ⟨qa, qc, rfl⟩ := own_form ho5); have HB5 := Lib.hid (show Below w.heap.size w w5 from ⟨hb5.os, hb5.tape, hb5.output, hb5.size, hb5.block⟩); have HO5 := Lib.hid (show w5.ownsRow w.heap.size 3 1 _ _ _ from ho5); clear hb5 ho5)
  have k5 := (HB5.out.cell (p := ⟨xb, 4, none⟩) hxs).trans hkk
  have p5 := (HB5.out.cell (p := ⟨g, n * 7 + 4, none⟩) hgl).trans q4
  have f5 := (HB5.out.frozen (p := ⟨xb, 4, none⟩) hxs).trans fk
  refine ⟨(HCD.out _).2 ⟨k5, p5⟩, ?_⟩
  repeat (refine Mix.mix_still rfl (fun K hK => ?_); go_simp; refine hK _ ?_; clear hK K)
  refine Mix.mix_eff rfl ?_
  go_wp2_with fail
  refine Mix.mix_nil ?_
  have L5 := Lib.hid (dq_set R.out HNT.out (k := 2) (i := (-3)) (by decide) (by decide) _ _ HB5.out HO5.out)
  have X5 := Lib.hid ((set_other (w := w5) (j := 4) (v := .slice qa ((a.q (-3)).filter fun y => y != (n : Int) + 1).length qc) (ty_ne HPB.out R.out.blk (by decide))).trans ((HB5.out.block g hgl).trans HPB.out))
  generalize hW5 : w5.setCell ⟨xb, 4, none⟩ (.slice qa ((a.q (-3)).filter fun y => y != (n : Int) + 1).length qc) = W5 at L5 X5 ⊢
  clear hW5 k5 p5 f5 s7 s8 hC0 HCD fk
  have y4 : W5.cell? ⟨g, n * 7 + 4, none⟩ = some (.int .i64 (-3)) := (cell_fr X5.out _).trans ((cell_fr HPB.out _).symm.trans q4)
  have y6 : W5.cell? ⟨g, n * 7 + 6, none⟩ = some (.int .i64 (a.pk ((n : Int) + 1)).wth) := (cell_fr X5.out _).trans ((cell_fr HPB.out _).symm.trans HQ6.out)
  have z4 : W5.frozen? ⟨g, n * 7 + 4, none⟩ = false := free_of X5.out _
  have z6 : W5.frozen? ⟨g, n * 7 + 6, none⟩ = false := free_of X5.out _
  clear q4 q5 hkk
  go_wp2_with fail
  go_end0
  have e : ({ a with q := upd a.q (-3) ((a.q (-3)).filter fun y => y != (n : Int) + 1), pk := upd a.pk ((n : Int) + 1) { a.pk ((n : Int) + 1) with at_ := 0, wth := own } } : A) = ownA a ((n : Int) + 1) own := by
    simp only [ownA, HAT.out]
  have L6 := L5.out.trans (pk_two L5.out.rep own HP.out hmd (by show h.pv.ownBlock = some g; rw [HPV.out]; rfl))
  simp only at L6
  rw [e] at L6
  exact ⟨rfl, _, L6⟩
set_option maxHeartbeats 4000000 in
set_option maxRecDepth 100000 in
theorem rtake_dev3 (B xb : Nat) (h : RG) (a : A) (w : World) (r : RRep B xb h a w) (gd : Good a) (p own : Int) (hp : p ∈ a.pids) (hat : (a.pk p).at_ = (-4)) :
    Calls Try.prog 65 #[ptr xb, .int .i64 p, .int .i64 own] w (LeftR B xb h a w (.tuple #[]) (ownA a p own)) := by
  have hto : a.owner (-4) := .inr (by decide)
  have hr := gd.pkr p hp
  have hmade := gd.made
  have hN := made_len gd
  obtain ⟨n, rfl⟩ : ∃ n : Nat, p = (n : Int) + 1 := ⟨(p - 1).toNat, by omega⟩
  obtain ⟨g, pc, hpv, ⟨pcur, hpb⟩, hc⟩ := r.pcells gd (n := n) (by omega)
  have k1 := r.k1
  rw [hpv] at k1
  have hnl : n < (pnums a.made).length := by omega
  have hn200 : n ≤ 200 := by omega
  have hpa : rpk a ((n : Int) + 1) = a.pk ((n : Int) + 1) := rpk_in hp
  have q4 : w.cell? ⟨g, n * 7 + 4, none⟩ = some (.int .i64 (-4)) := by
    have := hc 4 (by omega)
    simp only [rpc, hpa, hat] at this
    exact this
  have HQ6 := Lib.hid (show w.cell? ⟨g, n * 7 + 6, none⟩ = some (.int .i64 (a.pk ((n : Int) + 1)).wth) from by have := hc 6 (by omega); simp only [rpc, hpa] at this; exact this)
  have hql := gd.qlen (i := (-4)) hto
  have CW := rwithout w.drew (h.qv (-4)) (a.q (-4)) ((n : Int) + 1) ⟨B, own_keep (r.row (-4) hto) (fun _ _ _ => rfl)⟩ (by omega)
  have HPB := Lib.hid hpb
  have HPV := Lib.hid hpv
  have R := Lib.hid r
  have GD := Lib.hid gd
  have HTO := Lib.hid hto
  have HP := Lib.hid hp
  have HAT := Lib.hid hat
  have hmd : (n : Int) < a.made := by omega
  have hgl := blt hpb
  have hnt : (-4 : Int) ∉ a.tids := fun hh => by have := gd.trng _ hh; omega
  have HNT := Lib.hid hnt
  have hkk : w.cell? ⟨xb, 5, none⟩ = some (h.qv (-4)) := by rw [cell_of r.blk]; rfl
  obtain ⟨va, vc, hqv⟩ := own_form (r.row (-4) hto)
  rw [hqv] at hkk CW
  have HQV := Lib.hid hqv
  have fk := r.kf 5
  have hxs := blt r.blk
  have CWH := Lib.hid CW
  have q5 := HQ6.out
  clear r gd hp hto hc hpv hpb hr hmade hN hnt hqv CW hat hpa
  go_enter Try.func65, Try.ntmps65
  go_wp2_with fail
  obtain ⟨C, hCd⟩ : ∃ C : World → Prop, ∀ x, C x ↔ (x.cell? ⟨xb, 5, none⟩ = some (.slice va (a.q (-4)).length vc) ∧ x.cell? ⟨g, n * 7 + 4, none⟩ = some (.int .i64 (-4))) := ⟨_, fun _ => Iff.rfl⟩
  have hC0 : C w.drew := (hCd _).2 ⟨hkk, q4⟩
  have s7 : ∀ s : {x : World // C x}, s.1.cell? ⟨xb, 5, none⟩ = some (.slice va (a.q (-4)).length vc) := fun s => ((hCd s.1).1 s.2).1
  have s8 : ∀ s : {x : World // C x}, s.1.cell? ⟨g, n * 7 + 4, none⟩ = some (.int .i64 (-4)) := fun s => ((hCd s.1).1 s.2).2
  haveI : Nonempty {x : World // C x} := ⟨⟨_, hC0⟩⟩
  have hw1 : IntKind.i64.wrap 4 = 4 := by rw [IntKind.wrap_i64]; omega
  have hw2 : IntKind.i64.wrap 3 = 3 := by rw [IntKind.wrap_i64]; omega
  refine Mix.wp_region_mix C [19, 23] (by kernel_rfl) (by kernel_rfl) hC0 ?_
  have HCD := Lib.hid hCd
  clear hCd
  repeat (refine Mix.mix_still rfl (fun K hK => ?_); go_simp; refine hK _ ?_; clear hK K)
  refine Mix.mix_eff rfl ?_
  go_wp2_with (go_at_call 89; (refine CWH.out.mono ?_); rintro e w5 ⟨v5, rfl, hb5, ho5⟩; (obtain ⟨qa, qc, rfl⟩ := own_form ho5); have HB5 := Lib.hid (show Below w.heap.size w w5 from ⟨hb5.os, hb5.tape, hb5.output, hb5.size, hb5.block⟩); have HO5 := Lib.hid (show w5.ownsRow w.heap.size 3 1 _ _ _ from ho5); clear hb5 ho5)
  have k5 := (HB5.out.cell (p := ⟨xb, 5, none⟩) hxs).trans hkk
  have p5 := (HB5.out.cell (p := ⟨g, n * 7 + 4, none⟩) hgl).trans q4
  have f5 := (HB5.out.frozen (p := ⟨xb, 5, none⟩) hxs).trans fk
  refine ⟨(HCD.out _).2 ⟨k5, p5⟩, ?_⟩
  repeat (refine Mix.mix_still rfl (fun K hK => ?_); go_simp; refine hK _ ?_; clear hK K)
  refine Mix.mix_eff rfl ?_
  go_wp2_with fail
  refine Mix.mix_nil ?_
  have L5 := Lib.hid (dq_set R.out HNT.out (k := 3) (i := (-4)) (by decide) (by decide) _ _ HB5.out HO5.out)
  have X5 := Lib.hid ((set_other (w := w5) (j := 5) (v := .slice qa ((a.q (-4)).filter fun y => y != (n : Int) + 1).length qc) (ty_ne HPB.out R.out.blk (by decide))).trans ((HB5.out.block g hgl).trans HPB.out))
  generalize hW5 : w5.setCell ⟨xb, 5, none⟩ (.slice qa ((a.q (-4)).filter fun y => y != (n : Int) + 1).length qc) = W5 at L5 X5 ⊢
  clear hW5 k5 p5 f5 s7 s8 hC0 HCD fk
  have y4 : W5.cell? ⟨g, n * 7 + 4, none⟩ = some (.int .i64 (-4)) := (cell_fr X5.out _).trans ((cell_fr HPB.out _).symm.trans q4)
  have y6 : W5.cell? ⟨g, n * 7 + 6, none⟩ = some (.int .i64 (a.pk ((n : Int) + 1)).wth) := (cell_fr X5.out _).trans ((cell_fr HPB.out _).symm.trans HQ6.out)
  have z4 : W5.frozen? ⟨g, n * 7 + 4, none⟩ = false := free_of X5.out _
  have z6 : W5.frozen? ⟨g, n * 7 + 6, none⟩ = false := free_of X5.out _
  clear q4 q5 hkk
  go_wp2_with fail
  go_end0
  have e : ({ a with q := upd a.q (-4) ((a.q (-4)).filter fun y => y != (n : Int) + 1), pk := upd a.pk ((n : Int) + 1) { a.pk ((n : Int) + 1) with at_ := 0, wth := own } } : A) = ownA a ((n : Int) + 1) own := by
    simp only [ownA, HAT.out]
  have L6 := L5.out.trans (pk_two L5.out.rep own HP.out hmd (by show h.pv.ownBlock = some g; rw [HPV.out]; rfl))
  simp only at L6
  rw [e] at L6
  exact ⟨rfl, _, L6⟩
set_option maxHeartbeats 4000000 in
set_option maxRecDepth 100000 in
theorem rtake_dev4 (B xb : Nat) (h : RG) (a : A) (w : World) (r : RRep B xb h a w) (gd : Good a) (p own : Int) (hp : p ∈ a.pids) (hat : (a.pk p).at_ = (-5)) :
    Calls Try.prog 65 #[ptr xb, .int .i64 p, .int .i64 own] w (LeftR B xb h a w (.tuple #[]) (ownA a p own)) := by
  have hto : a.owner (-5) := .inr (by decide)
  have hr := gd.pkr p hp
  have hmade := gd.made
  have hN := made_len gd
  obtain ⟨n, rfl⟩ : ∃ n : Nat, p = (n : Int) + 1 := ⟨(p - 1).toNat, by omega⟩
  obtain ⟨g, pc, hpv, ⟨pcur, hpb⟩, hc⟩ := r.pcells gd (n := n) (by omega)
  have k1 := r.k1
  rw [hpv] at k1
  have hnl : n < (pnums a.made).length := by omega
  have hn200 : n ≤ 200 := by omega
  have hpa : rpk a ((n : Int) + 1) = a.pk ((n : Int) + 1) := rpk_in hp
  have q4 : w.cell? ⟨g, n * 7 + 4, none⟩ = some (.int .i64 (-5)) := by
    have := hc 4 (by omega)
    simp only [rpc, hpa, hat] at this
    exact this
  have HQ6 := Lib.hid (show w.cell? ⟨g, n * 7 + 6, none⟩ = some (.int .i64 (a.pk ((n : Int) + 1)).wth) from by have := hc 6 (by omega); simp only [rpc, hpa] at this; exact this)
  have hql := gd.qlen (i := (-5)) hto
  have CW := rwithout w.drew (h.qv (-5)) (a.q (-5)) ((n : Int) + 1) ⟨B, own_keep (r.row (-5) hto) (fun _ _ _ => rfl)⟩ (by omega)
  have HPB := Lib.hid hpb
  have HPV := Lib.hid hpv
  have R := Lib.hid r
  have GD := Lib.hid gd
  have HTO := Lib.hid hto
  have HP := Lib.hid hp
  have HAT := Lib.hid hat
  have hmd : (n : Int) < a.made := by omega
  have hgl := blt hpb
  have hnt : (-5 : Int) ∉ a.tids := fun hh => by have := gd.trng _ hh; omega
  have HNT := Lib.hid hnt
  have hkk : w.cell? ⟨xb, 6, none⟩ = some (h.qv (-5)) := by rw [cell_of r.blk]; rfl
  obtain ⟨va, vc, hqv⟩ := own_form (r.row (-5) hto)
  rw [hqv] at hkk CW
  have HQV := Lib.hid hqv
  have fk := r.kf 6
  have hxs := blt r.blk
  have CWH := Lib.hid CW
  have q5 := HQ6.out
  clear r gd hp hto hc hpv hpb hr hmade hN hnt hqv CW hat hpa
  go_enter Try.func65, Try.ntmps65
  go_wp2_with fail
  obtain ⟨C, hCd⟩ : ∃ C : World → Prop, ∀ x, C x ↔ (x.cell? ⟨xb, 6, none⟩ = some (.slice va (a.q (-5)).length vc) ∧ x.cell? ⟨g, n * 7 + 4, none⟩ = some (.int .i64 (-5))) := ⟨_, fun _ => Iff.rfl⟩
  have hC0 : C w.drew := (hCd _).2 ⟨hkk, q4⟩
  have s7 : ∀ s : {x : World // C x}, s.1.cell? ⟨xb, 6, none⟩ = some (.slice va (a.q (-5)).length vc) := fun s => ((hCd s.1).1 s.2).1
  have s8 : ∀ s : {x : World // C x}, s.1.cell? ⟨g, n * 7 + 4, none⟩ = some (.int .i64 (-5)) := fun s => ((hCd s.1).1 s.2).2
  haveI : Nonempty {x : World // C x} := ⟨⟨_, hC0⟩⟩
  have hw1 : IntKind.i64.wrap 5 = 5 := by rw [IntKind.wrap_i64]; omega
  have hw2 : IntKind.i64.wrap 4 = 4 := by rw [IntKind.wrap_i64]; omega
  refine Mix.wp_region_mix C [19, 23] (by kernel_rfl) (by kernel_rfl) hC0 ?_
  have HCD := Lib.hid hCd
  clear hCd
  repeat (refine Mix.mix_still rfl (fun K hK => ?_); go_simp; refine hK _ ?_; clear hK K)
  refine Mix.mix_eff rfl ?_
  go_wp2_with (go_at_call 89; (refine CWH.out.mono ?_); rintro e w5 ⟨v5, rfl, hb5, ho5⟩; (obtain ⟨qa, qc, rfl⟩ := own_form ho5); have HB5 := Lib.hid (show Below w.heap.size w w5 from ⟨hb5.os, hb5.tape, hb5.output, hb5.size, hb5.block⟩); have HO5 := Lib.hid (show w5.ownsRow w.heap.size 3 1 _ _ _ from ho5); clear hb5 ho5)
  have k5 := (HB5.out.cell (p := ⟨xb, 6, none⟩) hxs).trans hkk
  have p5 := (HB5.out.cell (p := ⟨g, n * 7 + 4, none⟩) hgl).trans q4
  have f5 := (HB5.out.frozen (p := ⟨xb, 6, none⟩) hxs).trans fk
  refine ⟨(HCD.out _).2 ⟨k5, p5⟩, ?_⟩
  repeat (refine Mix.mix_still rfl (fun K hK => ?_); go_simp; refine hK _ ?_; clear hK K)
  refine Mix.mix_eff rfl ?_
  go_wp2_with fail
  refine Mix.mix_nil ?_
  have L5 := Lib.hid (dq_set R.out HNT.out (k := 4) (i := (-5)) (by decide) (by decide) _ _ HB5.out HO5.out)
  have X5 := Lib.hid ((set_other (w := w5) (j := 6) (v := .slice qa ((a.q (-5)).filter fun y => y != (n : Int) + 1).length qc) (ty_ne HPB.out R.out.blk (by decide))).trans ((HB5.out.block g hgl).trans HPB.out))
  generalize hW5 : w5.setCell ⟨xb, 6, none⟩ (.slice qa ((a.q (-5)).filter fun y => y != (n : Int) + 1).length qc) = W5 at L5 X5 ⊢
  clear hW5 k5 p5 f5 s7 s8 hC0 HCD fk
  have y4 : W5.cell? ⟨g, n * 7 + 4, none⟩ = some (.int .i64 (-5)) := (cell_fr X5.out _).trans ((cell_fr HPB.out _).symm.trans q4)
  have y6 : W5.cell? ⟨g, n * 7 + 6, none⟩ = some (.int .i64 (a.pk ((n : Int) + 1)).wth) := (cell_fr X5.out _).trans ((cell_fr HPB.out _).symm.trans HQ6.out)
  have z4 : W5.frozen? ⟨g, n * 7 + 4, none⟩ = false := free_of X5.out _
  have z6 : W5.frozen? ⟨g, n * 7 + 6, none⟩ = false := free_of X5.out _
  clear q4 q5 hkk
  go_wp2_with fail
  go_end0
  have e : ({ a with q := upd a.q (-5) ((a.q (-5)).filter fun y => y != (n : Int) + 1), pk := upd a.pk ((n : Int) + 1) { a.pk ((n : Int) + 1) with at_ := 0, wth := own } } : A) = ownA a ((n : Int) + 1) own := by
    simp only [ownA, HAT.out]
  have L6 := L5.out.trans (pk_two L5.out.rep own HP.out hmd (by show h.pv.ownBlock = some g; rw [HPV.out]; rfl))
  simp only at L6
  rw [e] at L6
  exact ⟨rfl, _, L6⟩
set_option maxHeartbeats 4000000 in
set_option maxRecDepth 100000 in
theorem rtake_task (B xb : Nat) (h : RG) (a : A) (w : World) (r : RRep B xb h a w) (gd : Good a) (p own to : Int) (hp : p ∈ a.pids) (hat : (a.pk p).at_ = to) (htt : to ∈ a.tids) :
    Calls Try.prog 65 #[ptr xb, .int .i64 p, .int .i64 own] w (LeftR B xb h a w (.tuple #[]) (ownA a p own)) := by
  have hto : a.owner to := .inl htt
  have hr := gd.pkr p hp
  have hmade := gd.made
  have hN := made_len gd
  obtain ⟨n, rfl⟩ : ∃ n : Nat, p = (n : Int) + 1 := ⟨(p - 1).toNat, by omega⟩
  obtain ⟨g, pc, hpv, ⟨pcur, hpb⟩, hc⟩ := r.pcells gd (n := n) (by omega)
  have k1 := r.k1
  rw [hpv] at k1
  have hnl : n < (pnums a.made).length := by omega
  have hn200 : n ≤ 200 := by omega
  have hpa : rpk a ((n : Int) + 1) = a.pk ((n : Int) + 1) := rpk_in hp
  have q4 : w.cell? ⟨g, n * 7 + 4, none⟩ = some (.int .i64 to) := by
    have := hc 4 (by omega)
    simp only [rpc, hpa, hat] at this
    exact this
  have HQ6 := Lib.hid (show w.cell? ⟨g, n * 7 + 6, none⟩ = some (.int .i64 (a.pk ((n : Int) + 1)).wth) from by have := hc 6 (by omega); simp only [rpc, hpa] at this; exact this)
  have hql := gd.qlen (i := to) hto
  have CW := fun q => rwithout (w.drewN q) (h.qv to) (a.q to) ((n : Int) + 1) ⟨B, own_keep (r.row to hto) (fun _ _ _ => rfl)⟩ (by omega)
  have HPB := Lib.hid hpb
  have HPV := Lib.hid hpv
  have R := Lib.hid r
  have GD := Lib.hid gd
  have HTO := Lib.hid hto
  have HP := Lib.hid hp
  have HAT := Lib.hid hat
  have hmd : (n : Int) < a.made := by omega
  have hgl := blt hpb
  have ht1 := gd.trng to htt
  have dto : decide (to < 0) = false := by simp; omega
  have hlt := nodup_bound 20 a.tids gd.tnd (fun x hx => gd.trng x hx)
  obtain ⟨m, hm1, hm2, hm3⟩ := posF_in htt
  have D62 := Lib.hid (show ∀ w', RRep B xb h a w' → Calls Try.prog 62 #[ptr xb, .int .i64 to] w' fun e w'' => e = .returned (.int .i64 m) ∧ w' = w'' from fun w' hr => by
    have := rfind B xb h a w' hr gd.tnd (by omega) to
    rw [hm1] at this
    exact this)
  obtain ⟨gt, ct, hv, ⟨tcur, htb⟩, hct⟩ := row_cells (f := rtc a h.qv) (sz := 7) (fun _ => rfl) r.trow hm2
  have k0 := r.k0
  rw [hv] at k0
  have t6 : w.cell? ⟨gt, m * 7 + 6, none⟩ = some (h.qv to) := hct 6 (by omega)
  obtain ⟨va, vc, hqv⟩ := own_form (r.row to hto)
  rw [hqv] at t6
  have CWH := Lib.hid (show ∀ q, Calls Try.prog 89 #[.slice va (a.q to).length vc, .int .i64 ((n : Int) + 1)] (w.drewN q) fun e w' => ∃ v', e = .returned v' ∧ Below (w.drewN q).heap.size (w.drewN q) w' ∧ w'.ownsRow (w.drewN q).heap.size 3 1 v' ((a.q to).filter fun y => y != (n : Int) + 1).length (((a.q to).filter fun y => y != (n : Int) + 1).map fun p => .int .i64 p) from fun q => by rw [← hqv]; exact CW q)
  have HTB := Lib.hid htb
  have hgt := blt htb
  have hm20 : m ≤ 20 := by omega
  have HM2 := Lib.hid hm2
  have HTV := Lib.hid hv
  have q5 := HQ6.out
  clear r gd hp hto hc hpv hpb hr hmade hN hqv CW hat hpa htt hct hv htb hm1 hm2
  go_enter Try.func65, Try.ntmps65
  go_wp2_with fail
  go_quiet (((refine (D62.out _ ?_).mono ?_); (exact R.out.keep (fun _ _ => rfl)); (intro e w' h; exact ⟨h.1, _, h.2.symm⟩)))
  go_wp2_with (go_at_call 89; (refine (CWH.out nq).mono ?_); rintro e w5 ⟨v5, rfl, hb5, ho5⟩; (obtain ⟨qa, qc, rfl⟩ := own_form ho5); have HB5 := Lib.hid (show Below w.heap.size w w5 from ⟨hb5.os, hb5.tape, hb5.output, hb5.size, hb5.block⟩); have HO5 := Lib.hid (show w5.ownsRow w.heap.size 3 1 _ _ _ from ho5); have y6 := (HB5.out.cell (p := ⟨gt, m * 7 + 6, none⟩) hgt).trans t6; have f6 : w5.frozen? ⟨gt, m * 7 + 6, none⟩ = false := (HB5.out.frozen (p := ⟨gt, m * 7 + 6, none⟩) hgt).trans (free_of HTB.out _); have x4 := (HB5.out.cell (p := ⟨g, n * 7 + 4, none⟩) hgl).trans q4; have x6 := (HB5.out.cell (p := ⟨g, n * 7 + 6, none⟩) hgl).trans q5; have x4f : w5.frozen? ⟨g, n * 7 + 4, none⟩ = false := (HB5.out.frozen (p := ⟨g, n * 7 + 4, none⟩) hgl).trans (free_of HPB.out _); have x6f : w5.frozen? ⟨g, n * 7 + 6, none⟩ = false := (HB5.out.frozen (p := ⟨g, n * 7 + 6, none⟩) hgl).trans (free_of HPB.out _); have hgg : g ≠ gt := ty_ne HPB.out HTB.out (by decide); clear hb5 ho5)
  go_end0
  have L5 := Lib.hid (tq_set R.out (by exact GD.out.tnd) (show to ∉ devs from fun hh => by rw [devs_iff] at hh; omega) HM2.out (by rw [HTV.out]; rfl) _ _ HB5.out HO5.out)
  have e : ({ a with q := upd a.q to ((a.q to).filter fun y => y != (n : Int) + 1), pk := upd a.pk ((n : Int) + 1) { a.pk ((n : Int) + 1) with at_ := 0, wth := own } } : A) = ownA a ((n : Int) + 1) own := by
    simp only [ownA, HAT.out]
  have L6 := L5.out.trans (pk_two L5.out.rep own HP.out hmd (by show h.pv.ownBlock = some g; rw [HPV.out]; rfl))
  simp only at L6
  rw [e] at L6
  exact ⟨rfl, _, L6⟩
theorem rtake (B xb : Nat) (h : RG) (a : A) (w : World) (r : RRep B xb h a w) (gd : Good a) (p own : Int) (hp : p ∈ a.pids) (hat : a.owner (a.pk p).at_) :
    Calls Try.prog 65 #[ptr xb, .int .i64 p, .int .i64 own] w (LeftR B xb h a w (.tuple #[]) (ownA a p own)) := by
  rcases hat with ht | ht
  · exact rtake_task B xb h a w r gd p own _ hp rfl ht
  · have hcase : (a.pk p).at_ = -1 ∨ (a.pk p).at_ = -2 ∨ (a.pk p).at_ = -3 ∨ (a.pk p).at_ = -4 ∨ (a.pk p).at_ = -5 := by rw [devs_iff] at ht; omega
    rcases hcase with hc | hc | hc | hc | hc
    · exact rtake_dev0 B xb h a w r gd p own hp hc
    · exact rtake_dev1 B xb h a w r gd p own hp hc
    · exact rtake_dev2 B xb h a w r gd p own hp hc
    · exact rtake_dev3 B xb h a w r gd p own hp hc
    · exact rtake_dev4 B xb h a w r gd p own hp hc
end Go.Proofs.Ytkmgbnklfnjfjaa.Ker
