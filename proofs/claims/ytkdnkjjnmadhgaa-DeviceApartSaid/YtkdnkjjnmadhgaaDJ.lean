import Derived.Test.YtkdnkjjnmadhgaaDI
set_option linter.unusedVariables false
set_option linter.unusedSimpArgs false
/-! A disk does a request. -/
namespace Go.Proofs.Ytkdnkjjnmadhgaa.Dev
open Go.RowKit Go.Maps

/-- What a device gives for one reply. -/
def One (B : Nat) (w : World) (q : Rq) (t res : Int) (xs : List Value) (e : Ending) (w' : World) : Prop :=
  ∃ g dv, e = .returned (.slice (some ⟨g, 0, none⟩) 1 1) ∧ w.heap.size ≤ g ∧ w'.heap[g]? = some (.cells (encR ⟨q.pk, t, res, dv, 0, q.ord⟩).toArray 95 (0, 0)) ∧ Held B 5 w' dv xs
def moveF (p : PD) (q : Rq) : Int := max q.at_ p.free + 1 + max (q.a_ - p.arm) (p.arm - q.a_)
/-- Numbers of a disk are as they should be. -/
structure DFit (p : PD) (q : Rq) : Prop where
  at0 : 0 ≤ q.at_
  at1 : q.at_ ≤ 1000000000
  f0 : 0 ≤ p.free
  f1 : p.free ≤ 2000000000
  a0 : 0 ≤ p.arm
  a1 : p.arm ≤ 1000000
  nb : p.blocks.length ≤ 1000000
  bad : p.bad.length ≤ 100000
  blk : ∀ xs ∈ p.blocks, xs.length ≤ 1000000

theorem DRep.put5 {B d : Nat} {m : DM} {p : PD} {w : World} (h : DRep B w d m p) (n : Nat) (f : Int) : DRep B ((w.drewN n).setCell ⟨d, 5, none⟩ (.int .i64 f)) d m { p with free := f } := by
  refine h.set p.arm f ?_ (fun k hl hd _ => Below.heap_setCell (w.drewN n) _ _ _ hd)
  have := set_same (w := w.drewN n) h.cells 5 (.int .i64 f)
  simpa using this
theorem DRep.put4 {B d : Nat} {m : DM} {p : PD} {w : World} (h : DRep B w d m p) (n : Nat) (f : Int) : DRep B ((w.drewN n).setCell ⟨d, 4, none⟩ (.int .i64 f)) d m { p with arm := f } := by
  refine h.set f p.free ?_ (fun k hl hd _ => Below.heap_setCell (w.drewN n) _ _ _ hd)
  have := set_same (w := w.drewN n) h.cells 4 (.int .i64 f)
  simpa using this
theorem DRep.all {B d : Nat} {m : DM} {p : PD} {W : World} (h : DRep B W d m p) : W.cell? ⟨d, 0, none⟩ = some (.slice m.vb.1 m.vb.2.1 m.vb.2.2) ∧ W.cell? ⟨d, 3, none⟩ = some (.slice m.vd.1 m.vd.2.1 m.vd.2.2) ∧ W.cell? ⟨d, 4, none⟩ = some (.int .i64 p.arm) ∧ W.cell? ⟨d, 5, none⟩ = some (.int .i64 p.free) ∧ W.frozen? ⟨d, 4, none⟩ = false ∧ W.frozen? ⟨d, 5, none⟩ = false :=
  ⟨(cell_of h.cells 0).trans rfl, (cell_of h.cells 3).trans rfl, (cell_of h.cells 4).trans rfl, (cell_of h.cells 5).trans rfl, free_of h.cells 4, free_of h.cells 5⟩
theorem DRep.vbn {B d : Nat} {m : DM} {p : PD} {w : World} (h : DRep B w d m p) : m.vb.2.1 = p.blocks.length := by
  obtain ⟨a, c, e⟩ := own_form h.rb
  have : m.vb.2.1 = m.sb.length := by injection e
  rw [this]
  exact h.hb.1
theorem DRep.blk {B d : Nat} {m : DM} {p : PD} {w : World} (h : DRep B w d m p) {k : Nat} {xs : List Value} (hx : p.blocks[k]? = some xs) : ∃ g s, m.vb.1 = some ⟨g, 0, none⟩ ∧ m.sb[k]? = some s ∧ w.cell? ⟨g, k, none⟩ = some (slv s) ∧ Held B 5 w s xs := by
  have hl := (List.getElem?_eq_some_iff.1 hx).1
  have hs : k < m.sb.length := by rw [h.hb.1]; exact hl
  obtain ⟨g, cap, hv, _, _, _, cur, hg, _, _, hc⟩ := own_cell h.rb (by omega)
  have hm : m.vb.1 = some ⟨g, 0, none⟩ := by injection hv
  refine ⟨g, m.sb[k], hm, List.getElem?_eq_getElem hs, ?_, h.hb.2 k _ _ (List.getElem?_eq_getElem hs) hx⟩
  rw [hc k hs]
  simp [hs]
/-- A request in memory. -/
def Box (W : World) (b : Nat) (q : Rq) : Prop := W.heap[b]? = some (.cells (encQ q).toArray 99 (0, 0))
theorem Box.all {W : World} {b : Nat} {q : Rq} (h : Box W b q) : W.cell? ⟨b, 0, none⟩ = some (.int .i64 q.pk) ∧ W.cell? ⟨b, 1, none⟩ = some (.int .i64 q.do_) ∧ W.cell? ⟨b, 2, none⟩ = some (.int .i64 q.a_) ∧ W.cell? ⟨b, 3, none⟩ = some (.int .i64 q.b_) ∧ W.cell? ⟨b, 4, none⟩ = some (.slice q.dv.1 q.dv.2.1 q.dv.2.2) ∧ W.cell? ⟨b, 5, none⟩ = some (.int .i64 q.at_) ∧ W.cell? ⟨b, 6, none⟩ = some (.int .i64 q.ord) :=
  ⟨(cell_of h 0).trans rfl, (cell_of h 1).trans rfl, (cell_of h 2).trans rfl, (cell_of h 3).trans rfl, (cell_of h 4).trans rfl, (cell_of h 5).trans rfl, (cell_of h 6).trans rfl⟩
theorem Box.put {W : World} {b d : Nat} {q : Rq} (h : Box W b q) (hne : b ≠ d) (n j : Nat) (v : Value) : Box ((W.drewN n).setCell ⟨d, j, none⟩ v) b q := (Below.heap_setCell (W.drewN n) _ _ _ hne).trans h

set_option maxHeartbeats 2000000 in
set_option maxRecDepth 100000 in
theorem send_read (w : World) (B d : Nat) (m : DM) (p : PD) (q : Rq) (h : DRep B w d m p) (hf : DFit p q) (hq : q.do_ = 1) (ha : 0 ≤ q.a_) (xs : List Value) (hx : p.blocks[q.a_.toNat]? = some xs) (hdata : q.dv.2.1 = 0) (hbad : q.a_ ∉ p.bad) :
    Calls Try.prog 90 #[ptr d, .agg (encQ q).toArray] w fun e w' => One B w q (moveF p q) 0 xs e w' ∧ DRep B w' d m { p with arm := q.a_, free := moveF p q } ∧ Touch w w' (· = d) := by
  obtain ⟨W, hW⟩ : ∃ W, W = w.alloc (.cells (encQ q).toArray 99) := ⟨_, rfl⟩
  have hbw : Below w.heap.size w W := by rw [hW]; exact (Below.refl _ _).alloc (Nat.le_refl _) _
  have gb : Box W w.heap.size q := by rw [hW]; exact alloc_new _ _
  have hr : DRep B W d m p := h.keep fun k hl _ => hbw.block k hl
  have hdl : d < w.heap.size := blt h.cells
  generalize hQ : (Value.agg (encQ q).toArray) = Q
  go_enter Try.func90, Try.ntmps90
  subst hQ
  go_upto_region 1 with (fail)
  rw [← hW]
  obtain ⟨z0, z1, z2, z3, z4, z5, z6⟩ := gb.all
  obtain ⟨c0, c3, c4, c5, f4, f5⟩ := hr.all
  rw [hq] at z1
  rw [hdata] at z4
  have hne : w.heap.size ≠ d := by omega
  have HR := Lib.hid hr
  have H := Lib.hid h
  have GB := Lib.hid gb
  have HB := Lib.hid hbw
  have HF := Lib.hid hf
  have HQ := Lib.hid hq
  have HD := Lib.hid hdata
  have HA := Lib.hid ha
  have HX := Lib.hid hx
  have HBAD := Lib.hid hbad
  have HDL := Lib.hid hdl
  have HNE := Lib.hid hne
  clear hW h hr gb hbw hf hq hdata ha hx hbad hdl hne
  go_quiet (fail)
  go_upto_region 3 with (fail)
  obtain ⟨F, hF⟩ : ∃ F, F = max q.at_ p.free := ⟨_, rfl⟩
  rw [← hF]
  obtain ⟨W1, hW1⟩ : ∃ W1, W1 = (W.drewN nq).setCell ⟨d, 5, none⟩ (.int .i64 F) := ⟨_, rfl⟩
  rw [← hW1]
  have hr1 : DRep B W1 d m { p with free := F } := by rw [hW1]; exact HR.out.put5 nq F
  have gb1 : Box W1 w.heap.size q := by rw [hW1]; exact GB.out.put HNE.out nq 5 _
  have ht1 : Touch W W1 (· = d) := by rw [hW1]; exact (Touch.drewN W nq _).trans (Touch.setCell _ _ _ (S := (· = d)) rfl)
  clear z0 z1 z2 z3 z4 z5 z6 c0 c3 c4 c5 f4 f5
  obtain ⟨z0, z1, z2, z3, z4, z5, z6⟩ := gb1.all
  obtain ⟨c0, c3, c4, c5, f4, f5⟩ := hr1.all
  rw [HQ.out] at z1
  rw [HD.out] at z4
  have HR1 := Lib.hid hr1
  have GB1 := Lib.hid gb1
  have HT1 := Lib.hid ht1
  have HFF := Lib.hid hF
  clear hr1 gb1 ht1 hF hW1
  have hd1 : decide (q.a_ < 0) = false := by simpa using HA.out
  have hlen : q.a_.toNat < m.vb.2.1 := by rw [HR.out.vbn]; exact (List.getElem?_eq_some_iff.1 HX.out).1
  have hd2 : decide ((m.vb.2.1 : Int) ≤ q.a_) = false := by have := HA.out; simp; omega
  go_upto_region 5 with (fail)
  go_quiet (fail)
  go_upto_region 9 with (fail)
  have HL := Lib.hid hlen
  have hF0 : 0 ≤ F ∧ F ≤ 2000000000 := by rw [HFF.out]; have := HF.out.at0; have := HF.out.at1; have := HF.out.f0; have := HF.out.f1; omega
  have ha1 : q.a_ ≤ 1000000 := by have := HF.out.nb; rw [HR.out.vbn] at hlen; omega
  have ha0 := HA.out
  have hr0 := HF.out.a0
  have hr1 := HF.out.a1
  obtain ⟨G, hG⟩ : ∃ G, G = moveF p q := ⟨_, rfl⟩
  have hGF : F + 1 + max (q.a_ - p.arm) (p.arm - q.a_) = G := by rw [hG, HFF.out]; rfl
  have k1 : IntKind.i64.wrap (F + 1) = F + 1 := by rw [IntKind.wrap_i64]; omega
  have k2 : IntKind.i64.wrap (q.a_ - p.arm) = q.a_ - p.arm := by rw [IntKind.wrap_i64]; omega
  have k3 : IntKind.i64.wrap (p.arm - q.a_) = p.arm - q.a_ := by rw [IntKind.wrap_i64]; omega
  have k4 : IntKind.i64.wrap (F + 1 + max (q.a_ - p.arm) (p.arm - q.a_)) = G := by rw [hGF, IntKind.wrap_i64]; omega
  clear hlen hd2 hd1 hF0 ha1 ha0 hr0 hr1 hGF
  have HG := Lib.hid hG
  clear hG
  obtain ⟨n1, hn1⟩ : ∃ n1, n1 = nq := ⟨_, rfl⟩
  obtain ⟨C, hCd⟩ : ∃ C : World → Prop, ∀ z, C z ↔ (z.cell? ⟨w.heap.size, 2, none⟩ = some (.int .i64 q.a_) ∧ z.cell? ⟨d, 4, none⟩ = some (.int .i64 p.arm)) := ⟨_, fun _ => Iff.rfl⟩
  have s2 : ∀ s : {z : World // C z}, s.1.cell? ⟨w.heap.size, 2, none⟩ = some (.int .i64 q.a_) := fun s => ((hCd s.1).1 s.2).1
  have s4 : ∀ s : {z : World // C z}, s.1.cell? ⟨d, 4, none⟩ = some (.int .i64 p.arm) := fun s => ((hCd s.1).1 s.2).2
  haveI : Nonempty {z : World // C z} := ⟨⟨W1, (hCd _).2 ⟨z2, c4⟩⟩⟩
  refine Mix.wp_region_mix C [23] (by kernel_rfl) (by kernel_rfl) ((hCd _).2 ⟨z2, c4⟩) ?_
  have HCD := Lib.hid hCd
  clear hCd
  repeat (refine Mix.mix_still rfl (fun K hK => ?_); go_simp; refine hK _ ?_; clear hK K)
  refine Mix.mix_eff rfl ?_
  go_wp2
  refine Mix.mix_nil ?_
  go_upto_region 11 with (fail)
  obtain ⟨W3, hW3⟩ : ∃ W3, W3 = ((W1.drewN (nq + 1)).setCell ⟨d, 5, none⟩ (.int .i64 G)).setCell ⟨d, 4, none⟩ (.int .i64 q.a_) := ⟨_, rfl⟩
  rw [← hW3]
  have hr3 : DRep B W3 d m { p with arm := q.a_, free := G } := by rw [hW3]; have := (HR1.out.put5 (nq + 1) G).put4 0 q.a_; rwa [World.drewN_zero] at this
  have gb3 : Box W3 w.heap.size q := by rw [hW3]; have := (GB1.out.put HNE.out (nq + 1) 5 (.int .i64 G)).put HNE.out 0 4 (.int .i64 q.a_); rwa [World.drewN_zero] at this
  have ht3 : Touch W1 W3 (· = d) := by rw [hW3]; exact ((Touch.drewN W1 (nq + 1) _).trans (Touch.setCell _ _ _ (S := (· = d)) rfl)).trans (Touch.setCell _ _ _ (S := (· = d)) rfl)
  clear z0 z1 z2 z3 z4 z5 z6 c0 c3 c4 c5 f4 f5 k1 k2 k3 k4 s2 s4
  obtain ⟨z0, z1, z2, z3, z4, z5, z6⟩ := gb3.all
  obtain ⟨c0, c3, c4, c5, f4, f5⟩ := hr3.all
  obtain ⟨g, sl, hv1, hs1, hcell, hheld⟩ := hr3.blk HX.out
  rw [HQ.out] at z1
  rw [HD.out] at z4
  have hbf : decide (q.a_ ∈ p.bad) = false := by simpa using HBAD.out
  have C93 := Lib.hid (fun n => contains_any (W3.drewN n) B m.vd p.bad q.a_ hr3.hd HF.out.bad)
  rw [hbf] at C93
  rw [hv1] at c0
  have HR3 := Lib.hid hr3
  have GB3 := Lib.hid gb3
  have HT3 := Lib.hid ht3
  have HS := Lib.hid hheld
  clear hr3 gb3 ht3 hW3 hbf hheld hs1
  go_quiet (((refine (C93.out _).mono ?_); (intro e w' h; exact ⟨h.1, _, h.2⟩)))
  go_upto_region 14 with (fail)
  obtain ⟨W4, hW4⟩ : ∃ W4, W4 = W3.drewN nq := ⟨_, rfl⟩
  have hc4 : ∀ {a : Addr} {v : Value}, W3.cell? a = some v → W4.cell? a = some v := fun h => by rw [hW4]; exact h
  have hh4 : W4.heap = W3.heap := by rw [hW4]; rfl
  have hs4 : Held B 5 W4 sl xs := by rw [hW4]; exact HS.out
  have hb4 : B ≤ W4.heap.size := by
    have := HR3.out.low
    have := blt HR3.out.cells
    rw [hh4]; omega
  rw [← hW4]
  replace z0 := hc4 z0
  replace z1 := hc4 z1
  replace z2 := hc4 z2
  replace z3 := hc4 z3
  replace z4 := hc4 z4
  replace z5 := hc4 z5
  replace z6 := hc4 z6
  replace c0 := hc4 c0
  replace c5 := hc4 c5
  replace hcell := hc4 hcell
  have hxl : sl.2.1 ≤ 1000000 := by rw [← hs4.1]; exact HF.out.blk xs (List.mem_of_getElem? HX.out)
  have hidx : q.a_ < (m.vb.2.1 : Int) := by have := HL.out; have := HA.out; omega
  have hpos := HA.out
  have C91 := Lib.hid (answer_any W4.drew B q G 0 sl xs hs4 hb4 hxl)
  have hbox : (encQ q).toArray = #[.int .i64 q.pk, .int .i64 1, .int .i64 q.a_, .int .i64 q.b_, .slice q.dv.1 0 q.dv.2.2, .int .i64 q.at_, .int .i64 q.ord] := by
    unfold encQ
    rw [HQ.out]
    simp only [slv, HD.out]
  rw [hbox] at C91
  unfold encR at C91
  have H4 := Lib.hid hh4
  have HB4 := Lib.hid hb4
  have HT4 := Lib.hid (show Touch W3 W4 (· = d) by rw [hW4]; exact Touch.drewN _ _ _)
  clear hc4 hs4 hW4 hh4 hb4 hxl hbox c3 c4 f4 f5
  obtain ⟨C, hCd⟩ : ∃ C : World → Prop, ∀ z, C z ↔ (z.cell? ⟨w.heap.size, 0, none⟩ = some (.int .i64 q.pk) ∧ z.cell? ⟨w.heap.size, 1, none⟩ = some (.int .i64 1) ∧ z.cell? ⟨w.heap.size, 2, none⟩ = some (.int .i64 q.a_) ∧ z.cell? ⟨w.heap.size, 3, none⟩ = some (.int .i64 q.b_) ∧ z.cell? ⟨w.heap.size, 4, none⟩ = some (.slice q.dv.1 0 q.dv.2.2) ∧ z.cell? ⟨w.heap.size, 5, none⟩ = some (.int .i64 q.at_) ∧ z.cell? ⟨w.heap.size, 6, none⟩ = some (.int .i64 q.ord) ∧ z.cell? ⟨d, 0, none⟩ = some (.slice (some ⟨g, 0, none⟩) m.vb.2.1 m.vb.2.2) ∧ z.cell? ⟨d, 5, none⟩ = some (.int .i64 G) ∧ z.cell? ⟨g, q.a_.toNat, none⟩ = some (slv sl)) := ⟨_, fun _ => Iff.rfl⟩
  have s0 := fun s : {z : World // C z} => ((hCd s.1).1 s.2).1
  have s1 := fun s : {z : World // C z} => ((hCd s.1).1 s.2).2.1
  have s2 := fun s : {z : World // C z} => ((hCd s.1).1 s.2).2.2.1
  have s3 := fun s : {z : World // C z} => ((hCd s.1).1 s.2).2.2.2.1
  have s4 := fun s : {z : World // C z} => ((hCd s.1).1 s.2).2.2.2.2.1
  have s5 := fun s : {z : World // C z} => ((hCd s.1).1 s.2).2.2.2.2.2.1
  have s6 := fun s : {z : World // C z} => ((hCd s.1).1 s.2).2.2.2.2.2.2.1
  have s7 := fun s : {z : World // C z} => ((hCd s.1).1 s.2).2.2.2.2.2.2.2.1
  have s8 := fun s : {z : World // C z} => ((hCd s.1).1 s.2).2.2.2.2.2.2.2.2.1
  have s9 := fun s : {z : World // C z} => ((hCd s.1).1 s.2).2.2.2.2.2.2.2.2.2
  have hC0 := (hCd W4.drew).2 ⟨z0, z1, z2, z3, z4, z5, z6, c0, c5, hcell⟩
  haveI : Nonempty {z : World // C z} := ⟨⟨W4.drew, hC0⟩⟩
  refine Mix.wp_region_mix C [14, 15] (by kernel_rfl) (by kernel_rfl) hC0 ?_
  have HCD := Lib.hid hCd
  have HC0 := Lib.hid hC0
  clear hCd hC0 z0 z1 z2 z3 z4 z5 z6 c0 c5 hcell
  repeat (refine Mix.mix_still rfl (fun K hK => ?_); go_simp; refine hK _ ?_; clear hK K)
  refine Mix.mix_eff rfl ?_
  go_wp2_with (go_at_call 91; (refine (C91.out).mono ?_); rintro e w5 ⟨dv, rfl, hb5, hd5⟩; have HB5 := Lib.hid hb5; have HD5 := Lib.hid hd5; clear hb5 hd5)
  have hk5 : ∀ {a : Addr} {v : Value}, W4.drew.cell? a = some v → w5.cell? a = some v := fun h => (HB5.out.cell (lt_of_cell h)).trans h
  obtain ⟨y0, y1, y2, y3, y4, y5, y6, y7, y8, y9⟩ := (HCD.out _).1 HC0.out
  refine ⟨(HCD.out _).2 ⟨hk5 y0, hk5 y1, hk5 y2, hk5 y3, hk5 y4, hk5 y5, hk5 y6, hk5 y7, hk5 y8, hk5 y9⟩, ?_⟩
  refine Mix.mix_eff rfl ?_
  go_wp2
  refine ⟨(HCD.out _).2 ⟨Lib.cell?_alloc_some _ (hk5 y0), Lib.cell?_alloc_some _ (hk5 y1), Lib.cell?_alloc_some _ (hk5 y2), Lib.cell?_alloc_some _ (hk5 y3), Lib.cell?_alloc_some _ (hk5 y4), Lib.cell?_alloc_some _ (hk5 y5), Lib.cell?_alloc_some _ (hk5 y6), Lib.cell?_alloc_some _ (hk5 y7), Lib.cell?_alloc_some _ (hk5 y8), Lib.cell?_alloc_some _ (hk5 y9)⟩, ?_⟩
  clear hk5 y0 y1 y2 y3 y4 y5 y6 y7 y8 y9
  repeat (refine Mix.mix_still rfl (fun K hK => ?_); go_simp; refine hK _ ?_; clear hK K)
  refine Mix.mix_nil ?_
  go_wp2
  go_ret
  have hb5 : Below W4.heap.size W4 w5 := ⟨HB5.out.os, HB5.out.tape, HB5.out.output, HB5.out.size, HB5.out.block⟩
  have ht5 : Touch w w5 (· = d) := ((((Touch.of_below HB.out).trans HT1.out).trans HT3.out).trans HT4.out).trans (Touch.of_below hb5)
  have ht6 := ht5.trans (Touch.alloc w5 (.cells #[.int .i64 q.pk, .int .i64 G, .int .i64 0, slv dv, .int .i64 0, .int .i64 q.ord] 95) (· = d))
  rw [← HG.out]
  refine ⟨⟨w5.heap.size, dv, rfl, ht5.size, alloc_new _ _, HD5.out.below ((Below.refl _ _).alloc (Nat.le_refl _) _)⟩, HR3.out.keep fun k hl _ => ?_, ht6⟩
  rw [← H4.out] at hl ⊢
  rw [Below.heap_alloc _ _ _ (Nat.lt_of_lt_of_le hl hb5.size)]
  exact hb5.block k hl
end Go.Proofs.Ytkdnkjjnmadhgaa.Dev
