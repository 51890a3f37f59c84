import Derived.Test.YtkdnkjjnmadhgaaDG
import Derived.Test.YtkdnkjjnmadhgaaMix
import Derived.Laws.ResultCell
import Derived.Laws.Rows
set_option linter.unusedVariables false
set_option linter.unusedSimpArgs false
/-! What a request is answered. -/
namespace Go.Proofs.Ytkdnkjjnmadhgaa.Dev
open Go.RowKit Go.Maps

/-- A request as a device has it. -/
structure Rq where
  pk : Int
  do_ : Int
  a_ : Int
  b_ : Int
  dv : Sl
  at_ : Int
  ord : Int
def encQ (q : Rq) : List Value := [.int .i64 q.pk, .int .i64 q.do_, .int .i64 q.a_, .int .i64 q.b_, slv q.dv, .int .i64 q.at_, .int .i64 q.ord]
theorem info95 : (Try.prog.info? 95).map (·.size) = some 6 := by kernel_rfl
theorem res91 (w : World) (b : Nat) (cs : Array Value) (tmps : Array Value) (hb : w.heap[b]? = some (.cells cs 95 (0, 0))) (hs : cs.size = 6) (h4 : tmps.getD 8 undef = ptr b) :
    (results Try.f91 tmps).run Try.prog w = .ok (.agg cs) w := by
  have h : Try.f91.results = #[.cell 8 95] := rfl
  have h1 : (asAddr (ptr b)).run Try.prog w = .ok ⟨b, 0, none⟩ w := rfl
  have h2 := run_loadVar_row (P := Try.prog) w b 95 95 cs (0, 0) _ hb Try.underlying95 rfl (by rw [info95, hs])
  have h5 : tmps[8]?.getD undef = ptr b := by simpa using h4
  simp only [results, h]
  simp [Sem.run_bind, Result.andThen, h5, h1, h2]
theorem res92 (w : World) (b : Nat) (cs : Array Value) (tmps : Array Value) (hb : w.heap[b]? = some (.cells cs 95 (0, 0))) (hs : cs.size = 6) (h4 : tmps.getD 6 undef = ptr b) :
    (results Try.f92 tmps).run Try.prog w = .ok (.agg cs) w := by
  have h : Try.f92.results = #[.cell 6 95] := rfl
  have h1 : (asAddr (ptr b)).run Try.prog w = .ok ⟨b, 0, none⟩ w := rfl
  have h2 := run_loadVar_row (P := Try.prog) w b 95 95 cs (0, 0) _ hb Try.underlying95 rfl (by rw [info95, hs])
  have h5 : tmps[6]?.getD undef = ptr b := by simpa using h4
  simp only [results, h]
  simp [Sem.run_bind, Result.andThen, h5, h1, h2]

/-- Six cells stored. -/
theorem set6 {w : World} {b : Nat} {ty : TypeId} {a0 a1 a2 a3 a4 a5 : Value} (h : w.heap[b]? = some (.cells #[a0, a1, a2, a3, a4, a5] ty (0, 0))) (y0 y1 y2 y3 y4 y5 : Value) :
    ((((((w.setCell ⟨b, 0, none⟩ y0).setCell ⟨b, 1, none⟩ y1).setCell ⟨b, 2, none⟩ y2).setCell ⟨b, 3, none⟩ y3).setCell ⟨b, 4, none⟩ y4).setCell ⟨b, 5, none⟩ y5).heap[b]? = some (.cells #[y0, y1, y2, y3, y4, y5] ty (0, 0)) ∧
    Touch w ((((((w.setCell ⟨b, 0, none⟩ y0).setCell ⟨b, 1, none⟩ y1).setCell ⟨b, 2, none⟩ y2).setCell ⟨b, 3, none⟩ y3).setCell ⟨b, 4, none⟩ y4).setCell ⟨b, 5, none⟩ y5) (· = b) := by
  have t : ∀ (w : World) (j : Nat) (v : Value), Touch w (w.setCell ⟨b, j, none⟩ v) (· = b) := fun w j v => Touch.setCell w ⟨b, j, none⟩ v (S := (· = b)) rfl
  refine ⟨?_, (((((t _ _ _).trans (t _ _ _)).trans (t _ _ _)).trans (t _ _ _)).trans (t _ _ _)).trans (t _ _ _)⟩
  have e := set_same (set_same (set_same (set_same (set_same (set_same h 0 y0) 1 y1) 2 y2) 3 y3) 4 y4) 5 y5
  simpa using e

set_option maxHeartbeats 1000000 in
set_option maxRecDepth 100000 in
theorem answer_any (w : World) (B : Nat) (q : Rq) (t res : Int) (v : Sl) (xs : List Value) (h : Held B 5 w v xs) (hB : B ≤ w.heap.size) (hn : v.2.1 ≤ 1000000) :
    Calls Try.prog 91 #[.agg (encQ q).toArray, .int .i64 t, .int .i64 res, slv v] w fun e w' => ∃ dv, e = .returned (.agg (encR ⟨q.pk, t, res, dv, 0, q.ord⟩).toArray) ∧ Below w.heap.size w w' ∧ Held B 5 w' dv xs := by
  obtain ⟨pk, do_, a_, b_, dv0, at0, ord⟩ := q
  unfold encQ encR
  have H := Lib.hid h
  have HN := Lib.hid hn
  have HX := Lib.hid h.2.1
  clear h hn
  go_enter Try.func91, Try.ntmps91
  go_wp2
  obtain ⟨W, hW⟩ : ∃ W, W = (w.alloc (.cells #[.int .i64 pk, .int .i64 do_, .int .i64 a_, .int .i64 b_, slv dv0, .int .i64 at0, .int .i64 ord] 99)).alloc (.cells #[.int .i64 0, .int .i64 0, .int .i64 0, .slice none 0 0, .int .i64 0, .int .i64 0] 95) := ⟨_, rfl⟩
  have hb : Below w.heap.size w W := by rw [hW]; exact ((Below.refl _ _).alloc (Nat.le_refl _) _).alloc (by simp) _
  have g1 : W.heap[w.heap.size]? = some (.cells #[.int .i64 pk, .int .i64 do_, .int .i64 a_, .int .i64 b_, slv dv0, .int .i64 at0, .int .i64 ord] 99 (0, 0)) := by rw [hW]; exact alloc_old (alloc_new _ _) _
  have g2 : W.heap[w.heap.size + 1]? = some (.cells #[.int .i64 0, .int .i64 0, .int .i64 0, .slice none 0 0, .int .i64 0, .int .i64 0] 95 (0, 0)) := by
    rw [hW]
    have := alloc_new (w.alloc (.cells #[.int .i64 pk, .int .i64 do_, .int .i64 a_, .int .i64 b_, slv dv0, .int .i64 at0, .int .i64 ord] 99)) (.cells #[.int .i64 0, .int .i64 0, .int .i64 0, .slice none 0 0, .int .i64 0, .int .i64 0] 95)
    rwa [World.size_alloc] at this
  rw [← hW]
  clear hW
  have hh : Held B 5 W v xs := H.out.below hb
  have C47 := Lib.hid (clone_bytes W.drew W.heap.size v.1 v.2.1 v.2.2 xs hh.reads (Nat.le_refl _) hh.2.1 HN.out)
  have z0 : W.cell? ⟨w.heap.size, 0, none⟩ = some (.int .i64 pk) := (cell_of g1 0).trans rfl
  have z6 : W.cell? ⟨w.heap.size, 6, none⟩ = some (.int .i64 ord) := (cell_of g1 6).trans rfl
  have G2 := Lib.hid g2
  have HB := Lib.hid hb
  clear hh g1 g2 hb H
  obtain ⟨C, hCd⟩ : ∃ C : World → Prop, ∀ z, C z ↔ (z.cell? ⟨w.heap.size, 0, none⟩ = some (.int .i64 pk) ∧ z.cell? ⟨w.heap.size, 6, none⟩ = some (.int .i64 ord)) := ⟨_, fun _ => Iff.rfl⟩
  have s0 : ∀ s : {z : World // C z}, s.1.cell? ⟨w.heap.size, 0, none⟩ = some (.int .i64 pk) := fun s => ((hCd s.1).1 s.2).1
  have s6 : ∀ s : {z : World // C z}, s.1.cell? ⟨w.heap.size, 6, none⟩ = some (.int .i64 ord) := fun s => ((hCd s.1).1 s.2).2
  haveI : Nonempty {z : World // C z} := ⟨⟨W, (hCd _).2 ⟨z0, z6⟩⟩⟩
  refine Mix.wp_region_mix C [6, 11] (by kernel_rfl) (by kernel_rfl) ((hCd _).2 ⟨z0, z6⟩) ?_
  have HCD := Lib.hid hCd
  clear hCd
  repeat (refine Mix.mix_still rfl (fun K hK => ?_); go_simp; refine hK _ ?_; clear hK K)
  refine Mix.mix_eff rfl ?_
  go_wp2_with (go_at_call 47; (refine (C47.out).mono ?_); rintro e w1 ⟨v', rfl, hb1, ho1⟩)
  have hb1 : Below W.heap.size W w1 := ⟨hb1.os, hb1.tape, hb1.output, hb1.size, hb1.block⟩
  refine ⟨(HCD.out _).2 ⟨(hb1.cell (lt_of_cell z0)).trans z0, (hb1.cell (lt_of_cell z6)).trans z6⟩, ?_⟩
  have g2 := (hb1.block _ (blt G2.out)).trans G2.out
  obtain ⟨dv, rfl, hdn, hdh⟩ := Held.of_own (B := B) ho1 HX.out
  have HB1 := Lib.hid hb1
  have HD := Lib.hid hdh
  clear hdn hdh hb1 ho1 z0 z6 C47
  have k0 : w1.cell? ⟨w.heap.size + 1, 0, none⟩ = some (.int .i64 0) := (cell_of g2 0).trans rfl
  have f0 := free_of g2 0
  have k1 : w1.cell? ⟨w.heap.size + 1, 1, none⟩ = some (.int .i64 0) := (cell_of g2 1).trans rfl
  have f1 := free_of g2 1
  have k2 : w1.cell? ⟨w.heap.size + 1, 2, none⟩ = some (.int .i64 0) := (cell_of g2 2).trans rfl
  have f2 := free_of g2 2
  have k3 : w1.cell? ⟨w.heap.size + 1, 3, none⟩ = some (.slice none 0 0) := (cell_of g2 3).trans rfl
  have f3 := free_of g2 3
  have k4 : w1.cell? ⟨w.heap.size + 1, 4, none⟩ = some (.int .i64 0) := (cell_of g2 4).trans rfl
  have f4 := free_of g2 4
  have k5 : w1.cell? ⟨w.heap.size + 1, 5, none⟩ = some (.int .i64 0) := (cell_of g2 5).trans rfl
  have f5 := free_of g2 5
  have G3 := Lib.hid g2
  clear g2
  repeat (refine Mix.mix_still rfl (fun K hK => ?_); go_simp; refine hK _ ?_; clear hK K)
  refine Mix.mix_eff rfl ?_
  go_wp2
  refine Mix.mix_nil ?_
  go_wp2
  have h6 := set6 G3.out (.int .i64 pk) (.int .i64 t) (.int .i64 res) (slv dv) (.int .i64 0) (.int .i64 ord)
  have hs : w.heap.size + 1 < W.heap.size := blt G2.out
  have hb6 : Below w.heap.size w _ := (HB.out.trans (HB1.out.mono HB.out.size)).trans (h6.2.below (Nat.le_trans HB.out.size HB1.out.size) (fun k hk => by omega))
  refine bodyPost_ret (res91 _ (w.heap.size + 1) _ _ h6.1 rfl rfl) rfl ⟨dv, rfl, hb6, ?_⟩
  refine HD.out.keep (fun k hk ho => h6.2.block k hk (fun e => ?_))
  subst e
  rcases ho with ho | ⟨cur, ho⟩
  · omega
  · rw [G3.out] at ho
    simp at ho

set_option maxHeartbeats 1000000 in
set_option maxRecDepth 100000 in
theorem refuse_any (w : World) (B : Nat) (q : Rq) (t er : Int) (hB : B ≤ w.heap.size) (he : 0 ≤ er ∧ er ≤ 100000) :
    Calls Try.prog 92 #[.agg (encQ q).toArray, .int .i64 t, .int .i64 er] w fun e w' => ∃ dv, e = .returned (.agg (encR ⟨q.pk, t, -er, dv, 0, q.ord⟩).toArray) ∧ Below w.heap.size w w' ∧ Held B 5 w' dv [] := by
  obtain ⟨W, hW⟩ : ∃ W, W = (w.alloc (.cells (encQ q).toArray 99)).alloc (.cells #[.int .i64 0, .int .i64 0, .int .i64 0, .slice none 0 0, .int .i64 0, .int .i64 0] 95) := ⟨_, rfl⟩
  have hb : Below w.heap.size w W := by rw [hW]; exact ((Below.refl _ _).alloc (Nat.le_refl _) _).alloc (by simp) _
  have g2 : W.heap[w.heap.size + 1]? = some (.cells #[.int .i64 0, .int .i64 0, .int .i64 0, .slice none 0 0, .int .i64 0, .int .i64 0] 95 (0, 0)) := by
    rw [hW]
    have := alloc_new (w.alloc (.cells (encQ q).toArray 99)) (.cells #[.int .i64 0, .int .i64 0, .int .i64 0, .slice none 0 0, .int .i64 0, .int .i64 0] 95)
    rwa [World.size_alloc] at this
  have C91 := Lib.hid (answer_any W B q t (-er) (none, 0, 0) [] Held.nil_ (Nat.le_trans hB hb.size) (by simp))
  have hk : IntKind.i64.wrap (-er) = -er := by rw [IntKind.wrap_i64]; omega
  obtain ⟨pk, do_, a_, b_, dv0, at0, ord⟩ := q
  unfold encQ encR at *
  rw [hW] at C91 g2 hb
  have HB := Lib.hid hb
  have G2 := Lib.hid g2
  have HE := Lib.hid hB
  clear hb g2 hW he hB
  go_enter Try.func92, Try.ntmps92
  go_wp2_with (go_at_call 91; (refine (C91.out).mono ?_); rintro e w1 ⟨dv, rfl, hb1, hd1⟩; have g3 := (hb1.block _ (blt G2.out)).trans G2.out; have k0 := cell_of g3 0; have f0 := free_of g3 0; have k1 := cell_of g3 1; have f1 := free_of g3 1; have k2 := cell_of g3 2; have f2 := free_of g3 2; have k3 := cell_of g3 3; have f3 := free_of g3 3; have k4 := cell_of g3 4; have f4 := free_of g3 4; have k5 := cell_of g3 5; have f5 := free_of g3 5; have G3 := Lib.hid g3; have HB1 := Lib.hid hb1; have HD := Lib.hid hd1; clear hb1 hd1 g3)
  have h6 := set6 G3.out (.int .i64 pk) (.int .i64 t) (.int .i64 (-er)) (slv dv) (.int .i64 0) (.int .i64 ord)
  have hs := blt G2.out
  have hb6 : Below w.heap.size w _ := (HB.out.trans (HB1.out.mono HB.out.size)).trans (h6.2.below (Nat.le_trans HB.out.size HB1.out.size) (fun k hk => by omega))
  refine bodyPost_ret (res92 _ (w.heap.size + 1) _ _ h6.1 rfl rfl) rfl ⟨dv, rfl, hb6, ?_⟩
  refine HD.out.keep (fun k hk ho => h6.2.block k hk (fun e => ?_))
  subst e
  rcases ho with ho | ⟨cur, ho⟩
  · have := HE.out
    omega
  · rw [G3.out] at ho
    simp at ho
end Go.Proofs.Ytkdnkjjnmadhgaa.Dev
